/- Lists of plain values as rows of abstract ones: what simp wants to know of them. No condition. -/
import Derived.Test.YtahmmpmmmkbemaaAb7
namespace Go.Ab

/-- A value of no meaning, closed to simp. -/
def dflt {α : Type} [Inhabited α] : α := default
def nthI {α : Type} [Inhabited α] (l : List α) (n : Int) : α := l.getD n.toNat default
def encI (k : IntKind) (x : Int) : List AV := [.lit (.int k x)]
def decI : List AV → Int
  | [.lit (.int _ x)] => x
  | _ => 0
def encB (x : Bool) : List AV := [.lit (.bool x)]
def decB : List AV → Bool
  | [.lit (.bool x)] => x
  | _ => false
def encS (x : ByteArray) : List AV := [.lit (.string x)]
def decS : List AV → ByteArray
  | [.lit (.string x)] => x
  | _ => ⟨⟨[]⟩⟩
def encL {α : Type} (e : α → List AV) (x : List α) : List AV := [.sl (x.map e) .no]
def decL {α : Type} (d : List AV → α) : List AV → List α
  | [.sl l _] => l.map d
  | _ => []

@[simp] theorem pickB_t (x y : Bool) : pickB true x y = x := by cases x <;> cases y <;> rfl
@[simp] theorem pickB_f (x y : Bool) : pickB false x y = y := by cases x <;> cases y <;> rfl
@[simp] theorem pickB_tf (x : Bool) : pickB x true false = x := by cases x <;> rfl
@[simp] theorem notB_t : notB true = false := by decide
@[simp] theorem notB_f : notB false = true := by decide
@[simp] theorem under_tt (q : Prop) : Under true true q ↔ q := ⟨fun h => h rfl, fun h _ => h⟩
@[simp] theorem under_ff (q : Prop) : Under false false q ↔ q := ⟨fun h => h rfl, fun h _ => h⟩
@[simp] theorem under_tf (q : Prop) : Under true false q ↔ True := ⟨fun _ => trivial, fun _ h => by cases h⟩
@[simp] theorem under_ft (q : Prop) : Under false true q ↔ True := ⟨fun _ => trivial, fun _ h => by cases h⟩
@[simp] theorem under_true (p b : Bool) : Under p b True ↔ True := ⟨fun _ => trivial, fun _ _ => trivial⟩
attribute [simp] List.range_succ
theorem blockS_same {id : Nat} {Q : Exit → St → Prop} {σ : St} (h : Q .normal σ) : blockS id Q (.exit id) σ := by simpa [blockS] using h
theorem blockS_other {id id' : Nat} {Q : Exit → St → Prop} {σ : St} (hne : id' ≠ id) (h : Q (.exit id') σ) : blockS id Q (.exit id') σ := by simpa [blockS, hne] using h
theorem lenL_map {α β : Type} (f : α → β) (l : List α) : lenL (l.map f) = lenL l := by simp [lenL]
theorem map_appL {α β : Type} (f : α → β) (a b : List α) : (appL a b).map f = appL (a.map f) (b.map f) := by simp [appL]
theorem map_cutL {α β : Type} (f : α → β) (a : List α) (l h : Int) : (cutL a l h).map f = cutL (a.map f) l h := by simp [cutL, List.map_take, List.map_drop]
theorem map_repL {α β : Type} (f : α → β) (n : Int) (a : α) : (repL n a).map f = repL n (f a) := by simp [repL]
@[simp] theorem lenL_nil {α : Type} : lenL ([] : List α) = 0 := by simp [lenL]
@[simp] theorem lenL_cons {α : Type} (a : α) (l : List α) : lenL (a :: l) = lenL l + 1 := by simp [lenL]
@[simp] theorem lenL_appL {α : Type} (a b : List α) : lenL (appL a b) = lenL a + lenL b := by simp [lenL, appL]
@[simp] theorem lenL_cutm {α β : Type} (f : α → β) (a : List α) (l h : Int) : lenL (cutL (a.map f) l h) = lenL (cutL a l h) := by simp [lenL, cutL]
attribute [simp] lenL_map map_appL map_cutL map_repL
@[simp] theorem all_appL {α : Type} {P : α → Prop} {a b : List α} : (∀ q ∈ appL a b, P q) ↔ (∀ q ∈ a, P q) ∧ ∀ q ∈ b, P q := by
  unfold appL
  constructor
  · exact fun h => ⟨fun q hq => h q (List.mem_append.2 (.inl hq)), fun q hq => h q (List.mem_append.2 (.inr hq))⟩
  · exact fun h q hq => (List.mem_append.1 hq).elim (h.1 q) (h.2 q)
theorem all_cutL {α : Type} {P : α → Prop} {a : List α} {l h : Int} (q : ∀ x ∈ a, P x) : ∀ x ∈ cutL a l h, P x := fun x hx => q x (List.mem_of_mem_drop (List.mem_of_mem_take hx))
theorem all_repL {α : Type} {P : α → Prop} {a : α} {n : Int} (q : P a) : ∀ x ∈ repL n a, P x := fun x hx => by
  unfold repL at hx
  rw [List.eq_of_mem_replicate hx]; exact q
@[simp] theorem len_cutL {a : List (List AV)} {l h : Int} {n : Nat} (q : ∀ x ∈ a, x.length = n) : (∀ x ∈ cutL a l h, x.length = n) ↔ True := ⟨fun _ => trivial, fun _ => all_cutL q⟩
@[simp] theorem len_repL {a : List AV} {k : Int} {n : Nat} (q : a.length = n) : (∀ x ∈ repL k a, x.length = n) ↔ True := ⟨fun _ => trivial, fun _ => all_repL q⟩
@[simp] theorem u8_cutL {a : List (List AV)} {l h : Int} (q : ∀ x ∈ a, ∃ n, x = [.lit (.int .u8 n)]) : (∀ x ∈ cutL a l h, ∃ n, x = [.lit (.int .u8 n)]) ↔ True := ⟨fun _ => trivial, fun _ => all_cutL q⟩
@[simp] theorem u8_repL {a : List AV} {k : Int} (q : ∃ n, a = [.lit (.int .u8 n)]) : (∀ x ∈ repL k a, ∃ n, x = [.lit (.int .u8 n)]) ↔ True := ⟨fun _ => trivial, fun _ => all_repL (P := fun x => ∃ n, x = [AV.lit (Value.int .u8 n)]) q⟩
@[simp] theorem bel_appL {n : Nat} {a b : List (List AV)} : belLL n (appL a b) ↔ belLL n a ∧ belLL n b := by simp [appL]
@[simp] theorem bel_cutL {n : Nat} {a : List (List AV)} {l h : Int} (q : belLL n a) : belLL n (cutL a l h) := belLL_iff.2 fun x hx => belLL_iff.1 q x (List.mem_of_mem_drop (List.mem_of_mem_take hx))
@[simp] theorem bel_repL {n : Nat} {a : List AV} {k : Int} (q : belL n a) : belLL n (repL k a) := belLL_iff.2 fun x hx => by
  unfold repL at hx
  rw [List.eq_of_mem_replicate hx]; exact q
theorem bel_map {α : Type} {f : α → List AV} {n : Nat} (h : ∀ x, belL n (f x)) (l : List α) : belLL n (l.map f) := belLL_iff.2 fun a ha => by
  obtain ⟨x, _, rfl⟩ := List.mem_map.1 ha
  exact h x
theorem ren_map {α : Type} {f : α → List AV} {σ : Nat → Nat} (h : ∀ x, renL σ (f x) = f x) (l : List α) : renLL σ (l.map f) = l.map f := by
  rw [renLL_map, List.map_map]
  congr 1
  funext x; exact h x
@[simp] theorem ren_appL {σ : Nat → Nat} {a b : List (List AV)} : renLL σ (appL a b) = appL (renLL σ a) (renLL σ b) := by simp [renLL_map]
@[simp] theorem ren_cutL {σ : Nat → Nat} {a : List (List AV)} {l h : Int} : renLL σ (cutL a l h) = cutL (renLL σ a) l h := by simp [renLL_map]
@[simp] theorem ren_repL {σ : Nat → Nat} {a : List AV} {n : Int} : renLL σ (repL n a) = repL n (renL σ a) := by simp [renLL_map]
attribute [simp] AV.ren renL renLL Tok.ren AObj.ren putAll optC regE regF
/-- An element, off rows that are rows of values. -/
theorem nth_rows {α : Type} [Inhabited α] {f : α → List AV} {d : List AV → α} {z : List AV} (hz : z = f default) {rows : List (List AV)} (h : rows = (rows.map d).map f) (n : Int) : nthL rows n.toNat z = f (nthI (rows.map d) n) := by
  generalize rows.map d = l at h
  subst h
  subst hz
  simp only [nthL, nthI, List.getD_eq_getElem?_getD, List.getElem?_map]
  cases l[n.toNat]? <;> rfl

theorem nth_rowsk {α : Type} [Inhabited α] {f : α → List AV} {d : List AV → α} {z : List AV} (hz : z = f default) {rows : List (List AV)} (h : rows = (rows.map d).map f) (k : Nat) : nthL rows k z = f (nthI (rows.map d) (k : Int)) := by
  have := nth_rows hz h (k : Int)
  simpa using this
theorem nth_rows_in {α : Type} [Inhabited α] {f : α → List AV} {d : List AV → α} {z : List AV} {rows : List (List AV)} (h : rows = (rows.map d).map f) {n : Int} (q : InB n (lenL rows)) : nthL rows n.toNat z = f (nthI (rows.map d) n) := by
  generalize rows.map d = l at h
  subst h
  obtain ⟨q1, q2⟩ := q
  simp only [lenL, List.length_map] at q2
  have hn : n.toNat < l.length := by omega
  simp [nthL, nthI, hn]

/-! Numbers, truths, texts -/
@[simp] theorem numOf_lit (k : IntKind) (x : Int) : numOf [.lit (.int k x)] = x := rfl
@[simp] theorem decI_lit (k : IntKind) (x : Int) : decI [.lit (.int k x)] = x := rfl
@[simp] theorem decB_lit (x : Bool) : decB [.lit (.bool x)] = x := rfl
@[simp] theorem decS_lit (x : ByteArray) : decS [.lit (.string x)] = x := rfl
@[simp] theorem encI_def (k : IntKind) (x : Int) : encI k x = [.lit (.int k x)] := rfl
@[simp] theorem encB_def (x : Bool) : encB x = [.lit (.bool x)] := rfl
@[simp] theorem encS_def (x : ByteArray) : encS x = [.lit (.string x)] := rfl
@[simp] theorem decI_comp (k : IntKind) : decI ∘ encI k = id := funext fun _ => by rfl
@[simp] theorem decB_comp : decB ∘ encB = id := funext fun _ => by rfl
@[simp] theorem decS_comp : decS ∘ encS = id := funext fun _ => by rfl
@[simp] theorem encI_comp2 (k : IntKind) : (encI k ∘ decI) ∘ encI k = encI k := rfl
@[simp] theorem encB_comp2 : (encB ∘ decB) ∘ encB = encB := rfl
@[simp] theorem encS_comp2 : (encS ∘ decS) ∘ encS = encS := rfl
@[simp] theorem encI_bel (k : IntKind) (l : List Int) (n : Nat) : belLL n (l.map (encI k)) := bel_map (fun _ => by simp) l
@[simp] theorem encB_bel (l : List Bool) (n : Nat) : belLL n (l.map encB) := bel_map (fun _ => by simp) l
@[simp] theorem encS_bel (l : List ByteArray) (n : Nat) : belLL n (l.map encS) := bel_map (fun _ => by simp) l
@[simp] theorem encI_ren (σ : Nat → Nat) (k : IntKind) (l : List Int) : renLL σ (l.map (encI k)) = l.map (encI k) := ren_map (fun _ => by simp) l
@[simp] theorem encB_ren (σ : Nat → Nat) (l : List Bool) : renLL σ (l.map encB) = l.map encB := ren_map (fun _ => by simp) l
@[simp] theorem encS_ren (σ : Nat → Nat) (l : List ByteArray) : renLL σ (l.map encS) = l.map encS := ren_map (fun _ => by simp) l
@[simp] theorem encI_nth {k : IntKind} {rows : List (List AV)} (n : Int) (h : rows = (rows.map decI).map (encI k)) : nthL rows n.toNat [.lit (.int k 0)] = [.lit (.int k (nthI (rows.map decI) n))] := nth_rows (f := encI k) rfl h n
@[simp] theorem encB_nth {rows : List (List AV)} (n : Int) (h : rows = (rows.map decB).map encB) : nthL rows n.toNat [.lit (.bool false)] = [.lit (.bool (nthI (rows.map decB) n))] := nth_rows (f := encB) rfl h n
@[simp] theorem encS_nth {rows : List (List AV)} (n : Int) (h : rows = (rows.map decS).map encS) : nthL rows n.toNat [.lit (.string ⟨⟨[]⟩⟩)] = [.lit (.string (nthI (rows.map decS) n))] := nth_rows (f := encS) rfl h n
@[simp low] theorem encI_nthk {k : IntKind} {rows : List (List AV)} (j : Nat) (h : rows = (rows.map decI).map (encI k)) : nthL rows j [.lit (.int k 0)] = [.lit (.int k (nthI (rows.map decI) (j : Int)))] := nth_rowsk (f := encI k) rfl h j
@[simp low] theorem encB_nthk {rows : List (List AV)} (j : Nat) (h : rows = (rows.map decB).map encB) : nthL rows j [.lit (.bool false)] = [.lit (.bool (nthI (rows.map decB) (j : Int)))] := nth_rowsk (f := encB) rfl h j
@[simp low] theorem encS_nthk {rows : List (List AV)} (j : Nat) (h : rows = (rows.map decS).map encS) : nthL rows j [.lit (.string ⟨⟨[]⟩⟩)] = [.lit (.string (nthI (rows.map decS) (j : Int)))] := nth_rowsk (f := encS) rfl h j
theorem encL_comp {α : Type} {e : α → List AV} {d : List AV → α} (h : d ∘ e = id) : decL d ∘ encL e = id := funext fun x => by
  show (x.map e).map d = x
  rw [List.map_map, h, List.map_id]

/-! From a contract at a memory of its own to one at every memory -/
theorem RL.weak {g : G} {l l' : List AV} {vs : List Value} (h : RL g l vs) (hw : WeakL l l') : RL g l' vs := by
  induction h generalizing l' with
  | nil => cases l' with
    | nil => exact .nil
    | cons => exact hw.elim
  | cons h r ih => cases l' with
    | nil => exact hw.elim
    | cons b l' => exact .cons (R.weak h hw.1) (ih hw.2)
theorem callOk_conv {P : Program} {f : FuncId} {l l' : List AV} {M : List AObj} {out : Out} {av' : AV} {M' : Option (List AObj)} (q : CallOk P f l M out) (ho : out.obl) (hl : WeakL l' l) (ha : out.av = av') (hm : out.M.getD M = M'.getD M) :
    CallOk P f l' M { av := av', M := M' } := by
  subst ha
  intro g vs hM sm hr _
  obtain ⟨c1, c2⟩ := q g vs hM sm (hr.weak hl) ho
  refine ⟨c1, c2.mono fun e w' => ?_⟩
  rintro ⟨v, rfl, β, ρ, s, r, k⟩
  have e : g.out out.M β ρ w' = g.out M' β ρ w' := by simp only [G.out, hM, hm]
  exact ⟨v, rfl, β, ρ, e ▸ s, e ▸ r, e ▸ k⟩

/-- A cell of a row; the row of a value. -/
@[simp] def nthE (l : List AV) (n : Nat) : Option AV := l[n]?
@[simp] def unA : AV → List AV
  | .agg l => l
  | a => [a]
/-- 'slices.Clone', of elements of that many cells and bytes. -/
@[simp] def cloneS (size bytes : Nat) : Sp
  | [.sl els _], M => some { av := .sl els (.own M.length 1 size), M := some (M ++ [.room 1]), obl := (∀ q ∈ els, q.length = size) ∧ AppB 0 (lenL els) bytes }
  | _, _ => none
theorem putAll_same : ∀ {π : List Nat} {M W : List AObj}, (∀ (k i : Nat), π[k]? = some i → M[i]? = W[k]?) → putAll M π W = M
  | [], M, W, _ => by cases W <;> rfl
  | i :: π, M, [], _ => rfl
  | i :: π, M, o :: W, h => by
    have h0 : M[i]? = some o := h 0 i rfl
    have e : M.set i o = M := by rw [← get_of_some h0, List.set_getElem_self]
    rw [putAll, e]
    exact putAll_same fun k j hk => by simpa using h (k + 1) j (by simpa using hk)
theorem set_same {M : List AObj} {i : Nat} {o : AObj} (h : M[i]? = some o) : M.set i o = M := by rw [← get_of_some h, List.set_getElem_self]
end Go.Ab
