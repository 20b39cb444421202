/- Lists of plain values as rows of abstract ones: what simp wants to know of them. No condition. -/
import Derived.Test.YtpamnignoocogaaGreatDoorAb7
namespace Go.Ab

/-- A value of no meaning, closed to simp. -/
def dflt {α : Type} [Inhabited α] : α := default
def nthI {α : Type} [Inhabited α] (l : List α) (n : Int) : α := l.getD n.toNat default
def eNum (k : IntKind) (x : Int) : List AV := [.lit (.int k x)]
def decI : List AV → Int
  | [.lit (.int _ x)] => x
  | _ => 0
def encB (x : Bool) : List AV := [.lit (.bool x)]
def decB : List AV → Bool
  | [.lit (.bool x)] => x
  | _ => false
def eTxt (x : ByteArray) : List AV := [.lit (.string x)]
def decS : List AV → ByteArray
  | [.lit (.string x)] => x
  | _ => ⟨⟨[]⟩⟩
def encL {α : Type} (e : α → List AV) (x : List α) : List AV := [.sl (x.map e) .no]
def decL {α : Type} (d : List AV → α) : List AV → List α
  | [.sl l _] => l.map d
  | _ => []

@[simp] theorem pickB_t (x y : Bool) : pickB true x y = x := by cases x <;> cases y <;> rfl
@[simp] theorem pickB_f (x y : Bool) : pickB false x y = y := by cases x <;> cases y <;> rfl
@[simp] theorem pickB_tf (x : Bool) : pickB x true false = x := by cases x <;> rfl
@[simp] theorem notB_t : notB true = false := by decide
@[simp] theorem notB_f : notB false = true := by decide
@[simp] theorem under_tt (q : Prop) : Under true true q ↔ q := ⟨fun h => h rfl, fun h _ => h⟩
@[simp] theorem under_ff (q : Prop) : Under false false q ↔ q := ⟨fun h => h rfl, fun h _ => h⟩
@[simp] theorem under_tf (q : Prop) : Under true false q ↔ True := ⟨fun _ => trivial, fun _ h => by cases h⟩
@[simp] theorem under_ft (q : Prop) : Under false true q ↔ True := ⟨fun _ => trivial, fun _ h => by cases h⟩
@[simp] theorem under_true (p b : Bool) : Under p b True ↔ True := ⟨fun _ => trivial, fun _ _ => trivial⟩
attribute [simp] List.range_succ
theorem blockS_same {id : Nat} {Q : Exit → St → Prop} {σ : St} (h : Q .normal σ) : blockS id Q (.exit id) σ := by simpa [blockS] using h
theorem blockS_other {id id' : Nat} {Q : Exit → St → Prop} {σ : St} (hne : id' ≠ id) (h : Q (.exit id') σ) : blockS id Q (.exit id') σ := by simpa [blockS, hne] using h
theorem lenL_map {α β : Type} (f : α → β) (l : List α) : lenL (l.map f) = lenL l := by simp [lenL]
theorem map_appL {α β : Type} (f : α → β) (a b : List α) : (appL a b).map f = appL (a.map f) (b.map f) := by simp [appL]
theorem map_cutL {α β : Type} (f : α → β) (a : List α) (l h : Int) : (cutL a l h).map f = cutL (a.map f) l h := by simp [cutL, List.map_take, List.map_drop]
theorem map_repL {α β : Type} (f : α → β) (n : Int) (a : α) : (repL n a).map f = repL n (f a) := by simp [repL]
@[simp] theorem lenL_nil {α : Type} : lenL ([] : List α) = 0 := by simp [lenL]
@[simp] theorem lenL_cons {α : Type} (a : α) (l : List α) : lenL (a :: l) = lenL l + 1 := by simp [lenL]
@[simp] theorem lenL_appL {α : Type} (a b : List α) : lenL (appL a b) = lenL a + lenL b := by simp [lenL, appL]
@[simp] theorem lenL_cutm {α β : Type} (f : α → β) (a : List α) (l h : Int) : lenL (cutL (a.map f) l h) = lenL (cutL a l h) := by simp [lenL, cutL]
attribute [simp] lenL_map map_appL map_cutL map_repL
@[simp] theorem all_appL {α : Type} {P : α → Prop} {a b : List α} : (∀ q ∈ appL a b, P q) ↔ (∀ q ∈ a, P q) ∧ ∀ q ∈ b, P q := by
  unfold appL
  constructor
  · exact fun h => ⟨fun q hq => h q (List.mem_append.2 (.inl hq)), fun q hq => h q (List.mem_append.2 (.inr hq))⟩
  · exact fun h q hq => (List.mem_append.1 hq).elim (h.1 q) (h.2 q)
theorem all_cutL {α : Type} {P : α → Prop} {a : List α} {l h : Int} (q : ∀ x ∈ a, P x) : ∀ x ∈ cutL a l h, P x := fun x hx => q x (List.mem_of_mem_drop (List.mem_of_mem_take hx))
theorem all_repL {α : Type} {P : α → Prop} {a : α} {n : Int} (q : P a) : ∀ x ∈ repL n a, P x := fun x hx => by
  unfold repL at hx
  rw [List.eq_of_mem_replicate hx]; exact q
@[simp] theorem len_cutL {a : List (List AV)} {l h : Int} {n : Nat} (q : ∀ x ∈ a, x.length = n) : (∀ x ∈ cutL a l h, x.length = n) ↔ True := ⟨fun _ => trivial, fun _ => all_cutL q⟩
@[simp] theorem len_repL {a : List AV} {k : Int} {n : Nat} (q : a.length = n) : (∀ x ∈ repL k a, x.length = n) ↔ True := ⟨fun _ => trivial, fun _ => all_repL q⟩
@[simp] theorem u8_cutL {a : List (List AV)} {l h : Int} (q : ∀ x ∈ a, ∃ n, x = [.lit (.int .u8 n)]) : (∀ x ∈ cutL a l h, ∃ n, x = [.lit (.int .u8 n)]) ↔ True := ⟨fun _ => trivial, fun _ => all_cutL q⟩
@[simp] theorem u8_repL {a : List AV} {k : Int} (q : ∃ n, a = [.lit (.int .u8 n)]) : (∀ x ∈ repL k a, ∃ n, x = [.lit (.int .u8 n)]) ↔ True := ⟨fun _ => trivial, fun _ => all_repL (P := fun x => ∃ n, x = [AV.lit (Value.int .u8 n)]) q⟩
@[simp] theorem bel_appL {n : Nat} {a b : List (List AV)} : belLL n (appL a b) ↔ belLL n a ∧ belLL n b := by simp [appL]
@[simp] theorem bel_cutL {n : Nat} {a : List (List AV)} {l h : Int} (q : belLL n a) : belLL n (cutL a l h) := belLL_iff.2 fun x hx => belLL_iff.1 q x (List.mem_of_mem_drop (List.mem_of_mem_take hx))
@[simp] theorem bel_repL {n : Nat} {a : List AV} {k : Int} (q : belL n a) : belLL n (repL k a) := belLL_iff.2 fun x hx => by
  unfold repL at hx
  rw [List.eq_of_mem_replicate hx]; exact q
theorem bel_map {α : Type} {f : α → List AV} {n : Nat} (h : ∀ x, belL n (f x)) (l : List α) : belLL n (l.map f) := belLL_iff.2 fun a ha => by
  obtain ⟨x, _, rfl⟩ := List.mem_map.1 ha
  exact h x
theorem ren_map {α : Type} {f : α → List AV} {σ : Nat → Nat} (h : ∀ x, renL σ (f x) = f x) (l : List α) : renLL σ (l.map f) = l.map f := by
  rw [renLL_map, List.map_map]
  congr 1
  funext x; exact h x
@[simp] theorem ren_appL {σ : Nat → Nat} {a b : List (List AV)} : renLL σ (appL a b) = appL (renLL σ a) (renLL σ b) := by simp [renLL_map]
@[simp] theorem ren_cutL {σ : Nat → Nat} {a : List (List AV)} {l h : Int} : renLL σ (cutL a l h) = cutL (renLL σ a) l h := by simp [renLL_map]
@[simp] theorem ren_repL {σ : Nat → Nat} {a : List AV} {n : Int} : renLL σ (repL n a) = repL n (renL σ a) := by simp [renLL_map]
attribute [simp] AV.ren renL renLL Tok.ren putAll optC regE regF
@[simp] theorem blk_ren (σ : Nat → Nat) (cs : List AV) : (AObj.blk cs).ren σ = .blk (renL σ cs) := rfl
@[simp] theorem room_ren (σ : Nat → Nat) (e : Nat) : (AObj.room e).ren σ = .room e := rfl
@[simp] theorem iter_ren (σ : Nat → Nat) (s : ByteArray) (p : Nat) : (AObj.iter s p).ren σ = .iter s p := rfl
@[simp] theorem opq_ren (σ : Nat → Nat) (φ : Opq) : (AObj.opq φ).ren σ = .opq φ := rfl
@[simp] theorem own_ren0 (σ : Nat → Nat) (P : Own) : (AObj.own P none).ren σ = .own P none := rfl
@[simp] theorem own_ren1 (σ : Nat → Nat) (P : Own) (k : Value) : (AObj.own P (some (k, none))).ren σ = .own P (some (k, none)) := rfl
@[simp] theorem own_ren2 (σ : Nat → Nat) (P : Own) (k : Value) (v : AV) : (AObj.own P (some (k, some v))).ren σ = .own P (some (k, some (v.ren σ))) := rfl
@[simp] theorem dead_ren (σ : Nat → Nat) : AObj.dead.ren σ = .dead := rfl
/-- An element, off rows that are rows of values. -/
theorem nth_rows {α : Type} [Inhabited α] {f : α → List AV} {d : List AV → α} {z : List AV} (hz : z = f default) {rows : List (List AV)} (h : rows = (rows.map d).map f) (n : Int) : nthL rows n.toNat z = f (nthI (rows.map d) n) := by
  generalize rows.map d = l at h
  subst h
  subst hz
  simp only [nthL, nthI, List.getD_eq_getElem?_getD, List.getElem?_map]
  cases l[n.toNat]? <;> rfl

theorem nth_rowsk {α : Type} [Inhabited α] {f : α → List AV} {d : List AV → α} {z : List AV} (hz : z = f default) {rows : List (List AV)} (h : rows = (rows.map d).map f) (k : Nat) : nthL rows k z = f (nthI (rows.map d) (k : Int)) := by
  have := nth_rows hz h (k : Int)
  simpa using this
theorem nth_rows_in {α : Type} [Inhabited α] {f : α → List AV} {d : List AV → α} {z : List AV} {rows : List (List AV)} (h : rows = (rows.map d).map f) {n : Int} (q : InB n (lenL rows)) : nthL rows n.toNat z = f (nthI (rows.map d) n) := by
  generalize rows.map d = l at h
  subst h
  obtain ⟨q1, q2⟩ := q
  simp only [lenL, List.length_map] at q2
  have hn : n.toNat < l.length := by omega
  simp [nthL, nthI, hn]

/-! Numbers, truths, texts -/
@[simp] theorem numOf_lit (k : IntKind) (x : Int) : numOf [.lit (.int k x)] = x := rfl
@[simp] theorem decI_lit (k : IntKind) (x : Int) : decI [.lit (.int k x)] = x := rfl
@[simp] theorem decB_lit (x : Bool) : decB [.lit (.bool x)] = x := rfl
@[simp] theorem decS_lit (x : ByteArray) : decS [.lit (.string x)] = x := rfl
@[simp] theorem encI_def (k : IntKind) (x : Int) : eNum k x = [.lit (.int k x)] := rfl
@[simp] theorem map_u8 (l : List Int) : l.map (fun n => [AV.lit (Value.int .u8 n)]) = l.map (eNum .u8) := rfl
@[simp] theorem encB_def (x : Bool) : encB x = [.lit (.bool x)] := rfl
@[simp] theorem encS_def (x : ByteArray) : eTxt x = [.lit (.string x)] := rfl
@[simp] theorem decI_comp (k : IntKind) : decI ∘ eNum k = id := funext fun _ => by rfl
@[simp] theorem decB_comp : decB ∘ encB = id := funext fun _ => by rfl
@[simp] theorem decS_comp : decS ∘ eTxt = id := funext fun _ => by rfl
@[simp] theorem encI_comp2 (k : IntKind) : (eNum k ∘ decI) ∘ eNum k = eNum k := rfl
@[simp] theorem encB_comp2 : (encB ∘ decB) ∘ encB = encB := rfl
@[simp] theorem encS_comp2 : (eTxt ∘ decS) ∘ eTxt = eTxt := rfl
@[simp] theorem encI_bel (k : IntKind) (l : List Int) (n : Nat) : belLL n (l.map (eNum k)) := bel_map (fun _ => by simp) l
@[simp] theorem encB_bel (l : List Bool) (n : Nat) : belLL n (l.map encB) := bel_map (fun _ => by simp) l
@[simp] theorem encS_bel (l : List ByteArray) (n : Nat) : belLL n (l.map eTxt) := bel_map (fun _ => by simp) l
@[simp] theorem encI_ren (σ : Nat → Nat) (k : IntKind) (l : List Int) : renLL σ (l.map (eNum k)) = l.map (eNum k) := ren_map (fun _ => by simp) l
@[simp] theorem encB_ren (σ : Nat → Nat) (l : List Bool) : renLL σ (l.map encB) = l.map encB := ren_map (fun _ => by simp) l
@[simp] theorem encS_ren (σ : Nat → Nat) (l : List ByteArray) : renLL σ (l.map eTxt) = l.map eTxt := ren_map (fun _ => by simp) l
@[simp] theorem encI_nth {k : IntKind} {rows : List (List AV)} (n : Int) (h : rows = (rows.map decI).map (eNum k)) : nthL rows n.toNat [.lit (.int k 0)] = [.lit (.int k (nthI (rows.map decI) n))] := nth_rows (f := eNum k) rfl h n
@[simp] theorem encB_nth {rows : List (List AV)} (n : Int) (h : rows = (rows.map decB).map encB) : nthL rows n.toNat [.lit (.bool false)] = [.lit (.bool (nthI (rows.map decB) n))] := nth_rows (f := encB) rfl h n
@[simp] theorem encS_nth {rows : List (List AV)} (n : Int) (h : rows = (rows.map decS).map eTxt) : nthL rows n.toNat [.lit (.string ⟨⟨[]⟩⟩)] = [.lit (.string (nthI (rows.map decS) n))] := nth_rows (f := eTxt) rfl h n
@[simp low] theorem encI_nthk {k : IntKind} {rows : List (List AV)} (j : Nat) (h : rows = (rows.map decI).map (eNum k)) : nthL rows j [.lit (.int k 0)] = [.lit (.int k (nthI (rows.map decI) (j : Int)))] := nth_rowsk (f := eNum k) rfl h j
@[simp low] theorem encB_nthk {rows : List (List AV)} (j : Nat) (h : rows = (rows.map decB).map encB) : nthL rows j [.lit (.bool false)] = [.lit (.bool (nthI (rows.map decB) (j : Int)))] := nth_rowsk (f := encB) rfl h j
@[simp low] theorem encS_nthk {rows : List (List AV)} (j : Nat) (h : rows = (rows.map decS).map eTxt) : nthL rows j [.lit (.string ⟨⟨[]⟩⟩)] = [.lit (.string (nthI (rows.map decS) (j : Int)))] := nth_rowsk (f := eTxt) rfl h j
theorem encL_comp {α : Type} {e : α → List AV} {d : List AV → α} (h : d ∘ e = id) : decL d ∘ encL e = id := funext fun x => by
  show (x.map e).map d = x
  rw [List.map_map, h, List.map_id]

/-! From a contract at a memory of its own to one at every memory -/
theorem RL.weak {g : G} {l l' : List AV} {vs : List Value} (h : RL g l vs) (hw : WeakL l l') : RL g l' vs := by
  induction h generalizing l' with
  | nil => cases l' with
    | nil => exact .nil
    | cons => exact hw.elim
  | cons h r ih => cases l' with
    | nil => exact hw.elim
    | cons b l' => exact .cons (R.weak h hw.1) (ih hw.2)
theorem callOk_conv {P : Program} {f : FuncId} {l l' : List AV} {M : List AObj} {out : Out} {av' : AV} {M' : Option (List AObj)} (q : CallOk P f l M out) (ho : out.obl) (hl : WeakL l' l) (ha : out.av = av') (hm : out.M.getD M = M'.getD M) :
    CallOk P f l' M { av := av', M := M' } := by
  subst ha
  intro g vs hM sm hr _
  obtain ⟨c1, c2⟩ := q g vs hM sm (hr.weak hl) ho
  refine ⟨c1, c2.mono fun e w' => ?_⟩
  rintro ⟨v, rfl, β, ρ, s, r, k⟩
  have e : g.out out.M β ρ w' = g.out M' β ρ w' := by simp only [G.out, hM, hm]
  exact ⟨v, rfl, β, ρ, e ▸ s, e ▸ r, e ▸ k⟩

/-- A cell of a row; the row of a value. -/
@[simp] def nthE (l : List AV) (n : Nat) : Option AV := l[n]?
@[simp] def unA : AV → List AV
  | .agg l => l
  | a => [a]
/-- 'slices.Clone', of elements of that many cells and bytes. -/
@[simp] def cloneS (size bytes : Nat) : Sp
  | [.sl els _], M => some { av := .sl els (.own M.length 1 size), M := some (M ++ [.room 1]), obl := (∀ q ∈ els, q.length = size) ∧ AppB 0 (lenL els) bytes ∧ marked M = false }
  | _, _ => none
theorem putAll_same : ∀ {π : List Nat} {M W : List AObj}, (∀ (k i : Nat), π[k]? = some i → M[i]? = W[k]?) → putAll M π W = M
  | [], M, W, _ => by cases W <;> rfl
  | i :: π, M, [], _ => rfl
  | i :: π, M, o :: W, h => by
    have h0 : M[i]? = some o := h 0 i rfl
    have e : M.set i o = M := by rw [← get_of_some h0, List.set_getElem_self]
    rw [putAll, e]
    exact putAll_same fun k j hk => by simpa using h (k + 1) j (by simpa using hk)
theorem set_same {M : List AObj} {i : Nat} {o : AObj} (h : M[i]? = some o) : M.set i o = M := by rw [← get_of_some h, List.set_getElem_self]

/-! ### Maps of plain keys and values -/
def kI (k : IntKind) (x : Int) : AV := .lit (.int k x)
def kS (x : ByteArray) : AV := .lit (.string x)
def kB (x : Bool) : AV := .lit (.bool x)
def vA {α : Type} (f : α → List AV) (x : α) : AV := .agg (f x)
def vL {α : Type} (f : α → List AV) (x : List α) : AV := .sl (x.map f) .no
def dkI : AV → Int
  | .lit (.int _ x) => x
  | _ => 0
def dkS : AV → ByteArray
  | .lit (.string x) => x
  | _ => ⟨⟨[]⟩⟩
def dkB : AV → Bool
  | .lit (.bool x) => x
  | _ => false
def dvA {α : Type} [Inhabited α] (d : List AV → α) : AV → α
  | .agg l => d l
  | _ => default
def dvL {α : Type} (d : List AV → α) : AV → List α
  | .sl l _ => l.map d
  | _ => []
@[simp] theorem dkI_kI (k : IntKind) (x : Int) : dkI (kI k x) = x := rfl
@[simp] theorem dkS_kS (x : ByteArray) : dkS (kS x) = x := rfl
@[simp] theorem dkB_kB (x : Bool) : dkB (kB x) = x := rfl
@[simp] theorem dvA_vA {α : Type} [Inhabited α] (d : List AV → α) (f : α → List AV) (x : α) : dvA d (vA f x) = d (f x) := rfl
def encM {K V : Type} (kE : K → AV) (vE : V → AV) (m : List (K × V)) : List (AV × AV) := m.map fun p => (kE p.1, vE p.2)
def decM {K V : Type} (kD : AV → K) (vD : AV → V) (es : List (AV × AV)) : List (K × V) := es.map fun p => (kD p.1, vD p.2)
def hasM {K V : Type} (eq : K → K → Bool) (k : K) : List (K × V) → Bool
  | [] => false
  | e :: r => pickB (eq k e.1) true (hasM eq k r)
def getM {K V : Type} (eq : K → K → Bool) (k : K) (z : V) : List (K × V) → V
  | [] => z
  | e :: r => if eq k e.1 = true then e.2 else getM eq k z r
def setM {K V : Type} (eq : K → K → Bool) (k : K) (v : V) : List (K × V) → List (K × V)
  | [] => [(k, v)]
  | e :: r => if eq k e.1 = true then (k, v) :: r else e :: setM eq k v r
def delM {K V : Type} (eq : K → K → Bool) (k : K) : List (K × V) → List (K × V)
  | [] => []
  | e :: r => if eq k e.1 = true then r else e :: delM eq k r
@[simp] theorem encM_nil {K V : Type} (kE : K → AV) (vE : V → AV) : encM kE vE [] = [] := rfl
@[simp] theorem encM_cons {K V : Type} (kE : K → AV) (vE : V → AV) (k : K) (v : V) (m : List (K × V)) : encM kE vE ((k, v) :: m) = (kE k, vE v) :: encM kE vE m := rfl
@[simp] theorem decM_nil {K V : Type} (kD : AV → K) (vD : AV → V) : decM kD vD [] = [] := rfl
theorem decM_encM {K V : Type} {kE : K → AV} {vE : V → AV} {kD : AV → K} {vD : AV → V} (hk : ∀ x, kD (kE x) = x) (hv : ∀ x, vD (vE x) = x) (m : List (K × V)) : decM kD vD (encM kE vE m) = m := by
  simp only [decM, encM, List.map_map]
  refine (List.map_congr_left fun e _ => ?_).trans (List.map_id m)
  simp only [Function.comp, hk, hv, id]
@[simp] theorem encM_len {K V : Type} (kE : K → AV) (vE : V → AV) (m : List (K × V)) : lenL (encM kE vE m) = lenL m := by simp [lenL, encM]
@[simp] theorem kI_bel (n : Nat) (k : IntKind) (x : Int) : (kI k x).bel n ↔ True := .rfl
@[simp] theorem kS_bel (n : Nat) (x : ByteArray) : (kS x).bel n ↔ True := .rfl
@[simp] theorem kB_bel (n : Nat) (x : Bool) : (kB x).bel n ↔ True := .rfl
@[simp] theorem vA_bel {α : Type} (n : Nat) (f : α → List AV) (x : α) : (vA f x).bel n ↔ belL n (f x) := .rfl
@[simp] theorem vL_bel {α : Type} (n : Nat) (f : α → List AV) (x : List α) : (vL f x).bel n ↔ belLL n (x.map f) ∧ True := .rfl
theorem bel_encM {K V : Type} {kE : K → AV} {vE : V → AV} {n : Nat} (hk : ∀ x, (kE x).bel n) (hv : ∀ x, (vE x).bel n) (m : List (K × V)) : ∀ a b, (a, b) ∈ encM kE vE m → a.bel n ∧ b.bel n := fun a b he => by
  obtain ⟨p, _, q⟩ := List.mem_map.1 he
  cases q
  exact ⟨hk _, hv _⟩
theorem encM_bel {K V : Type} {kE : K → AV} {vE : V → AV} {n : Nat} (hk : ∀ x, (kE x).bel n) (hv : ∀ x, (vE x).bel n) (m : List (K × V)) : (AObj.mapo (encM kE vE m)).bel n ↔ True :=
  ⟨fun _ => trivial, fun _ e he => bel_encM hk hv m e.1 e.2 he⟩
@[simp] theorem kI_ren (σ : Nat → Nat) (k : IntKind) (x : Int) : (kI k x).ren σ = kI k x := rfl
@[simp] theorem kS_ren (σ : Nat → Nat) (x : ByteArray) : (kS x).ren σ = kS x := rfl
@[simp] theorem kB_ren (σ : Nat → Nat) (x : Bool) : (kB x).ren σ = kB x := rfl
theorem vA_ren {α : Type} (σ : Nat → Nat) (f : α → List AV) (x : α) : (vA f x).ren σ = vA (fun x => renL σ (f x)) x := rfl
theorem vA_ren_eq {α : Type} {σ : Nat → Nat} {f : α → List AV} (h : ∀ x, renL σ (f x) = f x) (x : α) : (vA f x).ren σ = vA f x := by rw [vA_ren]; simp only [vA, h]
theorem encM_ren {K V : Type} {σ : Nat → Nat} {kE : K → AV} {vE : V → AV} (hk : ∀ x, (kE x).ren σ = kE x) (hv : ∀ x, (vE x).ren σ = vE x) (m : List (K × V)) : (AObj.mapo (encM kE vE m)).ren σ = .mapo (encM kE vE m) := by
  simp only [AObj.ren, encM, List.map_map]
  congr 1
  exact List.map_congr_left fun e _ => by simp only [Function.comp, hk, hv]
@[simp] theorem mapo_nil_ren (σ : Nat → Nat) : (AObj.mapo []).ren σ = .mapo [] := rfl
@[simp] theorem mapo_cons_ren (σ : Nat → Nat) (a v : AV) (r : List (AV × AV)) {r' : List (AV × AV)} (h : (AObj.mapo r).ren σ = .mapo r') : (AObj.mapo ((a, v) :: r)).ren σ = .mapo ((a.ren σ, v.ren σ) :: r') := by
  simp only [AObj.ren, AObj.mapo.injEq] at h
  simp only [AObj.ren, List.map_cons, h]
@[simp] theorem mapo_cons_bel (n : Nat) (a v : AV) (r : List (AV × AV)) : (AObj.mapo ((a, v) :: r)).bel n ↔ (a.bel n ∧ v.bel n) ∧ (AObj.mapo r).bel n := by
  simp [AObj.bel]
@[simp] theorem mapr_bel (n : Nat) (es : List (AV × AV)) (vis : List Value) (cur : Option Value) (t : Nat) : (AObj.mapr es vis cur t).bel n ↔ (AObj.mapo es).bel n ∧ t < n := .rfl
@[simp] theorem mapo_nil_bel (n : Nat) : (AObj.mapo []).bel n ↔ True := ⟨fun _ => trivial, fun _ _ h => by cases h⟩
@[simp] theorem hasV_nil (k : Value) : hasV k [] = some false := rfl
@[simp] theorem getV_nil (k : Value) (z : AV) : getV k z [] = z := rfl
@[simp] theorem setV_nil (k : Value) (v : AV) : setV k v [] = [(.lit k, v)] := rfl
@[simp] theorem delV_nil (k : Value) : delV k [] = [] := rfl
@[simp] theorem hasM_nil {K V : Type} (eq : K → K → Bool) (k : K) : hasM eq k ([] : List (K × V)) = false := rfl
@[simp] theorem getM_nil {K V : Type} (eq : K → K → Bool) (k : K) (z : V) : getM eq k z [] = z := rfl
@[simp] theorem setM_nil {K V : Type} (eq : K → K → Bool) (k : K) (v : V) : setM eq k v [] = [(k, v)] := rfl
@[simp] theorem delM_nil {K V : Type} (eq : K → K → Bool) (k : K) : delM eq k ([] : List (K × V)) = [] := rfl
theorem kI_def (k : IntKind) (x : Int) : kI k x = .lit (.int k x) := rfl
theorem kS_def (x : ByteArray) : kS x = .lit (.string x) := rfl
@[simp] theorem hasV_I {V : Type} (k : IntKind) (x : Int) (vE : V → AV) (m : List (Int × V)) : hasV (.int k x) (encM (kI k) vE m) = some (hasM eqI x m) := by
  induction m with
  | nil => rfl
  | cons e r ih => simp only [encM, List.map_cons, kI, hasV, sameV, if_true, hasM] at ih ⊢; rw [ih]
@[simp] theorem hasV_S {V : Type} (x : ByteArray) (vE : V → AV) (m : List (ByteArray × V)) : hasV (.string x) (encM kS vE m) = some (hasM eqS x m) := by
  induction m with
  | nil => rfl
  | cons e r ih => simp only [encM, List.map_cons, kS, hasV, sameV, hasM] at ih ⊢; rw [ih]
theorem getV_I {V : Type} {k : IntKind} {vE : V → AV} {z : AV} {d : V} (hz : z = vE d) (x : Int) (m : List (Int × V)) : getV (.int k x) z (encM (kI k) vE m) = vE (getM eqI x d m) := by
  induction m with
  | nil => exact hz
  | cons e r ih =>
    simp only [encM, List.map_cons, kI, getV, sameV, if_true, getM, Option.some.injEq] at ih ⊢
    split
    · rfl
    · exact ih
theorem getV_S {V : Type} {vE : V → AV} {z : AV} {d : V} (hz : z = vE d) (x : ByteArray) (m : List (ByteArray × V)) : getV (.string x) z (encM kS vE m) = vE (getM eqS x d m) := by
  induction m with
  | nil => exact hz
  | cons e r ih =>
    simp only [encM, List.map_cons, kS, getV, sameV, getM, Option.some.injEq] at ih ⊢
    split
    · rfl
    · exact ih
theorem setV_I {V : Type} {k : IntKind} {vE : V → AV} {a : AV} {v : V} (ha : a = vE v) (x : Int) (m : List (Int × V)) : setV (.int k x) a (encM (kI k) vE m) = encM (kI k) vE (setM eqI x v m) := by
  subst ha
  induction m with
  | nil => rfl
  | cons e r ih =>
    simp only [encM, List.map_cons, kI, setV, sameV, if_true, setM, Option.some.injEq] at ih ⊢
    split
    · rfl
    · rw [ih]; rfl
theorem setV_S {V : Type} {vE : V → AV} {a : AV} {v : V} (ha : a = vE v) (x : ByteArray) (m : List (ByteArray × V)) : setV (.string x) a (encM kS vE m) = encM kS vE (setM eqS x v m) := by
  subst ha
  induction m with
  | nil => rfl
  | cons e r ih =>
    simp only [encM, List.map_cons, kS, setV, sameV, setM, Option.some.injEq] at ih ⊢
    split
    · rfl
    · rw [ih]; rfl
@[simp] theorem delV_I {V : Type} (k : IntKind) (x : Int) (vE : V → AV) (m : List (Int × V)) : delV (.int k x) (encM (kI k) vE m) = encM (kI k) vE (delM eqI x m) := by
  induction m with
  | nil => rfl
  | cons e r ih =>
    simp only [encM, List.map_cons, kI, delV, sameV, if_true, delM, Option.some.injEq] at ih ⊢
    split
    · rfl
    · rw [ih]; rfl
@[simp] theorem delV_S {V : Type} (x : ByteArray) (vE : V → AV) (m : List (ByteArray × V)) : delV (.string x) (encM kS vE m) = encM kS vE (delM eqS x m) := by
  induction m with
  | nil => rfl
  | cons e r ih =>
    simp only [encM, List.map_cons, kS, delV, sameV, delM, Option.some.injEq] at ih ⊢
    split
    · rfl
    · rw [ih]; rfl
@[simp] theorem getV_II (k k2 : IntKind) (x d : Int) (m : List (Int × Int)) : getV (.int k x) (.lit (.int k2 d)) (encM (kI k) (kI k2) m) = .lit (.int k2 (getM eqI x d m)) := getV_I (vE := kI k2) (d := d) rfl x m
@[simp] theorem setV_II (k k2 : IntKind) (x v : Int) (m : List (Int × Int)) : setV (.int k x) (.lit (.int k2 v)) (encM (kI k) (kI k2) m) = encM (kI k) (kI k2) (setM eqI x v m) := setV_I (vE := kI k2) (v := v) rfl x m
@[simp] theorem getV_IB (k : IntKind) (x : Int) (d : Bool) (m : List (Int × Bool)) : getV (.int k x) (.lit (.bool d)) (encM (kI k) kB m) = .lit (.bool (getM eqI x d m)) := getV_I (vE := kB) (d := d) rfl x m
@[simp] theorem setV_IB (k : IntKind) (x : Int) (v : Bool) (m : List (Int × Bool)) : setV (.int k x) (.lit (.bool v)) (encM (kI k) kB m) = encM (kI k) kB (setM eqI x v m) := setV_I (vE := kB) (v := v) rfl x m
@[simp] theorem ren_II (σ : Nat → Nat) (k : IntKind) (k2 : IntKind) (m : List (Int × Int)) : (AObj.mapo (encM (kI k) (kI k2) m)).ren σ = .mapo (encM (kI k) (kI k2) m) := encM_ren (fun _ => rfl) (fun _ => rfl) m
@[simp] theorem bel_II (n : Nat) (k : IntKind) (k2 : IntKind) (m : List (Int × Int)) : (AObj.mapo (encM (kI k) (kI k2) m)).bel n ↔ True := encM_bel (fun _ => by simp) (fun _ => by simp) m
@[simp] theorem dec_II (k : IntKind) (k2 : IntKind) (m : List (Int × Int)) : decM dkI dkI (encM (kI k) (kI k2) m) = m := decM_encM (fun _ => rfl) (fun _ => rfl) m
@[simp] theorem ren_IB (σ : Nat → Nat) (k : IntKind) (m : List (Int × Bool)) : (AObj.mapo (encM (kI k) kB m)).ren σ = .mapo (encM (kI k) kB m) := encM_ren (fun _ => rfl) (fun _ => rfl) m
@[simp] theorem bel_IB (n : Nat) (k : IntKind) (m : List (Int × Bool)) : (AObj.mapo (encM (kI k) kB m)).bel n ↔ True := encM_bel (fun _ => by simp) (fun _ => by simp) m
@[simp] theorem dec_IB (k : IntKind) (m : List (Int × Bool)) : decM dkI dkB (encM (kI k) kB m) = m := decM_encM (fun _ => rfl) (fun _ => rfl) m
@[simp] theorem ren_IS (σ : Nat → Nat) (k : IntKind) (m : List (Int × ByteArray)) : (AObj.mapo (encM (kI k) kS m)).ren σ = .mapo (encM (kI k) kS m) := encM_ren (fun _ => rfl) (fun _ => rfl) m
@[simp] theorem bel_IS (n : Nat) (k : IntKind) (m : List (Int × ByteArray)) : (AObj.mapo (encM (kI k) kS m)).bel n ↔ True := encM_bel (fun _ => by simp) (fun _ => by simp) m
@[simp] theorem dec_IS (k : IntKind) (m : List (Int × ByteArray)) : decM dkI dkS (encM (kI k) kS m) = m := decM_encM (fun _ => rfl) (fun _ => rfl) m
@[simp] theorem ren_SI (σ : Nat → Nat) (k2 : IntKind) (m : List (ByteArray × Int)) : (AObj.mapo (encM kS (kI k2) m)).ren σ = .mapo (encM kS (kI k2) m) := encM_ren (fun _ => rfl) (fun _ => rfl) m
@[simp] theorem bel_SI (n : Nat) (k2 : IntKind) (m : List (ByteArray × Int)) : (AObj.mapo (encM kS (kI k2) m)).bel n ↔ True := encM_bel (fun _ => by simp) (fun _ => by simp) m
@[simp] theorem dec_SI (k2 : IntKind) (m : List (ByteArray × Int)) : decM dkS dkI (encM kS (kI k2) m) = m := decM_encM (fun _ => rfl) (fun _ => rfl) m
@[simp] theorem ren_SB (σ : Nat → Nat) (m : List (ByteArray × Bool)) : (AObj.mapo (encM kS kB m)).ren σ = .mapo (encM kS kB m) := encM_ren (fun _ => rfl) (fun _ => rfl) m
@[simp] theorem bel_SB (n : Nat) (m : List (ByteArray × Bool)) : (AObj.mapo (encM kS kB m)).bel n ↔ True := encM_bel (fun _ => by simp) (fun _ => by simp) m
@[simp] theorem dec_SB (m : List (ByteArray × Bool)) : decM dkS dkB (encM kS kB m) = m := decM_encM (fun _ => rfl) (fun _ => rfl) m
@[simp] theorem ren_SS (σ : Nat → Nat) (m : List (ByteArray × ByteArray)) : (AObj.mapo (encM kS kS m)).ren σ = .mapo (encM kS kS m) := encM_ren (fun _ => rfl) (fun _ => rfl) m
@[simp] theorem bel_SS (n : Nat) (m : List (ByteArray × ByteArray)) : (AObj.mapo (encM kS kS m)).bel n ↔ True := encM_bel (fun _ => by simp) (fun _ => by simp) m
@[simp] theorem dec_SS (m : List (ByteArray × ByteArray)) : decM dkS dkS (encM kS kS m) = m := decM_encM (fun _ => rfl) (fun _ => rfl) m
@[simp] theorem numOf_rows (k : IntKind) (l : List Int) : (l.map (eNum k)).map numOf = l := by
  rw [List.map_map]
  exact (List.map_congr_left fun n _ => rfl).trans (List.map_id _)
@[simp] theorem i32_rows (l : List Int) : (∀ e ∈ l.map (eNum .i32), ∃ n, e = [.lit (.int .i32 n)]) ↔ True :=
  ⟨fun _ => trivial, fun _ e he => by obtain ⟨n, _, rfl⟩ := List.mem_map.1 he; exact ⟨n, rfl⟩⟩
@[simp] theorem numOf_comp (k : IntKind) : numOf ∘ eNum k = id := funext fun _ => rfl
/-! ### Whether a slice is known to have no spare place -/
def tokB : Bool → Tok
  | true => .full
  | false => .no
def flagT : Tok → Bool
  | .full => true
  | _ => false
@[simp] def flagAt (l : List AV) (j : Nat) : Bool := match l[j]? with
  | some (.sl _ tok) => flagT tok
  | _ => false
@[simp] theorem tokB_t : tokB true = .full := rfl
@[simp] theorem tokB_f : tokB false = .no := rfl
@[simp] theorem flagT_tokB (b : Bool) : flagT (tokB b) = b := by cases b <;> rfl
@[simp] theorem flagT_full : flagT .full = true := rfl
@[simp] theorem flagT_no : flagT .no = false := rfl
@[simp] theorem flagT_own (t e s : Nat) : flagT (.own t e s) = false := rfl
@[simp high] theorem tokB_ren (σ : Nat → Nat) (b : Bool) : (tokB b).ren σ = tokB b := by cases b <;> rfl
@[simp high] theorem tokB_bel (n : Nat) (b : Bool) : (tokB b).bel n ↔ True := by cases b <;> exact Iff.rfl

/-! ### Rows of numbers in blocks of one's own -/
def cellsI (k : IntKind) (l : List Int) : List AV := l.map fun x => .lit (.int k x)
def setI {α : Type} (l : List α) (n : Int) (x : α) : List α := l.set n.toNat x
@[simp] theorem len_cellsI (k : IntKind) (l : List Int) : (cellsI k l).length = l.length := by simp [cellsI]
@[simp] theorem lenL_cellsI (k : IntKind) (l : List Int) : lenL (cellsI k l) = lenL l := by simp [lenL]
@[simp] theorem lenL_setI {α : Type} (l : List α) (n : Int) (x : α) : lenL (setI l n x) = lenL l := by simp [lenL, setI]
@[simp] theorem belL_cellsI (n : Nat) (k : IntKind) (l : List Int) : belL n (cellsI k l) ↔ True :=
  ⟨fun _ => trivial, fun _ => belL_iff.2 fun a ha => by obtain ⟨x, _, rfl⟩ := List.mem_map.1 ha; trivial⟩
@[simp] theorem renL_cellsI (σ : Nat → Nat) (k : IntKind) (l : List Int) : renL σ (cellsI k l) = cellsI k l := by
  rw [renL_map, cellsI, List.map_map]
  exact List.map_congr_left fun x _ => rfl
@[simp high] theorem zeros_cellsI (k : IntKind) (n : Int) : zeros n.toNat [.lit (.int k 0)] = cellsI k (repL n 0) := by
  unfold zeros cellsI repL
  rw [List.map_replicate]
  refine List.eq_replicate_iff.2 ⟨by simp, fun b hb => ?_⟩
  obtain ⟨x, _, rfl⟩ := List.mem_map.1 hb
  simp [Nat.mod_one]
theorem inB_lt {α : Type} {k : Int} {l : List α} (h : InB k (lenL l)) : k.toNat < l.length := by
  obtain ⟨h1, h2⟩ := h
  unfold lenL at h2; omega
@[simp] theorem inB_toNat {α : Type} {k : Int} {l : List α} (h : InB k (lenL l)) : k.toNat < l.length ↔ True := ⟨fun _ => trivial, fun _ => inB_lt h⟩
@[simp] theorem inB_toNat' {α : Type} {k : Int} {l : List α} (h : InB k (lenL l)) : k.toNat + 1 ≤ l.length ↔ True := ⟨fun _ => trivial, fun _ => inB_lt h⟩
@[simp] theorem get_cellsI {κ : IntKind} {k : Int} {l : List Int} (h : InB k (lenL l)) : (cellsI κ l)[k.toNat]? = some (.lit (.int κ (nthI l k))) := by
  have := inB_lt h
  simp [cellsI, nthI, List.getD, this]
@[simp] theorem getE_cellsI {κ : IntKind} {k : Int} {l : List Int} (h : k.toNat < (cellsI κ l).length) : (cellsI κ l)[k.toNat] = .lit (.int κ (nthI l k)) := by
  have h' : k.toNat < l.length := by simpa using h
  simp [cellsI, nthI, List.getD, h']
@[simp] theorem head_cellsI {κ : IntKind} {k : Int} {l : List Int} (h : InB k (lenL l)) : ((cellsI κ l).drop k.toNat).headD default = .lit (.int κ (nthI l k)) := by
  have := get_cellsI (κ := κ) h
  rw [← List.head?_drop] at this
  generalize (cellsI κ l).drop k.toNat = d at this
  cases d with
  | nil => cases this
  | cons a d => simpa using this
@[simp high] theorem splice_cellsI {κ : IntKind} {k v : Int} {l : List Int} (h : InB k (lenL l)) : splice (cellsI κ l) k.toNat [.lit (.int κ v)] = cellsI κ (setI l k v) := by
  have h1 := inB_lt h
  unfold splice cellsI setI
  rw [List.set_eq_take_append_cons_drop, if_pos h1]
  simp [List.map_take, List.map_drop]

/-! ### Rows of an array -/
theorem InB.nat {α : Type} {l : List α} {n : Int} (h : InB n (lenL l)) : n.toNat < l.length := by
  obtain ⟨h1, h2⟩ := h
  unfold lenL at h2
  omega
@[simp] theorem lt_of_inB {α : Type} {l : List α} {n : Int} (h : InB n (lenL l)) : n.toNat < l.length ↔ True := ⟨fun _ => trivial, fun _ => h.nat⟩
@[simp] theorem rowAt_map {α : Type} [Inhabited α] {f : α → List AV} {l : List α} {n : Int} (h : InB n (lenL l)) : rowAt (l.map f) n.toNat = f (nthI l n) := by
  have := h.nat
  simp [rowAt, nthI, List.getD, this]
theorem setAt_eq {α : Type} {f : α → List AV} {l : List α} {n : Int} {x : α} {r : List AV} (h : r = f x) : setAt (l.map f) n.toNat r = (setI l n x).map f := by
  subst h
  simp [setAt, setI, List.map_set]
theorem setAt_map {α : Type} {f : α → List AV} {d : List AV → α} {l : List α} {n : Int} {r : List AV} (h : r = f (d r)) : setAt (l.map f) n.toNat r = (setI l n (d r)).map f := by
  conv => lhs; rw [h]
  simp [setAt, setI, List.map_set]
end Go.Ab
