import Derived.Test.YtoiieebljbhpbaaGreatDoorAb7
namespace Go.Ab
def dflt {α : Type} [Inhabited α] : α := default
def nthI {α : Type} [Inhabited α] (l : List α) (n : Int) : α := l.getD n.toNat default
def eNum (k : IntKind) (x : Int) : List AV := [.lit (.int k x)]
def decI : List AV → Int
 | [.lit (.int _ x)] => x
 | _ => 0
def eTxt (x : ByteArray) : List AV := [.lit (.string x)]
def decS : List AV → ByteArray
 | [.lit (.string x)] => x
 | _ => ⟨⟨[]⟩⟩
def decL {α : Type} (d : List AV → α) : List AV → List α
 | [.sl l _] => l.map d
 | _ => []
@[simp] theorem pickB_f (x y : Bool) : qaf false x y = y := by cases x <;> cases y <;> rfl
@[simp] theorem pickB_tf (x : Bool) : qaf x true false = x := by cases x <;> rfl
@[simp] theorem notB_t : notB true = false := by decide
@[simp] theorem notB_f : notB false = true := by decide
@[simp] theorem under_true (p b : Bool) : Under p b True ↔ True := ⟨fun _ => trivial, fun _ _ => trivial⟩
attribute [simp] List.range_succ
theorem lenL_map {α β : Type} (f : α → β) (l : List α) : qat (l.map f) = qat l := by simp [qat]
theorem map_appL {α β : Type} (f : α → β) (a b : List α) : (appL a b).map f = appL (a.map f) (b.map f) := by simp [appL]
theorem map_cutL {α β : Type} (f : α → β) (a : List α) (l h : Int) : (cutL a l h).map f = cutL (a.map f) l h := by simp [cutL, List.map_take, List.map_drop]
theorem map_repL {α β : Type} (f : α → β) (n : Int) (a : α) : (repL n a).map f = repL n (f a) := by simp [repL]
@[simp] theorem lenL_nil {α : Type} : qat ([] : List α) = 0 := by simp [qat]
@[simp] theorem lenL_cons {α : Type} (a : α) (l : List α) : qat (a :: l) = qat l + 1 := by simp [qat]
@[simp] theorem lenL_appL {α : Type} (a b : List α) : qat (appL a b) = qat a + qat b := by simp [qat, appL]
@[simp] theorem lenL_cutm {α β : Type} (f : α → β) (a : List α) (l h : Int) : qat (cutL (a.map f) l h) = qat (cutL a l h) := by simp [qat, cutL]
attribute [simp] lenL_map map_appL map_cutL map_repL
@[simp] theorem bel_appL {n : Nat} {a b : List (List AV)} : belLL n (appL a b) ↔ belLL n a ∧ belLL n b := by simp [appL]
@[simp] theorem bel_cutL {n : Nat} {a : List (List AV)} {l h : Int} (q : belLL n a) : belLL n (cutL a l h) := belLL_iff.2 fun x hx => belLL_iff.1 q x (List.mem_of_mem_drop (List.mem_of_mem_take hx))
theorem bel_map {α : Type} {f : α → List AV} {n : Nat} (h : ∀ x, belL n (f x)) (l : List α) : belLL n (l.map f) := belLL_iff.2 fun a ha => by
 obtain ⟨x, _, rfl⟩ := List.mem_map.1 ha;exact h x
theorem ren_map {α : Type} {f : α → List AV} {σ : Nat → Nat} (h : ∀ x, renL σ (f x) = f x) (l : List α) : renLL σ (l.map f) = l.map f := by
 rw [qan, List.map_map];congr 1;funext x; exact h x
attribute [simp] AV.ren renL renLL Tok.ren putAll optC regE regF
@[simp] theorem blk_ren (σ : Nat → Nat) (cs : List AV) : (qau.blk cs).ren σ = .blk (renL σ cs) := rfl
@[simp] theorem room_ren (σ : Nat → Nat) (e : Nat) : (qau.room e).ren σ = .room e := rfl
@[simp] theorem iter_ren (σ : Nat → Nat) (s : ByteArray) (p : Nat) : (qau.iter s p).ren σ = .iter s p := rfl
@[simp] theorem opq_ren (σ : Nat → Nat) (φ : Opq) : (qau.opq φ).ren σ = .opq φ := rfl
@[simp] theorem own_ren0 (σ : Nat → Nat) (P : Own) : (qau.own P none).ren σ = .own P none := rfl
@[simp] theorem own_ren1 (σ : Nat → Nat) (P : Own) (k : Value) : (qau.own P (some (k, none))).ren σ = .own P (some (k, none)) := rfl
@[simp] theorem own_ren2 (σ : Nat → Nat) (P : Own) (k : Value) (v : AV) : (qau.own P (some (k, some v))).ren σ = .own P (some (k, some (v.ren σ))) := rfl
@[simp] theorem dead_ren (σ : Nat → Nat) : qau.dead.ren σ = .dead := rfl
theorem nth_rows {α : Type} [Inhabited α] {f : α → List AV} {d : List AV → α} {z : List AV} (hz : z = f default) {rows : List (List AV)} (h : rows = (rows.map d).map f) (n : Int) : nthL rows n.toNat z = f (nthI (rows.map d) n) := by
 generalize rows.map d = l at h;subst h;subst hz;simp only [nthL, nthI, List.getD_eq_getElem?_getD, List.getElem?_map];cases l[n.toNat]? <;> rfl
theorem nth_rows_in {α : Type} [Inhabited α] {f : α → List AV} {d : List AV → α} {z : List AV} {rows : List (List AV)} (h : rows = (rows.map d).map f) {n : Int} (q : InB n (qat rows)) : nthL rows n.toNat z = f (nthI (rows.map d) n) := by
 generalize rows.map d = l at h;subst h;obtain ⟨q1, q2⟩ := q;simp only [qat, List.length_map] at q2;have hn : n.toNat < l.length := by omega
 simp [nthL, nthI, hn]
@[simp] theorem numOf_lit (k : IntKind) (x : Int) : numOf [.lit (.int k x)] = x := rfl
@[simp] theorem decI_lit (k : IntKind) (x : Int) : decI [.lit (.int k x)] = x := rfl
@[simp] theorem decS_lit (x : ByteArray) : decS [.lit (.string x)] = x := rfl
@[simp] theorem encI_def (k : IntKind) (x : Int) : eNum k x = [.lit (.int k x)] := rfl
@[simp] theorem map_u8 (l : List Int) : l.map (fun n => [AV.lit (Value.int .u8 n)]) = l.map (eNum .u8) := rfl
@[simp] theorem encS_def (x : ByteArray) : eTxt x = [.lit (.string x)] := rfl
@[simp] theorem decI_comp (k : IntKind) : decI ∘ eNum k = id := funext fun _ => by rfl
@[simp] theorem decS_comp : decS ∘ eTxt = id := funext fun _ => by rfl
@[simp] theorem encI_comp2 (k : IntKind) : (eNum k ∘ decI) ∘ eNum k = eNum k := rfl
@[simp] theorem encS_comp2 : (eTxt ∘ decS) ∘ eTxt = eTxt := rfl
@[simp] theorem encI_bel (k : IntKind) (l : List Int) (n : Nat) : belLL n (l.map (eNum k)) := bel_map (fun _ => by simp) l
@[simp] theorem encS_bel (l : List ByteArray) (n : Nat) : belLL n (l.map eTxt) := bel_map (fun _ => by simp) l
@[simp] theorem encI_ren (σ : Nat → Nat) (k : IntKind) (l : List Int) : renLL σ (l.map (eNum k)) = l.map (eNum k) := ren_map (fun _ => by simp) l
@[simp] theorem encS_ren (σ : Nat → Nat) (l : List ByteArray) : renLL σ (l.map eTxt) = l.map eTxt := ren_map (fun _ => by simp) l
@[simp] theorem encI_nth {k : IntKind} {rows : List (List AV)} (n : Int) (h : rows = (rows.map decI).map (eNum k)) : nthL rows n.toNat [.lit (.int k 0)] = [.lit (.int k (nthI (rows.map decI) n))] := nth_rows (f := eNum k) rfl h n
@[simp] theorem encS_nth {rows : List (List AV)} (n : Int) (h : rows = (rows.map decS).map eTxt) : nthL rows n.toNat [.lit (.string ⟨⟨[]⟩⟩)] = [.lit (.string (nthI (rows.map decS) n))] := nth_rows (f := eTxt) rfl h n
theorem RL.weak {g : G} {l l' : List AV} {vs : List Value} (h : RL g l vs) (hw : WeakL l l') : RL g l' vs := by
 induction h generalizing l' with
 | nil => cases l' with
   | nil => exact .nil
   | cons => exact hw.elim
 | cons h r ih => cases l' with
   | nil => exact hw.elim
   | cons b l' => exact .cons (R.weak h hw.1) (ih hw.2)
theorem qac {P : Program} {f : FuncId} {l l' : List AV} {M : List qau} {out : Out} {av' : AV} {M' : Option (List qau)} (q : qao P f l M out) (ho : out.obl) (hl : WeakL l' l) (ha : out.av = av') (hm : out.M.getD M = M'.getD M) :
  qao P f l' M { av := av', M := M' } := by
 subst ha;intro g vs hM sm hr _;obtain ⟨c1, c2⟩ := q g vs hM sm (hr.weak hl) ho;refine ⟨c1, c2.mono fun e w' => ?_⟩;rintro ⟨v, rfl, β, ρ, s, r, k⟩;have e : g.out out.M β ρ w' = g.out M' β ρ w' := by simp only [G.out, hM, hm]
 exact ⟨v, rfl, β, ρ, e ▸ s, e ▸ r, e ▸ k⟩
@[simp] def nthE (l : List AV) (n : Nat) : Option AV := l[n]?
@[simp] def unA : AV → List AV
  | .agg l => l
  | a => [a]
@[simp] def cloneS (size bytes : Nat) : Sp
  | [.sl els _], M => some { av := .sl els (.own M.length 1 size), M := some (M ++ [.room 1]), obl := (∀ q ∈ els, q.length = size) ∧ AppB 0 (qat els) bytes ∧ marked M = false }
  | _, _ => none
theorem set_same {M : List qau} {i : Nat} {o : qau} (h : M[i]? = some o) : M.set i o = M := by rw [← get_of_some h, List.set_getElem_self]
def kI (k : IntKind) (x : Int) : AV := .lit (.int k x)
def kS (x : ByteArray) : AV := .lit (.string x)
def vA {α : Type} (f : α → List AV) (x : α) : AV := .agg (f x)
def dkI : AV → Int
 | .lit (.int _ x) => x
 | _ => 0
def dkS : AV → ByteArray
 | .lit (.string x) => x
 | _ => ⟨⟨[]⟩⟩
def dvA {α : Type} [Inhabited α] (d : List AV → α) : AV → α
 | .agg l => d l
 | _ => default
@[simp] theorem dkI_kI (k : IntKind) (x : Int) : dkI (kI k x) = x := rfl
@[simp] theorem dkS_kS (x : ByteArray) : dkS (kS x) = x := rfl
@[simp] theorem dvA_vA {α : Type} [Inhabited α] (d : List AV → α) (f : α → List AV) (x : α) : dvA d (vA f x) = d (f x) := rfl
def qas {K V : Type} (kE : K → AV) (vE : V → AV) (m : List (K × V)) : List (AV × AV) := m.map fun p => (kE p.1, vE p.2)
def decM {K V : Type} (kD : AV → K) (vD : AV → V) (es : List (AV × AV)) : List (K × V) := es.map fun p => (kD p.1, vD p.2)
def hasM {K V : Type} (eq : K → K → Bool) (k : K) : List (K × V) → Bool
 | [] => false
 | e :: r => qaf (eq k e.1) true (hasM eq k r)
def getM {K V : Type} (eq : K → K → Bool) (k : K) (z : V) : List (K × V) → V
 | [] => z
 | e :: r => if eq k e.1 = true then e.2 else getM eq k z r
def setM {K V : Type} (eq : K → K → Bool) (k : K) (v : V) : List (K × V) → List (K × V)
 | [] => [(k, v)]
 | e :: r => if eq k e.1 = true then (k, v) :: r else e :: setM eq k v r
def delM {K V : Type} (eq : K → K → Bool) (k : K) : List (K × V) → List (K × V)
 | [] => []
 | e :: r => if eq k e.1 = true then r else e :: delM eq k r
@[simp] theorem encM_nil {K V : Type} (kE : K → AV) (vE : V → AV) : qas kE vE [] = [] := rfl
@[simp] theorem encM_cons {K V : Type} (kE : K → AV) (vE : V → AV) (k : K) (v : V) (m : List (K × V)) : qas kE vE ((k, v) :: m) = (kE k, vE v) :: qas kE vE m := rfl
@[simp] theorem decM_nil {K V : Type} (kD : AV → K) (vD : AV → V) : decM kD vD [] = [] := rfl
theorem decM_encM {K V : Type} {kE : K → AV} {vE : V → AV} {kD : AV → K} {vD : AV → V} (hk : ∀ x, kD (kE x) = x) (hv : ∀ x, vD (vE x) = x) (m : List (K × V)) : decM kD vD (qas kE vE m) = m := by
 simp only [decM, qas, List.map_map];refine (List.map_congr_left fun e _ => ?_).trans (List.map_id m);simp only [Function.comp, hk, hv, id]
@[simp] theorem kI_bel (n : Nat) (k : IntKind) (x : Int) : (kI k x).bel n ↔ True := .rfl
@[simp] theorem kS_bel (n : Nat) (x : ByteArray) : (kS x).bel n ↔ True := .rfl
@[simp] theorem vA_bel {α : Type} (n : Nat) (f : α → List AV) (x : α) : (vA f x).bel n ↔ belL n (f x) := .rfl
theorem bel_encM {K V : Type} {kE : K → AV} {vE : V → AV} {n : Nat} (hk : ∀ x, (kE x).bel n) (hv : ∀ x, (vE x).bel n) (m : List (K × V)) : ∀ a b, (a, b) ∈ qas kE vE m → a.bel n ∧ b.bel n := fun a b he => by
 obtain ⟨p, _, q⟩ := List.mem_map.1 he;cases q;exact ⟨hk _, hv _⟩
theorem encM_bel {K V : Type} {kE : K → AV} {vE : V → AV} {n : Nat} (hk : ∀ x, (kE x).bel n) (hv : ∀ x, (vE x).bel n) (m : List (K × V)) : (qau.mapo (qas kE vE m)).bel n ↔ True :=
 ⟨fun _ => trivial, fun _ e he => bel_encM hk hv m e.1 e.2 he⟩
@[simp] theorem kI_ren (σ : Nat → Nat) (k : IntKind) (x : Int) : (kI k x).ren σ = kI k x := rfl
@[simp] theorem kS_ren (σ : Nat → Nat) (x : ByteArray) : (kS x).ren σ = kS x := rfl
theorem vA_ren {α : Type} (σ : Nat → Nat) (f : α → List AV) (x : α) : (vA f x).ren σ = vA (fun x => renL σ (f x)) x := rfl
theorem vA_ren_eq {α : Type} {σ : Nat → Nat} {f : α → List AV} (h : ∀ x, renL σ (f x) = f x) (x : α) : (vA f x).ren σ = vA f x := by rw [vA_ren]; simp only [vA, h]
theorem encM_ren {K V : Type} {σ : Nat → Nat} {kE : K → AV} {vE : V → AV} (hk : ∀ x, (kE x).ren σ = kE x) (hv : ∀ x, (vE x).ren σ = vE x) (m : List (K × V)) : (qau.mapo (qas kE vE m)).ren σ = .mapo (qas kE vE m) := by
 simp only [qau.ren, qas, List.map_map];congr 1;exact List.map_congr_left fun e _ => by simp only [Function.comp, hk, hv]
@[simp] theorem mapo_nil_ren (σ : Nat → Nat) : (qau.mapo []).ren σ = .mapo [] := rfl
@[simp] theorem mapr_bel (n : Nat) (es : List (AV × AV)) (vis : List Value) (cur : Option Value) (t : Nat) : (qau.mapr es vis cur t).bel n ↔ (qau.mapo es).bel n ∧ t < n := .rfl
@[simp] theorem mapo_nil_bel (n : Nat) : (qau.mapo []).bel n ↔ True := ⟨fun _ => trivial, fun _ _ h => by cases h⟩
@[simp] theorem hasV_nil (k : Value) : hasV k [] = some false := rfl
@[simp] theorem getV_nil (k : Value) (z : AV) : getV k z [] = z := rfl
@[simp] theorem setV_nil (k : Value) (v : AV) : setV k v [] = [(.lit k, v)] := rfl
@[simp] theorem delV_nil (k : Value) : delV k [] = [] := rfl
@[simp] theorem hasM_nil {K V : Type} (eq : K → K → Bool) (k : K) : hasM eq k ([] : List (K × V)) = false := rfl
@[simp] theorem getM_nil {K V : Type} (eq : K → K → Bool) (k : K) (z : V) : getM eq k z [] = z := rfl
@[simp] theorem setM_nil {K V : Type} (eq : K → K → Bool) (k : K) (v : V) : setM eq k v [] = [(k, v)] := rfl
@[simp] theorem delM_nil {K V : Type} (eq : K → K → Bool) (k : K) : delM eq k ([] : List (K × V)) = [] := rfl
@[simp] theorem hasV_I {V : Type} (k : IntKind) (x : Int) (vE : V → AV) (m : List (Int × V)) : hasV (.int k x) (qas (kI k) vE m) = some (hasM eqI x m) := by
  induction m with
  | nil => rfl
  | cons e r ih => simp only [qas, List.map_cons, kI, hasV, sameV, if_true, hasM] at ih ⊢; rw [ih]
@[simp] theorem hasV_S {V : Type} (x : ByteArray) (vE : V → AV) (m : List (ByteArray × V)) : hasV (.string x) (qas kS vE m) = some (hasM eqS x m) := by
  induction m with
  | nil => rfl
  | cons e r ih => simp only [qas, List.map_cons, kS, hasV, sameV, hasM] at ih ⊢; rw [ih]
theorem getV_I {V : Type} {k : IntKind} {vE : V → AV} {z : AV} {d : V} (hz : z = vE d) (x : Int) (m : List (Int × V)) : getV (.int k x) z (qas (kI k) vE m) = vE (getM eqI x d m) := by
 induction m with
 | nil => exact hz
 | cons e r ih =>
   simp only [qas, List.map_cons, kI, getV, sameV, if_true, getM, Option.some.injEq] at ih ⊢;split
   ·rfl
   ·exact ih
theorem getV_S {V : Type} {vE : V → AV} {z : AV} {d : V} (hz : z = vE d) (x : ByteArray) (m : List (ByteArray × V)) : getV (.string x) z (qas kS vE m) = vE (getM eqS x d m) := by
 induction m with
 | nil => exact hz
 | cons e r ih =>
   simp only [qas, List.map_cons, kS, getV, sameV, getM, Option.some.injEq] at ih ⊢;split
   ·rfl
   ·exact ih
theorem setV_I {V : Type} {k : IntKind} {vE : V → AV} {a : AV} {v : V} (ha : a = vE v) (x : Int) (m : List (Int × V)) : setV (.int k x) a (qas (kI k) vE m) = qas (kI k) vE (setM eqI x v m) := by
 subst ha
 induction m with
 | nil => rfl
 | cons e r ih =>
   simp only [qas, List.map_cons, kI, setV, sameV, if_true, setM, Option.some.injEq] at ih ⊢;split
   ·rfl
   ·rw [ih]; rfl
theorem setV_S {V : Type} {vE : V → AV} {a : AV} {v : V} (ha : a = vE v) (x : ByteArray) (m : List (ByteArray × V)) : setV (.string x) a (qas kS vE m) = qas kS vE (setM eqS x v m) := by
 subst ha
 induction m with
 | nil => rfl
 | cons e r ih =>
   simp only [qas, List.map_cons, kS, setV, sameV, setM, Option.some.injEq] at ih ⊢;split
   ·rfl
   ·rw [ih]; rfl
@[simp] theorem delV_I {V : Type} (k : IntKind) (x : Int) (vE : V → AV) (m : List (Int × V)) : delV (.int k x) (qas (kI k) vE m) = qas (kI k) vE (delM eqI x m) := by
  induction m with
  | nil => rfl
  | cons e r ih =>
    simp only [qas, List.map_cons, kI, delV, sameV, if_true, delM, Option.some.injEq] at ih ⊢;split
    ·rfl
    ·rw [ih]; rfl
@[simp] theorem bel_SI (n : Nat) (k2 : IntKind) (m : List (ByteArray × Int)) : (qau.mapo (qas kS (kI k2) m)).bel n ↔ True := encM_bel (fun _ => by simp) (fun _ => by simp) m
def setI {α : Type} (l : List α) (n : Int) (x : α) : List α := l.set n.toNat x
end Go.Ab
