import Derived.Test.YtjjjeolcapebbaaGreatDoorAb1
import Derived.Laws.StructEq
import Derived.Deep.AppendSrc
import Derived.Laws.IdiomStrings
import Derived.Laws.Cover4
import Derived.Maps.RangeRun
namespace Go.Ab
def ofConst : Value → AV
  | .slice none 0 0 => .sl [] .full
  | v => .lit v
theorem R.ofConst {g : G} (v : Value) : R g (ofConst v) v := by
  unfold Ab.ofConst;split
  · exact .nil _ trivial
  · exact .lit _
def AV.cellsOf : AV → List AV
  | .agg cs => cs
  | v => [v]
def AV.one : AV → Bool
  | .agg _ => false
  | .tup _ => false
  | .bag _ => false
  | .lit v => v.oneCell'
  | _ => true
def AV.var : AV → Bool
  | .agg _ => true
  | v => v.one
theorem R.one {g : G} {av : AV} {v : Value} (h : R g av v) (h1 : av.one = true) : v.oneCell' = true := by
  cases h <;> simp_all [AV.one, Value.oneCell']
theorem cells_of_one {v : Value} (h : v.oneCell' = true) : v.cells = #[v] := by cases v <;> simp_all [Value.oneCell', Value.cells]
theorem R.cellsOf {g : G} {av : AV} {v : Value} (h : R g av v) (h1 : av.var = true) :
    v.cells.size = av.cellsOf.length ∧ (∀ j (hj : j < av.cellsOf.length), R g av.cellsOf[j] (v.cells.getD j undef)) ∧
      ∀ j, j < av.cellsOf.length → (v.cells.getD j undef).oneCell' = true := by
  cases av with
  | agg cs =>
    cases h with
    | agg _ xs hs hx h4 => exact ⟨hs, hx, h4⟩
  | _ =>
    have ho := h.one h1;rw [cells_of_one ho];refine ⟨rfl, fun j hj => ?_, fun j hj => ?_⟩
    · have : j = 0 := by simp [AV.cellsOf] at hj; omega
      subst this; simpa [AV.cellsOf] using h
    · have : j = 0 := by simp [AV.cellsOf] at hj; omega
      subst this; simpa using ho
inductive TyK where
  | int (k : IntKind)
  | bool
  | str
  | slice (e : TypeId)
  | struct (fs : List (Nat × TypeId))
  | arr (n : Nat) (e : TypeId)
  | ptr (e : TypeId)
  | map (k e : TypeId)
  | iface
  | other
def kindOf : TypeDesc → TyK
  | .int k => .int k
  | .bool => .bool
  | .string => .str
  | .slice e => .slice e
  | .struct fs => .struct (fs.toList.map fun f => (f.offset, f.type))
  | .array n e => .arr n e
  | .pointer e => .ptr e
  | .map k e => .map k e
  | .interface _ => .iface
  | _ => .other
structure TyI where
  k : TyK
  size : Nat
  bytes : Nat
  zero : List AV
  eq : Bool
def TyK.agg : TyK → Bool
  | .struct _ => true
  | .arr _ _ => true
  | _ => false
def aggV : Value → Bool
  | .agg _ => true
  | _ => false
def tyOf (P : Program) (t : TypeId) : Option TyI :=
  match P.info? t, P.underlying t with
  | some i, some d => match i.zero with
    | some z => if z.cells.toList.all (·.oneCell') && (aggV z == (kindOf d).agg) then some ⟨kindOf d, i.size, i.bytes, z.cells.toList.map ofConst, P.keyTypeAt 100 t && !P.eqGuardType P.depth t⟩ else none
    | none => none
  | _, _ => none
def isPtrD : TypeDesc → Bool
  | .pointer _ => true
  | _ => false
def methOf (P : Program) (t : TypeId) (m : String) : Option FuncId :=
  match P.info? t, P.underlying t with
  | some i, some d => if isPtrD d then none else match i.methods.find? (·.name == m) with
    | some q => match q.path.toList, q.func with
      | [], some (f, false) => some f
      | _, _ => none
    | none => none
  | _, _ => none
def implOf (P : Program) (a t : TypeId) : Option Bool :=
  match P.underlying a, P.info? t with
  | some (.interface want), some i => some (Instr.missingMethod want i.methods).isNone
  | _, _ => none
structure TyTab where
  tab : TypeId → Option TyI
  meth : TypeId → String → Option FuncId
  impl : TypeId → TypeId → Option Bool
  nl : Option Nat
instance : CoeFun TyTab fun _ => TypeId → Option TyI := ⟨TyTab.tab⟩
structure TyOk (P : Program) (ty : TyTab) : Prop where
  h : ∀ t i, ty t = some i → tyOf P t = some i
  m : ∀ t n f, ty.meth t n = some f → methOf P t n = some f
  a : ∀ a t b, ty.impl a t = some b → implOf P a t = some b
theorem TyOk.eqk {P : Program} {ty : TyTab} (hty : TyOk P ty) {t : TypeId} {i : TyI} (h : ty t = some i) (he : i.eq = true) : P.keyTypeAt 100 t = true ∧ P.eqGuardType P.depth t = false := by
  have := hty.h t i h;unfold tyOf at this;split at this
  · split at this
    · split at this
      · simp only [Option.some.injEq] at this;subst this;simp only [Bool.and_eq_true, Bool.not_eq_true'] at he;exact he
      · cases this
    · cases this
  · cases this
theorem TyOk.facts {P : Program} {ty : TyTab} (hty : TyOk P ty) {t : TypeId} {i : TyI} (h : ty t = some i) :
    ∃ info d z, P.info? t = some info ∧ P.underlying t = some d ∧ kindOf d = i.k ∧ info.size = i.size ∧ info.bytes = i.bytes ∧ info.zero = some z ∧ i.zero = z.cells.toList.map ofConst ∧ z.cells.toList.all (·.oneCell') = true := by
  have := hty.h t i h;unfold tyOf at this;split at this
  · rename_i info d h1 h2;split at this
    · rename_i z h3;split at this
      · rename_i h4;simp only [Option.some.injEq] at this;subst this;exact ⟨info, d, z, h1, h2, rfl, rfl, rfl, h3, rfl, (Bool.and_eq_true _ _ ▸ h4).1⟩
      · cases this
    · cases this
  · cases this
theorem TyOk.zagg {P : Program} {ty : TyTab} (hty : TyOk P ty) {t : TypeId} {i : TyI} (h : ty t = some i) {z : Value} {w w' : World} (hz : (zeroValue t).run P w = .ok z w') : aggV z = i.k.agg := by
  have := hty.h t i h;unfold tyOf at this;split at this
  · rename_i info d h1 h2;split at this
    · rename_i z' h3;split at this
      · rename_i h4;simp only [Option.some.injEq] at this;subst this;simp [zeroValue, typeInfo, h1, h3] at hz;simp only [Bool.and_eq_true, beq_iff_eq] at h4;rw [← hz.1]; exact h4.2
      · cases this
    · cases this
  · cases this
theorem kind_slice {d : TypeDesc} {e : TypeId} (h : kindOf d = .slice e) : d = .slice e := by cases d <;> simp_all [kindOf]
theorem kind_bool {d : TypeDesc} (h : kindOf d = .bool) : d = .bool := by cases d <;> simp_all [kindOf]
theorem kind_str {d : TypeDesc} (h : kindOf d = .str) : d = .string := by cases d <;> simp_all [kindOf]
theorem kind_int {d : TypeDesc} {k : IntKind} (h : kindOf d = .int k) : d = .int k := by cases d <;> simp_all [kindOf]
theorem kind_arr {d : TypeDesc} {n : Nat} {e : TypeId} (h : kindOf d = .arr n e) : d = .array n e := by cases d <;> simp_all [kindOf]
theorem kind_ptr {d : TypeDesc} {e : TypeId} (h : kindOf d = .ptr e) : d = .pointer e := by cases d <;> simp_all [kindOf]
theorem kind_struct {d : TypeDesc} {l : List (Nat × TypeId)} (h : kindOf d = .struct l) : ∃ fs : Array Field, d = .struct fs ∧ l = fs.toList.map fun f => (f.offset, f.type) := by
  cases d <;> simp_all [kindOf]
section
variable {P : Program} {ty : TyTab}
theorem run_isAgg (hty : TyOk P ty) {t : TypeId} {i : TyI} (h : ty t = some i) (w : World) : (isAgg t).run P w = .ok i.k.agg w := by
  obtain ⟨info, d, z, h1, h2, h3, _⟩ := hty.facts h;have hu := run_underlying h2 w;unfold isAgg;cases d <;> simp [run_underlying h2, ← h3, kindOf, TyK.agg]
theorem run_sizeOf (hty : TyOk P ty) {t : TypeId} {i : TyI} (h : ty t = some i) (w : World) : (sizeOf t).run P w = .ok i.size w := by
  obtain ⟨info, d, z, h1, h2, h3, h4, _⟩ := hty.facts h;simp [sizeOf, typeInfo, h1, h4]
theorem run_zeroValue (hty : TyOk P ty) {t : TypeId} {i : TyI} (h : ty t = some i) (w : World) : ∃ z, (zeroValue t).run P w = .ok z w ∧ i.zero = z.cells.toList.map ofConst ∧ z.cells.toList.all (·.oneCell') = true := by
  obtain ⟨info, d, z, h1, h2, h3, h4, _, h5, h6⟩ := hty.facts h;exact ⟨z, by simp [zeroValue, typeInfo, h1, h5], h6⟩
end
abbrev Tag := Option (Nat × Bool)
structure Ent where
  t : Nat
  tag : Tag
  av : AV
abbrev Env := List Ent
def ent : Env → Nat → Option (Tag × AV)
  | [], _ => none
  | e :: r, t => if e.t = t then some (e.tag, e.av) else ent r t
def vis (vs : List (Nat × Bool)) : Tag → Bool
  | none => true
  | some τ => vs.contains τ
def getE (A : Env) (vs : List (Nat × Bool)) (t : Nat) : Option AV :=
  match ent A t with
  | some (tag, av) => if vis vs tag then some av else none
  | none => none
def evX (A : Env) (vs : List (Nat × Bool)) : Operand → Option AV
  | .tmp t => getE A vs t
  | .const v => some (ofConst v)
  | .func f => some (.lit (.func (.func f) #[] #[]))
  | .global _ => none
def sameO : Operand → Operand → Bool
  | .tmp a, .tmp b => a == b
  | _, _ => false
def zeroO : Operand → Operand → Bool
  | .const (.int _ n), .tmp _ => n == 0
  | _, _ => false
def evXs (A : Env) (vs : List (Nat × Bool)) : List Operand → Option (List AV)
  | [] => some []
  | x :: r => match evX A vs x, evXs A vs r with
    | some a, some l => some (a :: l)
    | _, _ => none
def visOf (A : Env) : Nat → Tag → List (Nat × Bool)
  | _, none => []
  | 0, some τ => [τ]
  | n + 1, some τ => τ :: (match ent A τ.1 with | some (tag, _) => visOf A n tag | none => [])
def yv : Value → Option Bool
  | .bool b => some b
  | _ => none
def TagRel (tag : Tag) (tmps : Array Value) (t : Nat) (p : Prop) : Prop :=
  match tag with
  | none => p
  | some (t', b) => (yv (tmps.getD t' undef) = some b → p) ∧ (yv (tmps.getD t' undef) ≠ some b → tmps.getD t undef = undef)
def EnvRel (g : G) (A : Env) (tmps : Array Value) : Prop :=
  ∀ t tag av, ent A t = some (tag, av) → TagRel tag tmps t (R g av (tmps.getD t undef))
def Tr (tmps : Array Value) (vs : List (Nat × Bool)) : Prop := ∀ p, p ∈ vs → yv (tmps.getD p.1 undef) = some p.2
theorem EnvRel.keep {g g' : G} {A : Env} {tmps : Array Value} (k : Keep g g') (h : EnvRel g A tmps) : EnvRel g' A tmps := by
  intro t tag av he;have := h t tag av he;cases tag with
  | none => exact R.keep k this
  | some τ => exact ⟨fun hy => (this.1 hy).keep k, this.2⟩
theorem EnvRel.get {g : G} {A : Env} {tmps : Array Value} (h : EnvRel g A tmps) {vs : List (Nat × Bool)} (hv : Tr tmps vs) {t : Nat} {av : AV} (hg : getE A vs t = some av) :
    R g av (tmps.getD t undef) := by
  unfold getE at hg;cases he : ent A t with
  | none => simp [he] at hg
  | some p =>
    obtain ⟨tag, a⟩ := p;simp only [he] at hg;split at hg
    · rename_i hvis;cases hg;have := h t tag _ he;cases tag with
      | none => exact this
      | some τ => exact this.1 (hv τ (by simpa [vis] using hvis))
    · cases hg
theorem EnvRel.ev {g : G} {A : Env} {a : Act} (h : EnvRel g A a.tmps) {vs : List (Nat × Bool)} (hv : Tr a.tmps vs) {x : Operand} {av : AV} (hg : evX A vs x = some av) : R g av (a.eval x) := by
  cases x with
  | tmp t => exact h.get hv hg
  | const v => cases hg; exact R.ofConst v
  | func f => cases hg; exact .lit _
  | global n => cases hg
inductive RL (g : G) : List AV → List Value → Prop
  | nil : RL g [] []
  | cons {a : AV} {l : List AV} {v : Value} {vs : List Value} (h : R g a v) (r : RL g l vs) : RL g (a :: l) (v :: vs)
theorem EnvRel.evs {g : G} {A : Env} {a : Act} (h : EnvRel g A a.tmps) {vs : List (Nat × Bool)} (hv : Tr a.tmps vs) : ∀ {xs : List Operand} {l : List AV}, evXs A vs xs = some l → RL g l (xs.map a.eval)
  | [], l, hg => by cases hg; exact .nil
  | x :: r, l, hg => by
    unfold evXs at hg;split at hg
    · rename_i b l' h1 h2;cases hg;exact .cons (h.ev hv h1) (h.evs hv h2)
    · cases hg
theorem Tr.visOf {g : G} {A : Env} {tmps : Array Value} (h : EnvRel g A tmps) : ∀ (n : Nat) (tag : Tag), (∀ τ, tag = some τ → yv (tmps.getD τ.1 undef) = some τ.2) → Tr tmps (visOf A n tag)
  | n, none, _ => by cases n <;> (intro p hp; simp [Ab.visOf] at hp)
  | 0, some τ, hτ => by
    intro p hp;simp only [Ab.visOf, List.mem_singleton] at hp;subst hp; exact hτ p rfl
  | n + 1, some τ, hτ => by
    intro p hp;simp only [Ab.visOf, List.mem_cons] at hp;rcases hp with rfl | hp
    · exact hτ p rfl
    · cases he : ent A τ.1 with
      | none => simp [he] at hp
      | some q =>
        obtain ⟨tag, a⟩ := q;simp only [he] at hp;refine Tr.visOf h n tag (fun σ hσ => ?_) p hp;subst hσ;have := (h τ.1 (some σ) a he).2;by_cases hy : yv (tmps.getD σ.1 undef) = some σ.2
        · exact hy
        · have hu := this hy;have h1 := hτ τ rfl;rw [hu] at h1;cases h1
structure Out where
  av : AV
  M : Option (List AObj) := none
  obl : Prop := True
def G.out (g : G) (M : Option (List AObj)) (β : Nat → Nat) (ρ : Nat → Room) (w : World) : G := ⟨M.getD g.M, β, ρ, w, g.X⟩
def Post (g : G) (o : Out) (v : Value) (w' : World) : Prop :=
  ∃ β ρ, Sim (g.out o.M β ρ w') ∧ R (g.out o.M β ρ w') o.av v ∧ Keep g (g.out o.M β ρ w')
def Runs (P : Program) (s : Sem Value) (g : G) (o : Out) : Prop := ∃ v w', s.run P g.w = .ok v w' ∧ Post g o v w'
theorem Post.same {g : G} {o : Out} {v : Value} (hM : o.M = none) (s : Sim g) (h : R g o.av v) : Post g o v g.w :=
  ⟨g.β, g.ρ, by simpa [G.out, hM] using s, by simpa [G.out, hM] using h, by simpa [G.out, hM] using Keep.refl g⟩
theorem Post.of {g : G} {o : Out} {v : Value} {w' : World} {M' : List AObj} {β : Nat → Nat} {ρ : Nat → Room} (hM : o.M = some M') (s : Sim ⟨M', β, ρ, w', g.X⟩) (h : R ⟨M', β, ρ, w', g.X⟩ o.av v)
    (k : Keep g ⟨M', β, ρ, w', g.X⟩) : Post g o v w' :=
  ⟨β, ρ, by rw [hM]; exact s, by rw [hM]; exact h, by rw [hM]; exact k⟩
def bitsOp (op : BinOp) (k : IntKind) (a b : Int) : Int :=
  match op with
  | .and => k.wrap (BitVec.ofInt k.bits a &&& BitVec.ofInt k.bits b).toNat
  | .or => k.wrap (BitVec.ofInt k.bits a ||| BitVec.ofInt k.bits b).toNat
  | .xor => k.wrap (BitVec.ofInt k.bits a ^^^ BitVec.ofInt k.bits b).toNat
  | _ => k.wrap (BitVec.ofInt k.bits a &&& ~~~ BitVec.ofInt k.bits b).toNat
def addI (k : IntKind) (a b : Int) : Int := k.wrap (a + b)
def subI (k : IntKind) (a b : Int) : Int := k.wrap (a - b)
def mulI (k : IntKind) (a b : Int) : Int := k.wrap (a * b)
def quoI (k : IntKind) (a b : Int) : Int := k.wrap (a.tdiv b)
def remI (a b : Int) : Int := a.tmod b
def shlI (k : IntKind) (a b : Int) : Int := k.wrap (a * 2 ^ (min b.toNat k.bits))
def shrI (k : IntKind) (a b : Int) : Int := a.fdiv (2 ^ (min b.toNat k.bits))
def negI (k : IntKind) (a : Int) : Int := k.wrap (0 - a)
def cplI (k : IntKind) (a : Int) : Int := bitsOp .xor k (if k.signed then -1 else k.max) a
def cvtI (k : IntKind) (a : Int) : Int := k.wrap a
def eqI (a b : Int) : Bool := a == b
def neI (a b : Int) : Bool := a != b
def ltI (a b : Int) : Bool := decide (a < b)
def leqI (a b : Int) : Bool := decide (a ≤ b)
def minI (a b : Int) : Int := min a b
def maxI (a b : Int) : Int := max a b
def eqB (a b : Bool) : Bool := a == b
def neB (a b : Bool) : Bool := !(a == b)
def notB (a : Bool) : Bool := !a
def pickB (p x y : Bool) : Bool := bif p then x else y
def catS (a b : ByteArray) : ByteArray := a ++ b
def eqS (a b : ByteArray) : Bool := a.toList == b.toList
def neS (a b : ByteArray) : Bool := !(a.toList == b.toList)
def ltS (a b : ByteArray) : Bool := Op.bytesLess a.toList b.toList
def leS (a b : ByteArray) : Bool := Op.bytesLess a.toList b.toList || a.toList == b.toList
def lenS (a : ByteArray) : Int := a.size
def lenL {α : Type} (l : List α) : Int := l.length
def idxS (a : ByteArray) (n : Int) : Int := (a.data.toList.getD n.toNat 0).toNat
def cutS (a : ByteArray) (l h : Int) : ByteArray := a.extract l.toNat h.toNat
def cutL {α : Type} (a : List α) (l h : Int) : List α := (a.drop l.toNat).take (h.toNat - l.toNat)
def appL {α : Type} (a b : List α) : List α := a ++ b
def repL {α : Type} (n : Int) (a : α) : List α := List.replicate n.toNat a
def NonZ (b : Int) : Prop := b ≠ 0
def NonN (b : Int) : Prop := 0 ≤ b
def InB (n len : Int) : Prop := 0 ≤ n ∧ n < len
def CutB (l h len : Int) : Prop := 0 ≤ l ∧ l ≤ h ∧ h ≤ len
def CatB (a b : ByteArray) : Prop := a.size + b.size ≤ 9223372036854775807
def AppB (n m : Int) (bytes : Nat) : Prop := (n + m) * bytes ≤ 140737488355328 ∧ n + m ≤ 4611686018427387904
def RepB (n m : Int) (bytes : Nat) : Prop := 0 ≤ n ∧ n = m ∧ bytes * n ≤ 281474976710656 ∧ n ≤ 9223372036854775807
instance (b : Int) : Decidable (NonZ b) := inferInstanceAs (Decidable (b ≠ 0))
instance (b : Int) : Decidable (NonN b) := inferInstanceAs (Decidable (0 ≤ b))
instance (n len : Int) : Decidable (InB n len) := inferInstanceAs (Decidable (0 ≤ n ∧ n < len))
instance (l h len : Int) : Decidable (CutB l h len) := inferInstanceAs (Decidable (0 ≤ l ∧ l ≤ h ∧ h ≤ len))
instance (a b : ByteArray) : Decidable (CatB a b) := inferInstanceAs (Decidable (a.size + b.size ≤ 9223372036854775807))
instance (n m : Int) (bytes : Nat) : Decidable (AppB n m bytes) := inferInstanceAs (Decidable ((n + m) * bytes ≤ 140737488355328 ∧ n + m ≤ 4611686018427387904))
instance (n m : Int) (bytes : Nat) : Decidable (RepB n m bytes) := inferInstanceAs (Decidable (0 ≤ n ∧ n = m ∧ bytes * n ≤ 281474976710656 ∧ n ≤ 9223372036854775807))
def intOut (op : BinOp) (k : IntKind) (a b : Int) : Option Out :=
  match op with
  | .add => some { av := .lit (.int k (addI k a b)) }
  | .sub => some { av := .lit (.int k (subI k a b)) }
  | .mul => some { av := .lit (.int k (mulI k a b)) }
  | .quo => some { av := .lit (.int k (quoI k a b)), obl := NonZ b }
  | .rem => some { av := .lit (.int k (remI a b)), obl := NonZ b }
  | .and => some { av := .lit (.int k (bitsOp .and k a b)) }
  | .or => some { av := .lit (.int k (bitsOp .or k a b)) }
  | .xor => some { av := .lit (.int k (bitsOp .xor k a b)) }
  | .andNot => some { av := .lit (.int k (bitsOp .andNot k a b)) }
  | .eql => some { av := .lit (.bool (eqI a b)) }
  | .neq => some { av := .lit (.bool (neI a b)) }
  | .lss => some { av := .lit (.bool (ltI a b)) }
  | .leq => some { av := .lit (.bool (leqI a b)) }
  | .gtr => some { av := .lit (.bool (ltI b a)) }
  | .geq => some { av := .lit (.bool (leqI b a)) }
  | _ => none
def strOut (op : BinOp) (a b : ByteArray) : Option Out :=
  match op with
  | .add => some { av := .lit (.string (catS a b)), obl := CatB a b }
  | .eql => some { av := .lit (.bool (eqS a b)) }
  | .neq => some { av := .lit (.bool (neS a b)) }
  | .lss => some { av := .lit (.bool (ltS a b)) }
  | .leq => some { av := .lit (.bool (leS a b)) }
  | .gtr => some { av := .lit (.bool (notB (leS a b))) }
  | .geq => some { av := .lit (.bool (notB (ltS a b))) }
  | _ => none
def shiftOut (op : BinOp) (k : IntKind) (a b : Int) : Option Out :=
  match op with
  | .shl => some { av := .lit (.int k (shlI k a b)), obl := NonN b }
  | .shr => some { av := .lit (.int k (shrI k a b)), obl := NonN b }
  | _ => none
def isShift : BinOp → Bool
  | .shl => true
  | .shr => true
  | _ => false
def binOut (kx : TyK) (op : BinOp) (x y : AV) : Option Out :=
  match x, y with
  | .lit (.int k a), .lit (.int k' b) => if isShift op then shiftOut op k a b else if k = k' then intOut op k a b else none
  | .lit (.string a), .lit (.string b) => strOut op a b
  | .lit (.bool a), .lit (.bool b) =>
    match kx, op with
    | .bool, .eql => some { av := .lit (.bool (eqB a b)) }
    | .bool, .neq => some { av := .lit (.bool (neB a b)) }
    | _, _ => none
  | .ptr _ _, .lit (.pointer none) =>
    match kx, op with
    | .ptr _, .eql => some { av := .lit (.bool false) }
    | .ptr _, .neq => some { av := .lit (.bool true) }
    | _, _ => none
  | .lit (.pointer none), .lit (.pointer none) =>
    match kx, op with
    | .ptr _, .eql => some { av := .lit (.bool true) }
    | .ptr _, .neq => some { av := .lit (.bool false) }
    | _, _ => none
  | _, _ => none
section
variable {P : Program} {ty : TyTab}
theorem run_eqGuard_int (op : BinOp) (t : TypeId) (x y : Operand) (k k' : IntKind) (a b : Int) (w : World) : (eqGuard op t x y (.int k a) (.int k' b)).run P w = .ok () w := by
  unfold eqGuard; cases op <;> rfl
theorem run_eqGuard_string (op : BinOp) (t : TypeId) (x y : Operand) (a b : ByteArray) (w : World) : (eqGuard op t x y (.string a) (.string b)).run P w = .ok () w := by
  unfold eqGuard; cases op <;> rfl
theorem run_eqGuard_bool (op : BinOp) (t : TypeId) (x y : Operand) (a b : Bool) (w : World) : (eqGuard op t x y (.bool a) (.bool b)).run P w = .ok () w := by
  unfold eqGuard; cases op <;> rfl
theorem run_eqGuard_pointer (op : BinOp) (t : TypeId) (x y : Operand) (a b : Option Addr) (w : World) : (eqGuard op t x y (.pointer a) (.pointer b)).run P w = .ok () w := by
  unfold eqGuard; cases op <;> rfl
theorem run_equalIn_bool {t : TypeId} (h : P.underlying t = some .bool) (d : Nat) (a b : Bool) (w : World) : (Op.equalIn (d + 1) t (.bool a) (.bool b)).run P w = .ok (a == b) w := by
  simp [Op.equalIn, run_underlying h]
theorem run_equal_bool {t : TypeId} (h : P.underlying t = some .bool) (a b : Bool) (w : World) : (Op.equal t (.bool a) (.bool b)).run P w = .ok (a == b) w :=
  run_equalIn_bool h 9999 a b w
theorem run_equalIn_nil {t e : TypeId} (h : P.underlying t = some (.pointer e)) (d : Nat) (a : Option Addr) (w : World) : (Op.equalIn (d + 1) t (.pointer a) (.pointer none)).run P w = .ok a.isNone w := by
  cases a <;> simp [Op.equalIn, run_underlying h]
theorem run_equal_nil {t e : TypeId} (h : P.underlying t = some (.pointer e)) (a : Option Addr) (w : World) : (Op.equal t (.pointer a) (.pointer none)).run P w = .ok a.isNone w :=
  run_equalIn_nil h 9999 a w
theorem run_eql_bool {t : TypeId} (h : P.underlying t = some .bool) (a b : Bool) (w : World) : (binOp .eql t (.bool a) (.bool b)).run P w = .ok (.bool (a == b)) w := by
  simp only [binOp, Sem.run_bind, run_equal_bool h]; rfl
theorem run_neq_bool {t : TypeId} (h : P.underlying t = some .bool) (a b : Bool) (w : World) : (binOp .neq t (.bool a) (.bool b)).run P w = .ok (.bool (!(a == b))) w := by
  simp only [binOp, Sem.run_bind, run_equal_bool h]; rfl
theorem run_eql_nil {t e : TypeId} (h : P.underlying t = some (.pointer e)) (a : Option Addr) (w : World) : (binOp .eql t (.pointer a) (.pointer none)).run P w = .ok (.bool a.isNone) w := by
  simp only [binOp, Sem.run_bind, run_equal_nil h]; rfl
theorem run_neq_nil {t e : TypeId} (h : P.underlying t = some (.pointer e)) (a : Option Addr) (w : World) : (binOp .neq t (.pointer a) (.pointer none)).run P w = .ok (.bool (!a.isNone)) w := by
  simp only [binOp, Sem.run_bind, run_equal_nil h]; rfl
theorem intOut_runs {op : BinOp} {k : IntKind} {a b : Int} {o : Out} (h : intOut op k a b = some o) (hs : isShift op = false) (ho : o.obl) (w : World) (t : TypeId) :
    ∃ v, (binOp op t (.int k a) (.int k b)).run P w = .ok v w ∧ o.M = none ∧ o.av = .lit v := by
  cases op <;> simp only [intOut, Option.some.injEq, reduceCtorEq] at h <;> subst h <;>
    first
      | (simp only [isShift] at hs; cases hs; done)
      | (refine ⟨_, ?_, rfl, rfl⟩; simp [binOp, Op.intArith, Op.intBits, Op.intCmp, bitsOp, addI, subI, mulI, eqI, neI, ltI, leqI]; done)
      | (refine ⟨_, ?_, rfl, rfl⟩; simp only [NonZ] at ho; simp [binOp, Op.intDiv, ho, quoI, remI]; done)
theorem shiftOut_runs {op : BinOp} {k yk : IntKind} {a b : Int} {o : Out} (h : shiftOut op k a b = some o) (ho : o.obl) (w : World) (t : TypeId) :
    ∃ v, (binOp op t (.int k a) (.int yk b)).run P w = .ok v w ∧ o.M = none ∧ o.av = .lit v := by
  cases op <;> simp only [shiftOut, Option.some.injEq, reduceCtorEq] at h <;> subst h <;> simp only at ho <;>
    (refine ⟨_, ?_, rfl, rfl⟩; have : ¬ b < 0 := by (unfold NonN at ho; omega)
     simp [binOp, Op.shift, this, shlI, shrI])
theorem strOut_runs {op : BinOp} {a b : ByteArray} {o : Out} (h : strOut op a b = some o) (ho : o.obl) (w : World) (t : TypeId) :
    ∃ v, (binOp op t (.string a) (.string b)).run P w = .ok v w ∧ o.M = none ∧ o.av = .lit v := by
  cases op <;> simp only [strOut, Option.some.injEq, reduceCtorEq] at h <;> subst h <;> simp only at ho <;>
    (refine ⟨_, ?_, rfl, rfl⟩)
  case add =>
    have h1 : ¬ (9223372036854775807 : Int) < (a.size : Int) + (b.size : Int) := by unfold CatB at ho; omega
    simp [binOp, Op.stringOp, IntKind.max, h1, IntKind.signed, IntKind.bits, catS]
  all_goals simp [binOp, Op.stringOp, eqS, neS, ltS, leS, notB]
theorem R.lit_inv {g : G} {v v' : Value} (h : R g (.lit v) v') : v' = v := by cases h; rfl
theorem binOut_runs (hty : TyOk P ty) {op : BinOp} {t : TypeId} {i : TyI} (hi : ty t = some i) {x y : AV} {a b : Value} {g : G} {o : Out}
    (h : binOut i.k op x y = some o) (ho : o.obl) (s : Sim g) (hx : R g x a) (hy : R g y b) (X Y : Operand) :
    Runs P (do eqGuard op t X Y a b; binOp op t a b) g o := by
  obtain ⟨info, d, z, h1, h2, h3, _⟩ := hty.facts hi;unfold binOut at h;split at h
  · rename_i k n k' m;have e1 := hx.lit_inv; have e2 := hy.lit_inv; subst e1 e2;have hg := run_eqGuard_int (P := P) op t X Y k k' n m g.w;split at h
    · obtain ⟨v, r, hM, hav⟩ := shiftOut_runs (P := P) (yk := k') h ho g.w t;exact ⟨v, g.w, by simp [hg, r], Post.same hM s (hav ▸ .lit v)⟩
    · rename_i hsh;split at h
      · rename_i hk; subst hk;obtain ⟨v, r, hM, hav⟩ := intOut_runs (P := P) h (by simpa using hsh) ho g.w t;exact ⟨v, g.w, by simp [hg, r], Post.same hM s (hav ▸ .lit v)⟩
      · cases h
  · rename_i n m;have e1 := hx.lit_inv; have e2 := hy.lit_inv; subst e1 e2;have hg := run_eqGuard_string (P := P) op t X Y n m g.w;obtain ⟨v, r, hM, hav⟩ := strOut_runs (P := P) h ho g.w t;exact ⟨v, g.w, by simp [hg, r], Post.same hM s (hav ▸ .lit v)⟩
  · rename_i n m;have e1 := hx.lit_inv; have e2 := hy.lit_inv; subst e1 e2;have hg := fun op => run_eqGuard_bool (P := P) op t X Y n m g.w;split at h
    · rename_i hk; have := kind_bool (h3.trans hk); subst this;cases h;exact ⟨.bool (eqB n m), g.w, by simp only [Sem.run_bind, hg, Result.andThen_ok, run_eql_bool h2]; rfl, Post.same rfl s (.lit _)⟩
    · rename_i hk; have := kind_bool (h3.trans hk); subst this;cases h;exact ⟨.bool (neB n m), g.w, by simp only [Sem.run_bind, hg, Result.andThen_ok, run_neq_bool h2]; rfl, Post.same rfl s (.lit _)⟩
    · cases h
  · rename_i j off;have e2 := hy.lit_inv; subst e2;cases hx with
    | ptr _ _ hj =>
    have hg := fun op => run_eqGuard_pointer (P := P) op t X Y (some ⟨g.β j, off, none⟩) none g.w;split at h
    · rename_i e hk; have := kind_ptr (h3.trans hk); subst this;cases h;exact ⟨.bool false, g.w, by simp only [Sem.run_bind, hg, Result.andThen_ok, run_eql_nil h2]; rfl, Post.same rfl s (.lit _)⟩
    · rename_i e hk; have := kind_ptr (h3.trans hk); subst this;cases h;exact ⟨.bool true, g.w, by simp only [Sem.run_bind, hg, Result.andThen_ok, run_neq_nil h2]; rfl, Post.same rfl s (.lit _)⟩
    · cases h
  · have e1 := hx.lit_inv; have e2 := hy.lit_inv; subst e1 e2;have hg := fun op => run_eqGuard_pointer (P := P) op t X Y none none g.w;split at h
    · rename_i e hk; have := kind_ptr (h3.trans hk); subst this;cases h;exact ⟨.bool true, g.w, by simp only [Sem.run_bind, hg, Result.andThen_ok, run_eql_nil h2]; rfl, Post.same rfl s (.lit _)⟩
    · rename_i e hk; have := kind_ptr (h3.trans hk); subst this;cases h;exact ⟨.bool false, g.w, by simp only [Sem.run_bind, hg, Result.andThen_ok, run_neq_nil h2]; rfl, Post.same rfl s (.lit _)⟩
    · cases h
  · cases h
def unOut (op : UnOp) (x : AV) : Option Out :=
  match op, x with
  | .not, .lit (.bool b) => some { av := .lit (.bool (notB b)) }
  | .neg, .lit (.int k n) => some { av := .lit (.int k (negI k n)) }
  | .xor, .lit (.int k n) => some { av := .lit (.int k (cplI k n)) }
  | _, _ => none
theorem unOut_runs {op : UnOp} {x : AV} {a : Value} {g : G} {o : Out} (h : unOut op x = some o) (s : Sim g) (hx : R g x a) : Runs P (Op.unary op a) g o := by
  unfold unOut at h;split at h
  · have e := hx.lit_inv; subst e; cases h;exact ⟨_, g.w, rfl, Post.same rfl s (.lit _)⟩
  · have e := hx.lit_inv; subst e; cases h;exact ⟨_, g.w, by simp [Op.unary, Op.intArith, negI], Post.same rfl s (.lit _)⟩
  · have e := hx.lit_inv; subst e; cases h;exact ⟨_, g.w, by simp [Op.unary, Op.intBits, bitsOp, cplI], Post.same rfl s (.lit _)⟩
  · cases h
def convOut (ks kd : TyK) (x : AV) : Option Out :=
  match ks, kd, x with
  | .int _, .int k, .lit (.int _ n) => some { av := .lit (.int k (cvtI k n)) }
  | .str, .str, .lit (.string s) => some { av := .lit (.string s) }
  | .int _, .str, .lit (.int _ n) => some { av := .lit (.string (Utf8.encode n)) }
  | _, _, _ => none
theorem convOut_runs (hty : TyOk P ty) {ts td : TypeId} {is id : TyI} (hs : ty ts = some is) (hd : ty td = some id) {x : AV} {a : Value} {g : G} {o : Out}
    (h : convOut is.k id.k x = some o) (s : Sim g) (hx : R g x a) : Runs P (convert ts td a) g o := by
  obtain ⟨_, d1, _, _, u1, k1, _⟩ := hty.facts hs;obtain ⟨_, d2, _, _, u2, k2, _⟩ := hty.facts hd;unfold convOut at h;split at h
  · rename_i hk1 hk2;have e := hx.lit_inv; subst e; cases h;have := kind_int (k1.trans hk1); subst this;have := kind_int (k2.trans hk2); subst this;exact ⟨_, g.w, by simp [convert, run_underlying u1, run_underlying u2, Conv.intToInt, cvtI], Post.same rfl s (.lit _)⟩
  · rename_i hk1 hk2;have e := hx.lit_inv; subst e; cases h;have := kind_str (k1.trans hk1); subst this;have := kind_str (k2.trans hk2); subst this;exact ⟨_, g.w, by simp [convert, run_underlying u1, run_underlying u2], Post.same rfl s (.lit _)⟩
  · rename_i hk1 hk2;have e := hx.lit_inv; subst e; cases h;have := kind_int (k1.trans hk1); subst this;have := kind_str (k2.trans hk2); subst this;exact ⟨_, g.w, by simp [convert, run_underlying u1, run_underlying u2, Conv.intToString], Post.same rfl s (.lit _)⟩
  · cases h
end
theorem of_oneCells {g : G} (z : Value) (h : z.cells.toList.all (·.oneCell') = true) :
    z.cells.size = (z.cells.toList.map Ab.ofConst).length ∧ (∀ j (hj : j < (z.cells.toList.map Ab.ofConst).length), R g (z.cells.toList.map Ab.ofConst)[j] (z.cells.getD j undef)) ∧
      ∀ j, j < (z.cells.toList.map Ab.ofConst).length → (z.cells.getD j undef).oneCell' = true := by
  refine ⟨by simp, fun j hj => ?_, fun j hj => ?_⟩
  · have hj' : j < z.cells.size := by simpa using hj
    have : z.cells.getD j undef = z.cells[j] := by simp [Array.getD, hj']
    rw [this];simp only [List.getElem_map, Array.getElem_toList];exact R.ofConst _
  · have hj' : j < z.cells.size := by simpa using hj
    have : z.cells.getD j undef = z.cells[j] := by simp [Array.getD, hj']
    rw [this];exact List.all_eq_true.1 h _ (by simp)
theorem post_new {g : G} {cells : List AV} {xs : Array Value} {T : TypeId} {o : Out} (s : Sim g) (hM : o.M = some (g.M ++ [.blk cells])) (hav : o.av = .ptr g.M.length 0)
    (h : xs.size = cells.length ∧ (∀ j (hj : j < cells.length), R g cells[j] (xs.getD j undef)) ∧ ∀ j, j < cells.length → (xs.getD j undef).oneCell' = true) :
    Post g o (.pointer (some ⟨g.w.heap.size, 0, none⟩)) { g.w with heap := g.w.heap.push (.cells xs T) } := by
  have hc : ∀ a, (AObj.blk cells).covers g.w.heap.size (⟨0, 0, 0, nobs⟩ : Room) a → a.block = g.w.heap.size := fun a ha => ha;have k := keep_add (g := g) (ao := .blk cells) (r := ⟨0, 0, 0, nobs⟩) (w' := { g.w with heap := g.w.heap.push (.cells xs T) }) rfl hc
  have s' := sim_add (g := g) (ao := .blk cells) (r := ⟨0, 0, 0, nobs⟩) (w' := { g.w with heap := g.w.heap.push (.cells xs T) }) rfl hc s
    (fun cs hcs => by cases hcs; exact ⟨xs, T, rfl, h⟩) (fun _ _ h => by cases h) (fun _ h => by cases h)
  refine Post.of hM s' ?_ k;rw [hav]
  have hr : R (g.add (.blk cells) ⟨0, 0, 0, nobs⟩ { g.w with heap := g.w.heap.push (.cells xs T) }) (.ptr g.M.length 0) (.pointer (some ⟨(g.add (.blk cells) ⟨0, 0, 0, nobs⟩ { g.w with heap := g.w.heap.push (.cells xs T) }).β g.M.length, 0, none⟩)) :=
    .ptr _ _ (by simp [G.add])
  simp only [G.add, upd_same] at hr;exact hr
def boxOut (M : List AObj) (x : AV) : Out := { av := .ptr M.length 0, M := some (M ++ [.blk x.cellsOf]), obl := x.var = true }
theorem boxOut_runs {P : Program} {g : G} {T : TypeId} {x : AV} {a : Value} (ho : (boxOut g.M x).obl) (s : Sim g) (hx : R g x a) : Runs P (Instr.box T a) g (boxOut g.M x) :=
  ⟨_, _, rfl, post_new s rfl rfl (hx.cellsOf ho)⟩
def allocOut (i : TyI) (M : List AObj) : Out := { av := .ptr M.length 0, M := some (M ++ [.blk i.zero]) }
theorem allocOut_runs {P : Program} {ty : TyTab} (hty : TyOk P ty) {T : TypeId} {i : TyI} (hi : ty T = some i) {g : G} (s : Sim g) : Runs P (Instr.alloc T true (.tuple #[])) g (allocOut i g.M) := by
  obtain ⟨z, hz, h1, h2⟩ := run_zeroValue hty hi g.w;refine ⟨.pointer (some ⟨g.w.heap.size, 0, none⟩), { g.w with heap := g.w.heap.push (.cells z.cells T) }, ?_, post_new s rfl rfl (h1 ▸ of_oneCells z h2)⟩;simp [Instr.alloc, hz, newVar, newRow]
def rowAt (els : List (List AV)) (k : Nat) : List AV := els.getD k []
def setAt (els : List (List AV)) (k : Nat) (r : List AV) : List (List AV) := els.set k r
def peek (M : List AObj) : AV → Option (List AV)
  | .ptr i off => match M[i]? with
    | some (.blk cells) => some (cells.drop off)
    | _ => none
  | .aptr i idx off s => match M[i]? with
    | some (.arr z els) => if z = s then some ((rowAt els idx).drop off) else none
    | _ => none
  | .cptr cells => some cells
  | _ => none
theorem peek_spec {g : G} (s : Sim g) {x : AV} {a : Value} (hx : R g x a) {cs : List AV} (h : peek g.M x = some cs) :
    ∃ b off, a = .pointer (some ⟨b, off, none⟩) ∧ ∃ xs : Nat → Value, (∀ j, j < cs.length → g.w.cell? ⟨b, off + j, none⟩ = some (xs j)) ∧
      (∀ j (hj : j < cs.length), R g cs[j] (xs j)) ∧ ∀ j, j < cs.length → (xs j).oneCell' = true := by
  cases hx with
  | ptr i off hi =>
    simp only [peek] at h;split at h
    · rename_i cells hM;cases h;obtain ⟨xs, T, h1, h2, h3, h4⟩ := s.blk i cells hM;refine ⟨g.β i, off, rfl, fun j => xs.getD (off + j) undef, fun j hj => ?_, fun j hj => ?_, fun j hj => ?_⟩
      · have hj' : off + j < xs.size := by simp at hj; omega
        simp [World.cell?, h1, Array.getD, hj']
      · have hj' : off + j < cells.length := by simp at hj; omega
        simpa using h3 (off + j) hj'
      · have hj' : off + j < cells.length := by simp at hj; omega
        exact h4 _ hj'
    · cases h
  | cptr cells b off xs h1 h2 h3 h4 =>
    cases h;exact ⟨b, off, rfl, xs, h1, h3, h4⟩
  | aptr i idx off z hi =>
    simp only [peek] at h;split at h
    · rename_i z' els hM;split at h
      · rename_i hz;subst hz;cases h;unfold rowAt;refine ⟨g.β i, idx * z' + off, rfl, ?_⟩;by_cases hne : els = []
        · subst hne;exact ⟨fun _ => undef, fun j hj => by simp at hj, fun j hj => by simp at hj, fun j hj => by simp at hj⟩
        · obtain ⟨xs, T, h1, h2, h3⟩ := s.arr i z' els hM hne
          have key : ∀ j (hj : j < ((els.getD idx []).drop off).length), idx * z' + off + j < xs.size ∧ R g ((els.getD idx []).drop off)[j] (xs.getD (idx * z' + off + j) undef) ∧ (xs.getD (idx * z' + off + j) undef).oneCell' = true := fun j hj => by
            have hlt : idx < els.length := by
              rcases Nat.lt_or_ge idx els.length with h | h
              · exact h
              · simp [List.getD, List.getElem?_eq_none h] at hj
            have e : els.getD idx [] = els[idx] := by simp [List.getD, hlt]
            simp only [e] at hj ⊢;have hj' : off + j < els[idx].length := by simp at hj; omega
            have := h3 idx (off + j) els[idx] (els[idx][off + j]) (List.getElem?_eq_getElem hlt) (List.getElem?_eq_getElem hj');rw [← Nat.add_assoc] at this;simpa using this
          refine ⟨fun j => xs.getD (idx * z' + off + j) undef, fun j hj => ?_, fun j hj => (key j hj).2.1, fun j hj => (key j hj).2.2⟩;have := (key j hj).1;simp [World.cell?, h1, Array.getD, this]
      · cases h
    · cases h
  | _ => cases h
def loadOut (i : TyI) (M : List AObj) (x : AV) : Option Out :=
  match peek M x with
  | some cs => if i.k.agg then some { av := .agg (cs.take i.size), obl := i.size ≤ cs.length } else some { av := cs.headD (i.zero.headD default), obl := 0 < cs.length }
  | none => none
theorem addr_add (b off j : Nat) : (⟨b, off, none⟩ : Addr).add j = ⟨b, off + j, none⟩ := by unfold Addr.add; split <;> simp_all
theorem loadOut_runs {P : Program} {ty : TyTab} (hty : TyOk P ty) {T : TypeId} {i : TyI} (hi : ty T = some i) {g : G} {x : AV} {a : Value} {o : Out} (h : loadOut i g.M x = some o) (ho : o.obl)
    (s : Sim g) (hx : R g x a) : Runs P (Instr.loadAt T a) g o := by
  unfold loadOut at h;split at h
  · rename_i cs hp;obtain ⟨b, off, rfl, xs, h1, h2, h3⟩ := peek_spec s hx hp;have hag := run_isAgg hty hi g.w;have hsz := run_sizeOf hty hi g.w;split at h
    · rename_i hA;cases h;have hl := run_loadCells (P := P) g.w ⟨b, off, none⟩ i.size xs (fun j hj => by rw [addr_add]; exact h1 j (Nat.lt_of_lt_of_le hj ho));refine ⟨.agg ((List.range i.size).map xs).toArray, g.w, ?_, Post.same rfl s (.agg _ _ ?_ (fun j hj => ?_) (fun j hj => ?_))⟩
      · simp [Instr.loadAt, Instr.sureAddr, loadVar, hag, hA, hsz, hl]
      · simp only at ho; simp; omega
      · have hj' : j < i.size := by simp at hj; omega
        have e : ((List.range i.size).map xs).toArray.getD j undef = xs j := by simp [Array.getD, hj']
        rw [e];simp only at ho;simpa using h2 j (by omega)
      · have hj' : j < i.size := by simp at hj; omega
        have e : ((List.range i.size).map xs).toArray.getD j undef = xs j := by simp [Array.getD, hj']
        rw [e];simp only at ho;exact h3 j (by omega)
    · rename_i hA;cases h;simp only at ho;have hl := h1 0 ho;simp only [Nat.add_zero] at hl;refine ⟨xs 0, g.w, ?_, Post.same rfl s ?_⟩
      · simp [Instr.loadAt, Instr.sureAddr, loadVar, hag, hA, hl]
      · have := h2 0 ho;cases cs with
        | nil => simp at ho
        | cons c r => simpa using this
  · cases h
def splice (cells : List AV) (off : Nat) (l : List AV) : List AV := cells.take off ++ l ++ cells.drop (off + l.length)
def storeOut (i : TyI) (M : List AObj) (x v : AV) : Option Out :=
  match x with
  | .ptr k off => match M[k]? with
    | some (.blk cells) => some { av := .lit undef, M := some (M.set k (.blk (splice cells off v.cellsOf))), obl := v.var = true ∧ v.cellsOf.length = i.size ∧ off + v.cellsOf.length ≤ cells.length }
    | _ => none
  | .aptr k idx off z => match M[k]? with
    | some (.arr z' els) => if z' = z then some { av := .lit undef, M := some (M.set k (.arr z' (setAt els idx (splice (rowAt els idx) off v.cellsOf)))), obl := v.var = true ∧ v.cellsOf.length = i.size ∧ idx < els.length ∧ off + v.cellsOf.length ≤ (rowAt els idx).length } else none
    | _ => none
  | _ => none
theorem setRow_rowed {w : World} {b : Nat} {old xs : Array Value} {T : TypeId} (h : w.heap[b]? = some (.cells old T (0, 0))) : Rowed w (w.setRow b xs) b xs T where
  here := setRow_heap w b old xs T _ h
  other b' hb := by
    simp only [World.setRow];rw [Array.getElem?_modify];split
    · rename_i h'; exact absurd h'.symm hb
    · rfl
  size := by simp [World.setRow]
  io := ⟨rfl, rfl⟩
theorem getD_toArray (l : List Value) (j : Nat) : l.toArray.getD j undef = l.getD j undef := by
  simp [Array.getD, List.getD];split <;> simp_all
theorem storeOut_runs {P : Program} {ty : TyTab} (hty : TyOk P ty) {T : TypeId} {i : TyI} (hi : ty T = some i) {g : G} {x v : AV} {a u : Value} {o : Out} (h : storeOut i g.M x v = some o) (ho : o.obl)
    (s : Sim g) (hx : R g x a) (hv : R g v u) : ∃ w', (Instr.storeAt T a u).run P g.w = .ok () w' ∧ Post g o undef w' := by
  unfold storeOut at h;split at h
  · rename_i k off;split at h
    · rename_i cells hM;cases h;obtain ⟨ho1, ho2, ho3⟩ := ho;cases hx with
      | ptr _ _ hk =>
      obtain ⟨xs, T', h1, h2, h3, h4⟩ := s.blk k cells hM;obtain ⟨c1, c2, c3⟩ := hv.cellsOf ho1;have hsz := run_sizeOf hty hi g.w
      have hst := run_storeCells_at (P := P) (g.β k) off T' u.cells.toList 0 xs g.w h1 (by simp only [Array.length_toList]; omega)
        (fun y hy => by
          obtain ⟨j, hj, rfl⟩ := List.mem_iff_getElem.1 hy;have hj' : j < u.cells.size := by simpa using hj
          have := c3 j (by omega);have e : u.cells.getD j undef = u.cells[j] := by simp [Array.getD, hj']
          rw [e] at this; simpa using this)
      simp only [Nat.add_zero] at hst;refine ⟨g.w.setRow (g.β k) (xs.toList.take off ++ u.cells.toList ++ xs.toList.drop (off + u.cells.toList.length)).toArray, ?_, ?_⟩
      · simp only [Instr.storeAt, Instr.sureAddr, storeVar, Sem.run_bind, hsz, Result.andThen_ok, pure_bind];have hne : ¬ (u.cells.size ≠ i.size) := by omega
        simp only [hne, if_false, hst]
      · have hw : Rowed g.w _ (g.β k) _ T' := setRow_rowed (xs := (xs.toList.take off ++ u.cells.toList ++ xs.toList.drop (off + u.cells.toList.length)).toArray) h1
        have hget : ∀ j, j < (splice cells off v.cellsOf).length → ((xs.toList.take off ++ u.cells.toList ++ xs.toList.drop (off + u.cells.toList.length)).toArray).getD j undef =
            if j < off then xs.getD j undef else if j < off + v.cellsOf.length then u.cells.getD (j - off) undef else xs.getD j undef := by
          intro j hj;have hlen : (splice cells off v.cellsOf).length = cells.length := by simp [splice]; omega
          rw [hlen] at hj;rw [getD_toArray];have ht : (xs.toList.take off).length = off := by simp; omega
          split
          · rename_i h';simp [List.getD, List.getElem?_append, ht, h', Array.getD, show j < xs.size by omega]
          · rename_i h';split
            · rename_i h'';simp [List.getD, List.getElem?_append, ht, h', Array.getD, show j - off < u.cells.size by omega]
            · rename_i h'';simp [List.getD, List.getElem?_append, ht, h', Array.getD, show ¬ (j - off < u.cells.size) by omega, show j < xs.size by omega];rw [show off + u.cells.size + (j - off - u.cells.size) = j by omega];simp [show j < xs.size by omega]
        have hgetA : ∀ j (hj : j < (splice cells off v.cellsOf).length), (splice cells off v.cellsOf)[j] =
            if h : j < off then cells[j]'(by simp [splice] at hj; omega) else if h' : j < off + v.cellsOf.length then v.cellsOf[j - off]'(by omega) else cells[j]'(by simp [splice] at hj; omega) := by
          intro j hj;have ht : (cells.take off).length = off := by simp; omega
          have hlen : (splice cells off v.cellsOf).length = cells.length := by simp [splice]; omega
          apply Option.some.inj;rw [← List.getElem?_eq_getElem hj];unfold splice;split
          · rename_i h';simp [List.getElem?_append, ht, h']
          · rename_i h';split
            · rename_i h'';simp [List.getElem?_append, ht, h', show j - off < v.cellsOf.length by omega]
            · rename_i h'';have e : off + v.cellsOf.length + (j - off - v.cellsOf.length) = j := by omega
              simp [List.getElem?_append, ht, show ¬ (j - off < v.cellsOf.length) by omega, h', e, show j < cells.length by omega]
        have hlen : (splice cells off v.cellsOf).length = cells.length := by simp [splice]; omega
        have hsize : ((xs.toList.take off ++ u.cells.toList ++ xs.toList.drop (off + u.cells.toList.length)).toArray).size = (splice cells off v.cellsOf).length := by
          rw [hlen]; simp; omega
        refine Post.of (β := g.β) (ρ := upd g.ρ k (g.ρ k)) rfl ?_ (.lit _) ?_
        · refine sim_stored s hM hw hsize (fun j hj => ?_) (fun j hj => ?_)
          · rw [hget j hj, hgetA j hj];split
            · exact h3 j (by omega)
            · split
              · exact c2 _ (by omega)
              · exact h3 j (by omega)
          · rw [hget j hj];split
            · exact h4 j (by omega)
            · split
              · exact c3 _ (by omega)
              · exact h4 j (by omega)
        · exact keep_stored s hM hw
    · cases h
  · rename_i k idx off z;split at h
    · rename_i z' els hM;split at h
      · rename_i hz;subst hz;cases h;obtain ⟨ho1, ho2, ho3, ho4⟩ := ho;unfold rowAt at ho4;unfold rowAt setAt;cases hx with
        | aptr _ _ _ _ hk =>
        have hne : els ≠ [] := by intro h; subst h; simp at ho3
        obtain ⟨xs, T', h1, h2, h3⟩ := s.arr k z' els hM hne;obtain ⟨c1, c2, c3⟩ := hv.cellsOf ho1;have hsz := run_sizeOf hty hi g.w;have eg : els.getD idx [] = els[idx] := by simp [List.getD, ho3]
        rw [eg] at ho4 ⊢;have hrow : els[idx].length = z' := h2 _ (List.getElem_mem ho3)
        let p0 := idx * z' + off
        have hin : ∀ j, j < z' → idx * z' + j < xs.size := fun j hj => by
          have hj' : j < els[idx].length := by omega
          exact (h3 idx j _ _ (List.getElem?_eq_getElem ho3) (List.getElem?_eq_getElem hj')).1
        have hfit : p0 + u.cells.size ≤ xs.size := by
          by_cases h0 : u.cells.size = 0
          · have h5 : ∀ j, j < z' → idx * z' + j < xs.size := hin;rcases Nat.eq_zero_or_pos z' with hz | hz
            · have : off = 0 := by omega
              simp only [p0, hz, this, h0]; omega
            · have := h5 (z' - 1) (by omega);simp only [p0, h0]; omega
          · have := hin (off + u.cells.size - 1) (by omega);simp only [p0]; omega
        have hst := run_storeCells_at (P := P) (g.β k) p0 T' u.cells.toList 0 xs g.w h1 (by simp only [Array.length_toList]; omega)
          (fun y hy => by
            obtain ⟨j, hj, rfl⟩ := List.mem_iff_getElem.1 hy;have hj' : j < u.cells.size := by simpa using hj
            have := c3 j (by omega);have e : u.cells.getD j undef = u.cells[j] := by simp [Array.getD, hj']
            rw [e] at this; simpa using this)
        simp only [Nat.add_zero] at hst
        let ys := (xs.toList.take p0 ++ u.cells.toList ++ xs.toList.drop (p0 + u.cells.toList.length)).toArray
        have hw : Rowed g.w (g.w.setRow (g.β k) ys) (g.β k) ys T' := setRow_rowed h1;have hys : ys.size = xs.size := by simp [ys]; omega
        have hget : ∀ j, j < xs.size → ys.getD j undef = if j < p0 then xs.getD j undef else if j < p0 + u.cells.size then u.cells.getD (j - p0) undef else xs.getD j undef := fun j hj => by
          simp only [ys];rw [getD_toArray];have ht : (xs.toList.take p0).length = p0 := by simp; omega
          split
          · rename_i h';simp [List.getD, List.getElem?_append, ht, h']
          · rename_i h';split
            · rename_i h'';simp [List.getD, List.getElem?_append, ht, h', Array.getD, show j - p0 < u.cells.size by omega]
            · rename_i h'';simp [List.getD, List.getElem?_append, ht, h', show ¬ (j - p0 < u.cells.size) by omega];rw [show p0 + u.cells.size + (j - p0 - u.cells.size) = j by omega];simp [hj]
        have hsl : (splice els[idx] off v.cellsOf).length = z' := by simp [splice]; omega
        obtain ⟨s', k'⟩ := arr_stored (els' := els.set idx (splice els[idx] off v.cellsOf)) s hM hne hw (fun r hr => by
            rcases List.mem_or_eq_of_mem_set hr with hr | rfl
            · exact h2 r hr
            · exact hsl)
          (fun p q r b hp hq => by
            rw [List.getElem?_set] at hp;by_cases hpi : idx = p
            · subst hpi;simp only [if_true, ho3] at hp;obtain rfl := Option.some.inj hp;have hq' : q < z' := by rw [← hsl]; exact (List.getElem?_eq_some_iff.1 hq).1
              have hx := hin q hq';rw [hys, hget _ hx];have hold := h3 idx q _ (els[idx][q]'(by omega)) (List.getElem?_eq_getElem ho3) (List.getElem?_eq_getElem (by omega));have hto : (els[idx].take off).length = off := by simp; omega
              have hb : b = if h : q < off then els[idx][q]'(by omega) else if h' : q < off + v.cellsOf.length then v.cellsOf[q - off]'(by omega) else els[idx][q]'(by omega) := by
                apply Option.some.inj;rw [← hq];unfold splice;split
                · rename_i h';simp [List.getElem?_append, hto, h']
                · rename_i h';split
                  · rename_i h'';simp [List.getElem?_append, hto, h', show q - off < v.cellsOf.length by omega]
                  · rename_i h'';have e : off + v.cellsOf.length + (q - off - v.cellsOf.length) = q := by omega
                    simp [List.getElem?_append, hto, show ¬ (q - off < v.cellsOf.length) by omega, h', e, show q < els[idx].length by omega]
              refine ⟨hx, ?_⟩;rw [hb];have e1 : (idx * z' + q < p0) ↔ q < off := by simp only [p0]; omega
              have e2 : (idx * z' + q < p0 + u.cells.size) ↔ q < off + v.cellsOf.length := by simp only [p0]; omega
              have e3 : idx * z' + q - p0 = q - off := by simp only [p0]; omega
              by_cases g1 : q < off
              · simp only [e1, g1, if_true, dite_true]; exact hold.2
              · by_cases g2 : q < off + v.cellsOf.length
                · simp only [e1, e2, e3, g1, g2, if_true, if_false, dite_true, dite_false];exact ⟨c2 _ (by omega), c3 _ (by omega)⟩
                · simp only [e1, e2, g1, g2, if_false, dite_false]; exact hold.2
            · simp only [hpi, if_false] at hp;obtain ⟨r1, r2, r3⟩ := h3 p q r b hp hq;rw [hys, hget _ r1];have hqz : q < z' := by rw [← h2 r (List.mem_of_getElem? hp)]; exact (List.getElem?_eq_some_iff.1 hq).1
              refine ⟨r1, ?_⟩
              have hout : p * z' + q < p0 ∨ p0 + u.cells.size ≤ p * z' + q := by
                simp only [p0];rcases Nat.lt_or_ge p idx with h | h
                · left;have : (p + 1) * z' ≤ idx * z' := Nat.mul_le_mul_right _ h;rw [Nat.add_mul] at this; omega
                · right;have : (idx + 1) * z' ≤ p * z' := Nat.mul_le_mul_right _ (by omega);rw [Nat.add_mul] at this; omega
              have e : (if p * z' + q < p0 then xs.getD (p * z' + q) undef else if p * z' + q < p0 + u.cells.size then u.cells.getD (p * z' + q - p0) undef else xs.getD (p * z' + q) undef) = xs.getD (p * z' + q) undef := by
                rcases hout with h | h
                · simp [h]
                · simp [show ¬ (p * z' + q < p0 + u.cells.size) by omega]
              rw [e]; exact ⟨r2, r3⟩)
        refine ⟨g.w.setRow (g.β k) ys, ?_, Post.of (β := g.β) (ρ := upd g.ρ k (g.ρ k)) rfl s' (.lit _) k'⟩;simp only [Instr.storeAt, Instr.sureAddr, storeVar, Sem.run_bind, hsz, Result.andThen_ok, pure_bind];have hne' : ¬ (u.cells.size ≠ i.size) := by omega
        simp only [hne', if_false];exact hst
      · cases h
    · cases h
  · cases h
def nilOut (x : AV) : Option Out :=
  match x with
  | .ptr i off => some { av := .ptr i off }
  | .cptr cs => some { av := .cptr cs }
  | .lit (.func (.func f) fs cs) => some { av := .lit (.func (.func f) fs cs) }
  | _ => none
def fieldAddrOut (off : Nat) (x : AV) : Option Out :=
  match x with
  | .ptr i o => some { av := .ptr i (o + off) }
  | .cptr cs => some { av := .cptr (cs.drop off) }
  | .aptr i idx o s => some { av := .aptr i idx (o + off) s }
  | _ => none
theorem R.cptr_drop {g : G} {cs : List AV} {b o : Nat} (n : Nat) (h : R g (.cptr cs) (.pointer (some ⟨b, o, none⟩))) : R g (.cptr (cs.drop n)) (.pointer (some ⟨b, o + n, none⟩)) := by
  cases h with
  | cptr _ _ _ xs h1 h2 h3 h4 =>
    refine .cptr _ b (o + n) (fun j => xs (n + j)) (fun j hj => ?_) (fun j hj => ?_) (fun j hj => ?_) (fun j hj => ?_)
    · have := h1 (n + j) (by simp at hj; omega)
      rwa [← Nat.add_assoc] at this
    · have := h2 (n + j) (by simp at hj; omega)
      rwa [← Nat.add_assoc] at this
    · have := h3 (n + j) (by simp at hj; omega);simpa using this
    · exact h4 (n + j) (by simp at hj; omega)
theorem fieldAddrOut_runs {P : Program} {ty : TyTab} (hty : TyOk P ty) {T : TypeId} {i : TyI} (hi : ty T = some i) {fs : List (Nat × TypeId)} (hk : i.k = .struct fs) {f off : Nat} {ft : TypeId} (hf : fs[f]? = some (off, ft))
    {fi : TyI} (hfi : ty ft = some fi) (hz : fi.size ≠ 0) {g : G} {x : AV} {a : Value} {o : Out} (h : fieldAddrOut off x = some o) (s : Sim g) (hx : R g x a) : Runs P (Instr.fieldAt T a f) g o := by
  obtain ⟨info, d, z, h1, h2, h3, _⟩ := hty.facts hi;obtain ⟨F, rfl, rfl⟩ := kind_struct (h3.trans hk)
  have hF : ∃ q, F[f]? = some q ∧ q.offset = off ∧ q.type = ft := by
    simp only [List.getElem?_map, Array.getElem?_toList] at hf;cases hq : F[f]? with
    | none => simp [hq] at hf
    | some q =>
      simp only [hq, Option.map_some, Option.some.injEq, Prod.mk.injEq] at hf;exact ⟨q, rfl, hf.1, hf.2⟩
  obtain ⟨q, hq, rfl, rfl⟩ := hF;have hsz := run_sizeOf hty hfi g.w
  have hrun : ∀ b o', (Instr.fieldAt T (.pointer (some ⟨b, o', none⟩)) f).run P g.w = .ok (.pointer (some ⟨b, o' + q.offset, none⟩)) g.w := by
    intro b o';simp [Instr.fieldAt, run_underlying h2, hq, Instr.sureAddr, fieldPlace, hsz, hz, addr_add]
  unfold fieldAddrOut at h;split at h
  · cases h;cases hx with
    | ptr _ _ hj => exact ⟨_, g.w, hrun _ _, Post.same rfl s (.ptr _ _ hj)⟩
  · cases h;cases hx with
    | cptr _ b o' xs h1 h2 h3 h4 => exact ⟨_, g.w, hrun _ _, Post.same rfl s (R.cptr_drop _ (.cptr _ b o' xs h1 h2 h3 h4))⟩
  · cases h;cases hx with
    | aptr _ _ _ _ hj => exact ⟨_, g.w, hrun _ _, Post.same rfl s (by rw [Nat.add_assoc]; exact .aptr _ _ _ _ hj)⟩
  · cases h
def fieldOut (fi : TyI) (off : Nat) (x : AV) : Option Out :=
  match x with
  | .agg cs => if fi.k.agg then some { av := .agg ((cs.drop off).take fi.size), obl := off + fi.size ≤ cs.length } else some { av := (cs.drop off).headD default, obl := off < cs.length }
  | _ => none
theorem fieldOut_runs {P : Program} {ty : TyTab} (hty : TyOk P ty) {T : TypeId} {i : TyI} (hi : ty T = some i) {fs : List (Nat × TypeId)} (hk : i.k = .struct fs) {f off : Nat} {ft : TypeId} (hf : fs[f]? = some (off, ft))
    {fi : TyI} (hfi : ty ft = some fi) {g : G} {x : AV} {a : Value} {o : Out} (h : fieldOut fi off x = some o) (ho : o.obl) (s : Sim g) (hx : R g x a) : Runs P (Instr.field T a f) g o := by
  obtain ⟨info, d, z, h1, h2, h3, _⟩ := hty.facts hi;obtain ⟨F, rfl, rfl⟩ := kind_struct (h3.trans hk)
  have hF : ∃ q, F[f]? = some q ∧ q.offset = off ∧ q.type = ft := by
    simp only [List.getElem?_map, Array.getElem?_toList] at hf;cases hq : F[f]? with
    | none => simp [hq] at hf
    | some q =>
      simp only [hq, Option.map_some, Option.some.injEq, Prod.mk.injEq] at hf;exact ⟨q, rfl, hf.1, hf.2⟩
  obtain ⟨q, hq, rfl, rfl⟩ := hF;have hsz := run_sizeOf hty hfi g.w;have hag := run_isAgg hty hfi g.w;unfold fieldOut at h;split at h
  · rename_i cs;cases hx with
    | agg _ xs hs hxs h4 =>
    split at h
    · rename_i hA;cases h;simp only at ho;refine ⟨.agg (xs.extract q.offset (q.offset + fi.size)), g.w, ?_, Post.same rfl s (.agg _ _ ?_ (fun j hj => ?_) (fun j hj => ?_))⟩
      · simp [Instr.field, run_underlying h2, hq, part, hag, hA, hsz, asAgg]
      · simp; omega
      · have hj' : j < fi.size := by simp at hj; omega
        have e : (xs.extract q.offset (q.offset + fi.size)).getD j undef = xs.getD (q.offset + j) undef := by
          simp [Array.getD, show j < min (q.offset + fi.size) xs.size - q.offset by omega, show q.offset + j < xs.size by omega]
        rw [e];simpa using hxs (q.offset + j) (by omega)
      · have hj' : j < fi.size := by simp at hj; omega
        have e : (xs.extract q.offset (q.offset + fi.size)).getD j undef = xs.getD (q.offset + j) undef := by
          simp [Array.getD, show j < min (q.offset + fi.size) xs.size - q.offset by omega, show q.offset + j < xs.size by omega]
        rw [e];exact h4 _ (by omega)
    · rename_i hA;cases h;simp only at ho;refine ⟨xs.getD q.offset undef, g.w, ?_, Post.same rfl s ?_⟩
      · have : q.offset < xs.size := by omega
        simp [Instr.field, run_underlying h2, hq, part, hag, hA, asAgg, this, Array.getD]
      · have e : (cs.drop q.offset).headD default = cs[q.offset] := by
          rw [List.drop_eq_getElem_cons ho]; rfl
        rw [e];exact hxs _ ho
  · cases h
def noTok : AV → AV
  | .sl els _ => .sl els .no
  | a => a
def noToks : AV → AV
  | .agg l => .agg (l.map noTok)
  | a => noTok a
theorem R.noTok {g : G} {a : AV} {v : Value} (h : R g a v) : R g (noTok a) v := by
  unfold Ab.noTok;split
  · exact h.weak (.tok _ _)
  · exact h
def nthL (els : List (List AV)) (k : Nat) (z : List AV) : List AV := els.getD k z
def indexAddrOut (kt : TyK) (ie : TyI) (x ix : AV) : Option Out :=
  match kt, x, ix with
  | .slice _, .sl els _, .lit (.int _ n) => some { av := .cptr (nthL els n.toNat (ie.zero.map noTok)), obl := InB n (lenL els) ∧ (nthL els n.toNat (ie.zero.map noTok)).length = ie.size }
  | .arr len _, .ptr i off, .lit (.int _ n) => some { av := .ptr i (off + n.toNat * ie.size), obl := InB n len }
  | .slice _, .slb i m, .lit (.int _ n) => some { av := .ptr i (n.toNat * ie.size), obl := InB n m }
  | .slice _, .asl i m z, .lit (.int _ n) => if z = ie.size then some { av := .aptr i n.toNat 0 z, obl := InB n m } else none
  | _, _, _ => none
def TyK.elem : TyK → Option TypeId
  | .slice e => some e
  | .arr _ e => some e
  | _ => none
theorem indexAddrOut_runs {P : Program} {ty : TyTab} (hty : TyOk P ty) {T : TypeId} {i : TyI} (hi : ty T = some i) {e : TypeId} (he : i.k.elem = some e) {ie : TyI} (hie : ty e = some ie)
    {g : G} {x ix : AV} {a b : Value} {o : Out} (h : indexAddrOut i.k ie x ix = some o) (ho : o.obl) (s : Sim g) (hx : R g x a) (hix : R g ix b) : Runs P (Instr.indexAt T a b) g o := by
  obtain ⟨info, d, z, h1, h2, h3, _⟩ := hty.facts hi;have hsz := run_sizeOf hty hie g.w;unfold indexAddrOut at h;split at h
  · rename_i e' els tok k n hk;have := kind_slice (h3.trans hk); subst this;rw [hk] at he; cases he;have e1 := hix.lit_inv; subst e1;cases h;obtain ⟨⟨o1, o2⟩, o3⟩ := ho;unfold lenL at o2;have hn : n.toNat < els.length := by omega
    cases hx with
    | nil => simp at hn
    | sl _ _ bb off sz cap xs hs hc1 hc2 hc3 hc4 ht hc =>
      have eq : nthL els n.toNat (ie.zero.map noTok) = els[n.toNat] := by simp [nthL, List.getD, hn]
      rw [eq] at o3;have hse : sz = ie.size := by rw [← hs _ hn]; exact o3
      subst hse;refine ⟨.pointer (some ⟨bb, off + n.toNat * ie.size, none⟩), g.w, ?_, Post.same rfl s ?_⟩
      · simp [Instr.indexAt, asIntOf, run_underlying h2, hsz, o1, o2, addr_add]
      · simp only [eq];refine .cptr _ bb _ (fun j => xs n.toNat j) (fun j hj => hc1 _ _ hn (by omega)) (fun j hj => hc2 _ _ hn (by omega)) (fun j hj => hc3 _ _ hn hj) (fun j hj => hc4 _ _ hn (by omega))
  · rename_i len e' k off q n hk;have := kind_arr (h3.trans hk); subst this;rw [hk] at he; cases he;have e1 := hix.lit_inv; subst e1;cases h;obtain ⟨o1, o2⟩ := ho;cases hx with
    | ptr _ _ hj =>
      refine ⟨.pointer (some ⟨g.β k, off + n.toNat * ie.size, none⟩), g.w, ?_, Post.same rfl s (.ptr _ _ hj)⟩;simp [Instr.indexAt, asIntOf, run_underlying h2, hsz, o1, o2, addr_add, Instr.sureAddr]
  · rename_i e' j m k n hk;have := kind_slice (h3.trans hk); subst this;rw [hk] at he; cases he;have e1 := hix.lit_inv; subst e1;cases h;obtain ⟨o1, o2⟩ := ho;cases hx with
    | slb _ _ q hj hq =>
      subst hq;refine ⟨.pointer (some ⟨g.β j, n.toNat * ie.size, none⟩), g.w, ?_, Post.same rfl s (.ptr _ _ hj)⟩;have o2' : n.toNat < q := by omega
      simp [Instr.indexAt, asIntOf, run_underlying h2, hsz, o1, o2, addr_add]
  · rename_i e' j m z k n hk;have := kind_slice (h3.trans hk); subst this;rw [hk] at he; cases he;have e1 := hix.lit_inv; subst e1;split at h
    · rename_i hz;subst hz;cases h;obtain ⟨o1, o2⟩ := ho;cases hx with
      | asl _ _ _ q cap ad hj hq hc hz ha =>
        subst hq;have o2' : n.toNat < q := by omega
        have := ha (by omega);subst this;refine ⟨.pointer (some ⟨g.β j, n.toNat * ie.size + 0, none⟩), g.w, ?_, Post.same rfl s (.aptr _ _ _ _ hj)⟩;simp [Instr.indexAt, asIntOf, run_underlying h2, hsz, o1, o2, addr_add]
    · cases h
  · cases h
def indexOut (kt : TyK) (x ix : AV) : Option Out :=
  match kt, x, ix with
  | .str, .lit (.string s), .lit (.int _ n) => some { av := .lit (.int .u8 (idxS s n)), obl := InB n (lenS s) }
  | _, _, _ => none
theorem indexOut_runs {P : Program} {ty : TyTab} (hty : TyOk P ty) {T : TypeId} {i : TyI} (hi : ty T = some i)
    {g : G} {x ix : AV} {a b : Value} {o : Out} (h : indexOut i.k x ix = some o) (ho : o.obl) (sm : Sim g) (hx : R g x a) (hix : R g ix b) : Runs P (Instr.index T a b) g o := by
  obtain ⟨info, d, z, h1, h2, h3, _⟩ := hty.facts hi;unfold indexOut at h;split at h
  · rename_i s k n hk;have := kind_str (h3.trans hk); subst this;have e1 := hix.lit_inv; have e2 := hx.lit_inv; subst e1 e2;cases h;obtain ⟨o1, o2⟩ := ho;unfold lenS at o2;have hn : n.toNat < s.size := by omega
    have hn' : n.toNat < s.data.toList.length := by simpa using hn
    refine ⟨.int .u8 (s.data.toList.getD n.toNat 0).toNat, g.w, ?_, Post.same rfl sm (.lit _)⟩
    have : s[n.toNat]? = some (s.data.toList.getD n.toNat 0) := by
      rw [getElem?_pos s n.toNat hn];rw [List.getD_eq_getElem?_getD, List.getElem?_eq_getElem hn']; rfl
    simp [Instr.index, asIntOf, run_underlying h2, o1, this]
  · cases h
def optInt (d : Int) : Option AV → Option Int
  | none => some d
  | some (.lit (.int _ n)) => some n
  | _ => none
def cutTok (full : Bool) : Option AV → Tok
  | none => if full then .full else .no
  | some _ => .no
def Tok.isFull : Tok → Bool
  | .full => true
  | _ => false
def sliceOut (kt : TyK) (size : Nat) (x : AV) (lo hi mx : Option AV) : Option Out :=
  match kt, x with
  | .str, .lit (.string s) =>
    match mx, optInt 0 lo, optInt (lenS s) hi with
    | none, some l, some h => some { av := .lit (.string (cutS s l h)), obl := CutB l h (lenS s) }
    | _, _, _ => none
  | .slice _, .sl els tok =>
    match mx, optInt 0 lo, optInt (lenL els) hi with
    | none, some l, some h =>
      some { av := .sl (cutL els l h) (cutTok tok.isFull hi), obl := CutB l h (lenL els) ∧ ∀ e ∈ els, e.length = size }
    | some (.lit (.int _ m)), some l, some h =>
      some { av := .sl (cutL els l h) .full, obl := CutB l h (lenL els) ∧ m = h ∧ hi.isSome = true ∧ ∀ e ∈ els, e.length = size }
    | _, _, _ => none
  | _, _ => none
theorem R.sl_cut {g : G} {els : List (List AV)} {tok tok' : Tok} {a : Option Addr} {n cap : Nat} (h : R g (.sl els tok) (.slice a n cap)) (l hh m : Nat) (h1 : l ≤ hh) (h2 : hh ≤ els.length) (h3 : hh ≤ m) (h4 : m ≤ cap) (size : Nat)
    (hs : ∀ e ∈ els, e.length = size) (ht : (tok' = .no) ∨ (tok' = .full ∧ m = hh)) :
    R g (.sl ((els.drop l).take (hh - l)) tok') (.slice (if m = l then a else a.map (·.add (l * size))) (hh - l) (m - l)) := by
  cases h with
  | nil =>
    have : l = 0 := by simp at h2; omega
    have : hh = 0 := by simp at h2; omega
    have : m = 0 := by omega
    subst_vars
    simp;refine .nil _ ?_;rcases ht with h | ⟨h, _⟩ <;> rw [h] <;> trivial
  | sl _ _ b off s cap xs hls c1 c2 c3 c4 hto hcap =>
    have hlen : ((els.drop l).take (hh - l)).length = hh - l := by simp; omega
    have hz : ∀ i, (hi : i < hh - l) → ((els.drop l).take (hh - l))[i]'(by omega) = els[l + i]'(by omega) := fun i hi => by simp
    by_cases hlm : hh - l = 0
    · -- nothing is left
      have e0 : (els.drop l).take (hh - l) = [] := by simp [hlm]
      have key : ∀ (b off : Nat), R g (.sl [] tok') (.slice (some ⟨b, off, none⟩) 0 (m - l)) := fun b off => by
        refine .sl [] tok' b off s (m - l) (fun _ _ => undef) (fun _ h => absurd h (by simp)) (fun _ _ h => absurd h (by simp)) (fun _ _ h => absurd h (by simp)) (fun _ _ h => absurd h (by simp))
          (fun _ _ h => absurd h (by simp)) ?_ (by simp)
        rcases ht with h | ⟨h, hm⟩
        · rw [h]; trivial
        · rw [h]; show m - l = 0; omega
      rw [e0, hlm];split
      · exact key b off
      · simp only [Option.map_some, addr_add]; exact key b _
    · have hse : s = size := by
        have h0 : 0 < els.length := by omega
        rw [← hls 0 h0]; exact hs _ (List.getElem_mem h0)
      subst hse;have hml : ¬ m = l := by omega
      simp only [hml, if_false, Option.map_some, addr_add]
      have key : R g (.sl ((els.drop l).take (hh - l)) tok') (.slice (some ⟨b, off + l * s, none⟩) ((els.drop l).take (hh - l)).length (m - l)) := by
        refine .sl _ tok' b (off + l * s) s (m - l) (fun i j => xs (l + i) j) (fun i hi => ?_) (fun i j hi hj => ?_) (fun i j hi hj => ?_) (fun i j hi hj => ?_) (fun i j hi hj => ?_) ?_ (by omega)
        · rw [hz i (by omega)]; exact hls _ (by omega)
        · have := c1 (l + i) j (by omega) hj;rw [show off + l * s + i * s + j = off + (l + i) * s + j by rw [Nat.add_mul]; omega]; exact this
        · have := c2 (l + i) j (by omega) hj;rw [show off + l * s + i * s + j = off + (l + i) * s + j by rw [Nat.add_mul]; omega]; exact this
        · have e := hz i (by omega);have hj' : j < (els[l + i]'(by omega)).length := by rw [← e]; exact hj
          have := c3 (l + i) j (by omega) hj';simp only [e]; exact this
        · exact c4 (l + i) j (by omega) hj
        · rcases ht with h | ⟨h, hm⟩
          · rw [h]; trivial
          · rw [h]; show m - l = _; omega
      rw [hlen] at key;exact key
theorem R.sl_len {g : G} {els : List (List AV)} {tok : Tok} {v : Value} (h : R g (.sl els tok) v) : ∃ a cap, v = .slice a els.length cap ∧ els.length ≤ cap ∧ (tok = .full → cap = els.length) := by
  cases h with
  | nil => exact ⟨_, 0, rfl, by simp, fun _ => rfl⟩
  | sl _ _ b off s cap xs hls c1 c2 c3 c4 hto hcap => exact ⟨_, cap, rfl, hcap, fun h => by subst h; exact hto⟩
def OR (g : G) : Option AV → Option Value → Prop
  | none, none => True
  | some a, some u => R g a u
  | _, _ => False
theorem optInt_spec {g : G} {d n : Int} {x : Option AV} {v : Option Value} (h : optInt d x = some n) (hr : OR g x v) : (x = none ∧ v = none ∧ n = d) ∨ ∃ k, v = some (.int k n) ∧ x = some (.lit (.int k n)) := by
  unfold optInt at h;split at h
  · cases h;cases v with
    | none => exact .inl ⟨rfl, rfl, rfl⟩
    | some u => exact hr.elim
  · rename_i k m;cases h;cases v with
    | none => exact hr.elim
    | some u => have := R.lit_inv hr; subst this; exact .inr ⟨k, rfl, rfl⟩
  · cases h
theorem run_sliceBound {P : Program} (k : IntKind) (n : Int) (y : Nat) (c : BoundsCode) (w : World) (h : 0 ≤ n ∧ n ≤ y) : (Instr.sliceBound (.int k n) y c).run P w = .ok n.toNat w := by
  simp [Instr.sliceBound, asIntOf, h]
theorem sliceOut_runs {P : Program} {ty : TyTab} (hty : TyOk P ty) {T : TypeId} {i : TyI} (hi : ty T = some i) {size : Nat} (hsize : ∀ e, i.k = .slice e → ∃ ie, ty e = some ie ∧ ie.size = size)
    {g : G} {x : AV} {a : Value} {lo hi' mx : Option AV} {vl vh vm : Option Value} {o : Out} (h : sliceOut i.k size x lo hi' mx = some o) (ho : o.obl) (sm : Sim g) (hx : R g x a)
    (hl : OR g lo vl) (hh : OR g hi' vh) (hm : OR g mx vm) : Runs P (Instr.sliceAt T a vl vh vm) g o := by
  obtain ⟨info, d, z, h1, h2, h3, _⟩ := hty.facts hi;unfold sliceOut at h;split at h
  · rename_i s hk;have := kind_str (h3.trans hk); subst this;have e1 := hx.lit_inv; subst e1;split at h
    · rename_i l hh' e2 e3;cases h;obtain ⟨o1, o2, o3⟩ := ho;unfold lenS at e3 o3;cases vm with
      | some u => exact hm.elim
      | none =>
      refine ⟨.string (cutS s l hh'), g.w, ?_, Post.same rfl sm (.lit _)⟩;rcases optInt_spec e2 hl with ⟨rfl, rfl, rfl⟩ | ⟨k, rfl, rfl⟩ <;> rcases optInt_spec e3 hh with ⟨rfl, rfl, rfl⟩ | ⟨k', rfl, rfl⟩
      · simp [Instr.sliceAt, Instr.slice, run_underlying h2, Instr.sliceBounds, cutS]
      · simp [Instr.sliceAt, Instr.slice, run_underlying h2, Instr.sliceBounds, cutS, run_sliceBound (P := P) _ hh' _ _ _ ⟨by omega, o3⟩]
      · simp [Instr.sliceAt, Instr.slice, run_underlying h2, Instr.sliceBounds, cutS, run_sliceBound (P := P) _ l _ _ _ ⟨o1, o2⟩]
      · have hq : (hh'.toNat : Int) = hh' := by omega
        simp [Instr.sliceAt, Instr.slice, run_underlying h2, Instr.sliceBounds, cutS, run_sliceBound (P := P) _ hh' _ _ _ ⟨(by omega : 0 ≤ hh'), o3⟩, run_sliceBound (P := P) k l hh'.toNat _ _ ⟨o1, by omega⟩]
    · cases h
  · rename_i e els tok hk;have := kind_slice (h3.trans hk); subst this;obtain ⟨ie, hie, hies⟩ := hsize e hk;have hsz := run_sizeOf hty hie g.w;obtain ⟨ba, cap, rfl, hcap, hfull⟩ := hx.sl_len;split at h
    · rename_i l hh' e2 e3;cases h;obtain ⟨⟨o1, o2, o3⟩, o4⟩ := ho;unfold lenL at e3 o3;cases vm with
      | some u => exact hm.elim
      | none =>
      have key := fun tok' ht => R.sl_cut (tok' := tok') hx l.toNat hh'.toNat cap (by omega) (by omega) (by omega) (Nat.le_refl _) ie.size (by rw [hies]; exact o4) ht;refine ⟨_, g.w, ?_, Post.same rfl sm (key _ ?_)⟩
      · rcases optInt_spec e2 hl with ⟨rfl, rfl, rfl⟩ | ⟨k, rfl, rfl⟩ <;> rcases optInt_spec e3 hh with ⟨rfl, rfl, rfl⟩ | ⟨k', rfl, rfl⟩
        · simp [Instr.sliceAt, Instr.slice, run_underlying h2, Instr.sliceBounds, hsz]
        · simp [Instr.sliceAt, Instr.slice, run_underlying h2, Instr.sliceBounds, hsz, run_sliceBound (P := P) _ hh' _ _ _ ⟨(by omega : 0 ≤ hh'), (by omega : hh' ≤ cap)⟩]
        · simp [Instr.sliceAt, Instr.slice, run_underlying h2, Instr.sliceBounds, hsz, run_sliceBound (P := P) _ l _ _ _ ⟨o1, o2⟩]
        · simp [Instr.sliceAt, Instr.slice, run_underlying h2, Instr.sliceBounds, hsz, run_sliceBound (P := P) _ hh' _ _ _ ⟨(by omega : 0 ≤ hh'), (by omega : hh' ≤ cap)⟩, run_sliceBound (P := P) k l hh'.toNat _ _ ⟨o1, by omega⟩]
      · cases hi' with
        | some q => exact .inl rfl
        | none =>
          cases htf : tok.isFull with
          | false => exact .inl (by simp [cutTok])
          | true =>
            right;have htok : tok = .full := by cases tok <;> simp_all [Tok.isFull]
            refine ⟨by simp [cutTok], ?_⟩;rcases optInt_spec e3 hh with ⟨_, _, rfl⟩ | ⟨k', _, hc⟩
            · have := hfull htok; omega
            · cases hc
    · rename_i km m l hh' e2 e3;cases h;obtain ⟨⟨o1, o2, o3⟩, o5, o6, o4⟩ := ho;unfold lenL at e3 o3;subst o5;cases vm with
      | none => exact hm.elim
      | some u =>
      have := R.lit_inv hm; subst this;have key := R.sl_cut (tok' := .full) hx l.toNat m.toNat m.toNat (by omega) (by omega) (Nat.le_refl _) (by omega) ie.size (by rw [hies]; exact o4) (.inr ⟨rfl, rfl⟩);refine ⟨_, g.w, ?_, Post.same rfl sm key⟩;have hb := fun c => run_sliceBound (P := P) km m cap c g.w ⟨by omega, by omega⟩;rcases optInt_spec e3 hh with ⟨rfl, rfl, rfl⟩ | ⟨k', rfl, rfl⟩
      · cases o6
      · have hb2 := fun c => run_sliceBound (P := P) k' m m.toNat c g.w ⟨by omega, by omega⟩;rcases optInt_spec e2 hl with ⟨rfl, rfl, rfl⟩ | ⟨k, rfl, rfl⟩
        · simp [Instr.sliceAt, Instr.slice, run_underlying h2, Instr.sliceBounds, hsz, hb, hb2]
        · have hb3 := fun c => run_sliceBound (P := P) k l m.toNat c g.w ⟨by omega, by omega⟩;simp [Instr.sliceAt, Instr.slice, run_underlying h2, Instr.sliceBounds, hsz, hb, hb2, hb3]
    · cases h
  · cases h
def fillL (place : Nat → Option (Nat × Nat)) (cells : List AV) : List (Nat × AV) → Option (List AV × Prop)
  | [] => some (cells, True)
  | (i, v) :: rest =>
    match place i with
    | some (off, size) =>
      match fillL place (splice cells off v.cellsOf) rest with
      | some (cs, p) => some (cs, (v.var = true ∧ v.cellsOf.length = size ∧ off + v.cellsOf.length ≤ cells.length) ∧ p)
      | none => none
    | none => none
def CellsRel (g : G) (cs : List AV) (xs : Array Value) : Prop :=
  xs.size = cs.length ∧ (∀ j (hj : j < cs.length), R g cs[j] (xs.getD j undef)) ∧ ∀ j, j < cs.length → (xs.getD j undef).oneCell' = true
theorem splice_len {cells l : List AV} {off : Nat} (h : off + l.length ≤ cells.length) : (splice cells off l).length = cells.length := by
  simp [splice]; omega
theorem splice_get {cells l : List AV} {off : Nat} (h : off + l.length ≤ cells.length) (j : Nat) (hj : j < (splice cells off l).length) :
    (splice cells off l)[j] = if h1 : off ≤ j ∧ j < off + l.length then l[j - off]'(by omega) else cells[j]'(by rw [← splice_len h]; exact hj) := by
  have hlen := splice_len h;have ht : (cells.take off).length = off := by simp; omega
  apply Option.some.inj;rw [← List.getElem?_eq_getElem hj];have hjc : j < cells.length := by omega
  unfold splice;split
  · rename_i h1;simp [List.getElem?_append, ht, show ¬ j < off by omega, show j - off < l.length by omega]
  · rename_i h1;by_cases h2 : j < off
    · simp [List.getElem?_append, ht, h2]
    · have e : off + l.length + (j - off - l.length) = j := by omega
      simp [List.getElem?_append, ht, h2, show ¬ (j - off < l.length) by omega, e, hjc]
theorem fold_zip (off : Nat) : ∀ (l : List Value) (k : Nat) (xs : Array Value), off + k + l.length ≤ xs.size →
    ((l.zipIdx k).foldl (fun cs p => cs.setIfInBounds (off + p.2) p.1) xs).size = xs.size ∧
      ∀ j, ((l.zipIdx k).foldl (fun cs p => cs.setIfInBounds (off + p.2) p.1) xs).getD j undef = if off + k ≤ j ∧ j < off + k + l.length then l.getD (j - (off + k)) undef else xs.getD j undef
  | [], k, xs, _ => by
    refine ⟨rfl, fun j => ?_⟩;simp only [List.zipIdx_nil, List.foldl_nil, List.length_nil];rw [if_neg (by omega)]
  | v :: l, k, xs, h => by
    simp only [List.length_cons] at h;obtain ⟨h1, h2⟩ := fold_zip off l (k + 1) (xs.setIfInBounds (off + k) v) (by simp; omega);simp only [List.zipIdx_cons, List.foldl_cons];refine ⟨by rw [h1]; simp, fun j => ?_⟩;rw [h2];simp only [List.length_cons];by_cases c1 : off + (k + 1) ≤ j ∧ j < off + (k + 1) + l.length
    · rw [if_pos c1, if_pos (by omega)];rw [show j - (off + k) = (j - (off + (k + 1))) + 1 by omega];simp
    · rw [if_neg c1];by_cases c2 : j = off + k
      · subst c2;rw [if_pos (by omega)];simp [Array.getD, show off + k < xs.size by omega]
      · rw [if_neg (by omega)];simp only [Array.getD_eq_getD_getElem?];rw [Array.getElem?_setIfInBounds_ne (by omega)]
theorem fill_step {g : G} {cs : List AV} {xs : Array Value} (h : CellsRel g cs xs) {av : AV} {v : Value} (hv : R g av v) (h1 : av.var = true) {off : Nat} (ho : off + av.cellsOf.length ≤ cs.length) :
    CellsRel g (splice cs off av.cellsOf) (v.cells.zipIdx.foldl (fun cs (c, j) => cs.setIfInBounds (off + j) c) xs) := by
  obtain ⟨c1, c2, c3⟩ := hv.cellsOf h1;obtain ⟨d1, d2, d3⟩ := h
  have e : v.cells.zipIdx.foldl (fun cs (c, j) => cs.setIfInBounds (off + j) c) xs = (v.cells.toList.zipIdx 0).foldl (fun cs p => cs.setIfInBounds (off + p.2) p.1) xs := by
    rw [← Array.foldl_toList, Array.toList_zipIdx]
  rw [e];obtain ⟨f1, f2⟩ := fold_zip off v.cells.toList 0 xs (by simp; omega);have hlen := splice_len ho;refine ⟨by rw [f1]; omega, fun j hj => ?_, fun j hj => ?_⟩
  · rw [f2, splice_get ho];simp only [Array.length_toList, Nat.add_zero];by_cases hc : off ≤ j ∧ j < off + av.cellsOf.length
    · rw [dif_pos hc, if_pos (by omega)];have := c2 (j - off) (by omega);simpa [List.getD, Array.getD_eq_getD_getElem?] using this
    · rw [dif_neg hc, if_neg (by omega)];exact d2 j (by omega)
  · rw [f2];simp only [Array.length_toList, Nat.add_zero];by_cases hc : off ≤ j ∧ j < off + av.cellsOf.length
    · rw [if_pos (by omega)];have := c3 (j - off) (by omega);simpa [List.getD, Array.getD_eq_getD_getElem?] using this
    · rw [if_neg (by omega)];exact d3 j (by omega)
inductive PL (g : G) : List (Nat × AV) → List (Nat × Value) → Prop
  | nil : PL g [] []
  | cons {i : Nat} {a : AV} {l : List (Nat × AV)} {v : Value} {vs : List (Nat × Value)} (h : R g a v) (r : PL g l vs) : PL g ((i, a) :: l) ((i, v) :: vs)
theorem fill_spec {g : G} {place : Nat → Option (Nat × Nat)} : ∀ {parts : List (Nat × AV)} {vs : List (Nat × Value)} {cs cs' : List AV} {xs : Array Value} {p : Prop},
    PL g parts vs → CellsRel g cs xs → fillL place cs parts = some (cs', p) → p → ∃ ys, Instr.fill place xs vs = some ys ∧ CellsRel g cs' ys
  | _, _, cs, cs', xs, p, .nil, hc, hf, _ => by
    cases hf;exact ⟨xs, rfl, hc⟩
  | (i, a) :: l, (_, v) :: vs, cs, cs', xs, p, .cons h r, hc, hf, hp => by
    unfold fillL at hf;split at hf
    · rename_i off size hpl;split at hf
      · rename_i cs2 p2 hrec;cases hf;obtain ⟨⟨q1, q2, q3⟩, hp2⟩ := hp;have hst := fill_step hc h q1 q3;obtain ⟨ys, hy1, hy2⟩ := fill_spec r hst hrec hp2;refine ⟨ys, ?_, hy2⟩;have c1 := (h.cellsOf q1).1;have hcs := hc.1;unfold Instr.fill;simp only [hpl];rw [if_neg (by simp; omega)];exact hy1
      · cases hf
    · cases hf
def structPlaces (ty : TyTab) : List (Nat × TypeId) → Option (List (Nat × Nat))
  | [] => some []
  | (off, t) :: r => match ty t, structPlaces ty r with
    | some i, some l => some ((off, i.size) :: l)
    | _, _ => none
theorem CellsRel.noTok {g : G} {cs : List AV} {xs : Array Value} (h : CellsRel g cs xs) : CellsRel g (cs.map Ab.noTok) xs :=
  ⟨by simpa using h.1, fun j hj => by simpa using (h.2.1 j (by simpa using hj)).noTok, fun j hj => h.2.2 j (by simpa using hj)⟩
def zTok (l : List AV) : List AV := bif keepTok then l else l.map noTok
theorem CellsRel.zTok {g : G} {cs : List AV} {xs : Array Value} (h : CellsRel g cs xs) : CellsRel g (Ab.zTok cs) xs := by
  unfold Ab.zTok;cases keepTok with
  | true => exact h
  | false => exact h.noTok
def buildOut (ty : TyTab) (i : TyI) (parts : List (Nat × AV)) : Option Out :=
  match i.k with
  | .struct fs => match structPlaces ty fs with
    | some pl => match fillL (pl[·]?) (zTok i.zero) parts with
      | some (cs, p) => some { av := .agg cs, obl := p }
      | none => none
    | none => none
  | .arr _ e => match ty e with
    | some ie => match fillL (fun j => some (j * ie.size, ie.size)) i.zero parts with
      | some (cs, p) => some { av := .agg cs, obl := p }
      | none => none
    | none => none
  | _ => none
theorem run_places {P : Program} {ty : TyTab} (hty : TyOk P ty) (w : World) : ∀ (fs : List Field) {pl : List (Nat × Nat)}, structPlaces ty (fs.map fun f => (f.offset, f.type)) = some pl →
    (fs.mapM fun f => (do pure (f.offset, ← sizeOf f.type) : Sem (Nat × Nat))).run P w = .ok pl w
  | [], pl, h => by cases h; rfl
  | f :: r, pl, h => by
    simp only [List.map_cons, structPlaces] at h;split at h
    · rename_i i l h1 h2;cases h;have hs := run_sizeOf hty h1 w;have ih := run_places hty w r h2;simp only [List.mapM_cons, bind_assoc, pure_bind, Sem.run_bind, hs, Result.andThen_ok, ih];rfl
    · cases h
theorem buildOut_runs {P : Program} {ty : TyTab} (hty : TyOk P ty) {T : TypeId} {i : TyI} (hi : ty T = some i) {parts : List (Nat × AV)} {vs : Array (Nat × Value)} {g : G} {o : Out}
    (h : buildOut ty i parts = some o) (ho : o.obl) (s : Sim g) (hp : PL g parts vs.toList) : Runs P (Instr.build T vs) g o := by
  obtain ⟨info, d, z, h1, h2, h3, _⟩ := hty.facts hi;obtain ⟨zv, hz, z1, z2⟩ := run_zeroValue hty hi g.w;have hzr : CellsRel g i.zero zv.cells := z1 ▸ of_oneCells zv z2;unfold buildOut at h;split at h
  · rename_i fs hk;obtain ⟨F, rfl, rfl⟩ := kind_struct (h3.trans hk);split at h
    · rename_i pl hpl;split at h
      · rename_i cs p hf;cases h;obtain ⟨ys, hy1, hy2⟩ := fill_spec hp hzr.zTok hf ho;refine ⟨.agg ys, g.w, ?_, Post.same rfl s (.agg _ _ hy2.1 hy2.2.1 hy2.2.2)⟩;have hpla := run_places hty g.w F.toList hpl
        have hpla' : (F.mapM fun f => (do pure (f.offset, ← sizeOf f.type) : Sem (Nat × Nat))).run P g.w = .ok pl.toArray g.w := by
          rw [Array.mapM_eq_mapM_toList, map_eq_pure_bind, Sem.run_bind, hpla];rfl
        simp only [Instr.build, Sem.run_bind, hz, Result.andThen_ok, run_underlying h2, hpla'];have hg : (fun j : Nat => pl.toArray[j]?) = (fun j : Nat => pl[j]?) := by funext j; simp
        simp only [hg, hy1];rfl
      · cases h
    · cases h
  · rename_i n e hk;have := kind_arr (h3.trans hk); subst this;split at h
    · rename_i ie hie;split at h
      · rename_i cs p hf;cases h;obtain ⟨ys, hy1, hy2⟩ := fill_spec hp hzr hf ho;refine ⟨.agg ys, g.w, ?_, Post.same rfl s (.agg _ _ hy2.1 hy2.2.1 hy2.2.2)⟩;have hsz := run_sizeOf hty hie g.w;simp only [Instr.build, Sem.run_bind, hz, Result.andThen_ok, run_underlying h2, hsz];simp only [hy1];rfl
      · cases h
    · cases h
  · cases h
theorem R.row {g : G} {w' : World} {ys : Array Value} {T : TypeId} (hw : w'.heap = g.w.heap.push (.cells ys T)) (sm : Sim g) {els : List (List AV)} {size : Nat} (hs : ∀ i (h : i < els.length), els[i].length = size)
    (hlen : els.length * size ≤ ys.size) (hr : ∀ i j (hi : i < els.length) (hj : j < els[i].length), R g els[i][j] (ys.getD (i * size + j) undef))
    (h1 : ∀ i j, i < els.length → j < size → (ys.getD (i * size + j) undef).oneCell' = true) {cap : Nat} (hcap : els.length ≤ cap) {tok : Tok} {g' : G} (hg : g'.w = w') (k : Keep g g')
    (hreg : ∀ o, o < els.length * size → ¬ g'.reg ⟨g.w.heap.size, o, none⟩)
    (ht : TokOk g' tok g.w.heap.size 0 els.length cap size) : R g' (.sl els tok) (.slice (some ⟨g.w.heap.size, 0, none⟩) els.length cap) := by
  have hlt : ∀ i j, i < els.length → j < size → i * size + j < els.length * size := fun i j hi hj => by
    have : (i + 1) * size ≤ els.length * size := Nat.mul_le_mul_right _ hi;rw [Nat.add_mul] at this; omega
  have hcell : ∀ o, o < ys.size → w'.cell? ⟨g.w.heap.size, o, none⟩ = some (ys.getD o undef) := fun o ho => by
    simp [World.cell?, heap_push_new hw, Array.getD, ho]
  have _ := sm;refine .sl els tok _ 0 size cap (fun i j => ys.getD (i * size + j) undef) hs (fun i j hi hj => ?_) (fun i j hi hj => ?_) (fun i j hi hj => (hr i j hi hj).keep k) h1 ht hcap
  · rw [hg, Nat.zero_add];exact hcell _ (Nat.lt_of_lt_of_le (hlt i j hi hj) hlen)
  · rw [Nat.zero_add];exact hreg _ (hlt i j hi hj)
theorem no_reg_new {g : G} (sm : Sim g) {w' : World} (o : Nat) : ¬ ({ g with w := w' } : G).reg ⟨g.w.heap.size, o, none⟩ := fun h => by
  have := sm.inb _ h;simp at this
def chunks (n size : Nat) (cs : List AV) : List (List AV) := (List.range n).map fun i => (cs.drop (i * size)).take size
def zeros (n : Nat) (z : List AV) : List AV := (List.range n).map fun q => z.getD (q % z.length) default
def buildSliceOut (ie : TyI) (len : Nat) (parts : List (Nat × AV)) : Option Out :=
  match fillL (fun i => some (i * ie.size, ie.size)) (zeros (len * ie.size) ie.zero) parts with
  | some (cs, p) => some { av := .sl (chunks len ie.size (cs.map noTok)) .full, obl := p ∧ len * ie.size ≤ 16777216 ∧ cs.length = len * ie.size ∧ ie.zero.length = ie.size }
  | none => none
theorem zeros_rel {g : G} (zv : Value) (h : zv.cells.toList.all (·.oneCell') = true) (n : Nat) (hn : n = 0 ∨ 0 < zv.cells.size) :
    CellsRel g (zeros n (zv.cells.toList.map ofConst)) ((Array.range n).map (zv.cells[· % zv.cells.size]!)) := by
  obtain ⟨z1, z2, z3⟩ := of_oneCells (g := g) zv h
  have key : ∀ j, j < n → ((Array.range n).map (zv.cells[· % zv.cells.size]!)).getD j undef = zv.cells.getD (j % zv.cells.size) undef := fun j hj => by
    have hp : 0 < zv.cells.size := by omega
    have hm := Nat.mod_lt j hp;simp [Array.getD, hj, hm]
  refine ⟨by simp [zeros], fun j hj => ?_, fun j hj => ?_⟩
  · have hj' : j < n := by simpa [zeros] using hj
    have hp : 0 < zv.cells.size := by omega
    have hm := Nat.mod_lt j hp;rw [key j hj'];have := z2 (j % zv.cells.size) (by simpa using hm);simpa [zeros, hm] using this
  · have hj' : j < n := by simpa [zeros] using hj
    have hp : 0 < zv.cells.size := by omega
    have hm := Nat.mod_lt j hp;rw [key j hj'];exact z3 _ (by simpa using hm)
theorem buildSliceOut_runs {P : Program} {ty : TyTab} (hty : TyOk P ty) {T : TypeId} {i : TyI} (hi : ty T = some i) {e : TypeId} (hk : i.k = .slice e) {ie : TyI} (hie : ty e = some ie) {len : Nat}
    {parts : List (Nat × AV)} {vs : Array (Nat × Value)} {g : G} {o : Out} (h : buildSliceOut ie len parts = some o) (ho : o.obl) (s : Sim g) (hp : PL g parts vs.toList) : Runs P (Instr.buildSlice T len vs) g o := by
  obtain ⟨info, d, z, h1, h2, h3, _⟩ := hty.facts hi;have := kind_slice (h3.trans hk); subst this;obtain ⟨zv, hz, z1, z2⟩ := run_zeroValue hty hie g.w;have hsz := run_sizeOf hty hie g.w;unfold buildSliceOut at h;split at h
  · rename_i cs p hf;cases h;obtain ⟨hp1, o2, o3, o4⟩ := ho;have zlen : zv.cells.size = ie.size := by rw [← o4, z1]; simp
    have hn : len * ie.size = 0 ∨ 0 < zv.cells.size := by
      rcases Nat.eq_zero_or_pos (len * ie.size) with h | h
      · exact .inl h
      · right; rw [zlen]; exact Nat.pos_of_mul_pos_left h
    have hzr : CellsRel g (zeros (len * ie.size) ie.zero) ((Array.range (len * ie.size)).map (zv.cells[· % zv.cells.size]!)) := by
      rw [z1]; exact zeros_rel zv z2 _ hn
    obtain ⟨ys, hy1, hy2'⟩ := fill_spec hp hzr hf hp1;have hy2 : CellsRel g (cs.map noTok) ys := ⟨by simpa using hy2'.1, fun j hj => by simpa using (hy2'.2.1 j (by simpa using hj)).noTok, fun j hj => hy2'.2.2 j (by simpa using hj)⟩;have o3 : (cs.map noTok).length = len * ie.size := by simpa using o3
    clear hy2';generalize cs.map noTok = cs at hy2 o3 ⊢;have hw : ({ g.w with heap := g.w.heap.push (.cells ys e) } : World).heap = g.w.heap.push (.cells ys e) := rfl;have hcl : (chunks len ie.size cs).length = len := by simp [chunks]
    have hle : ∀ i, i < len → i * ie.size + ie.size ≤ cs.length := fun i hi => by
      have : (i + 1) * ie.size ≤ len * ie.size := Nat.mul_le_mul_right _ hi;rw [Nat.add_mul] at this; omega
    have hch : ∀ i (hi : i < (chunks len ie.size cs).length), (chunks len ie.size cs)[i] = (cs.drop (i * ie.size)).take ie.size := fun i hi => by simp [chunks]
    have hget : ∀ i j (hi : i < (chunks len ie.size cs).length) (hj : j < ((chunks len ie.size cs)[i]).length), ∃ hq : i * ie.size + j < cs.length, (chunks len ie.size cs)[i][j] = cs[i * ie.size + j] := fun i j hi hj => by
      have hj' : j < ie.size := by rw [hch i hi] at hj; simp at hj; omega
      have := hle i (by omega);refine ⟨by omega, ?_⟩;simp [chunks]
    have r := R.row (cap := len) (tok := .full) hw s (els := chunks len ie.size cs) (size := ie.size) (fun i hi => by
        rw [hch i hi]; have := hle i (by omega); simp; omega) (by rw [hcl, ← o3]; exact Nat.le_of_eq hy2.1.symm) (fun i j hi hj => by
        obtain ⟨hq, e⟩ := hget i j hi hj;rw [e]; exact hy2.2.1 _ hq) (fun i j hi hj => hy2.2.2 _ (by have := hle i (by omega); omega)) (by omega) (g' := { g with w := { g.w with heap := g.w.heap.push (.cells ys e) } }) rfl (keep_push rfl)
        (fun o _ => no_reg_new s o) hcl.symm
    rw [hcl] at r;refine ⟨.slice (some ⟨g.w.heap.size, 0, none⟩) len len, { g.w with heap := g.w.heap.push (.cells ys e) }, ?_, ⟨g.β, g.ρ, sim_push rfl s, r, keep_push rfl⟩⟩;have hbig : ¬ (len * ie.size > 2 ^ 24) := by omega
    by_cases h0 : len * ie.size = 0
    · have hempty : (Array.range (len * ie.size)).map (fun q => (#[] : Array Value)[q % (#[] : Array Value).size]!) = (Array.range (len * ie.size)).map (zv.cells[· % zv.cells.size]!) := by rw [h0]; simp
      simp only [Instr.buildSlice, Sem.run_bind, run_underlying h2, Result.andThen_ok, hsz, h0, if_true] at hempty ⊢;simp only [pure_bind, hempty];rw [h0] at hy1;simp only [hy1, newRow];rfl
    · simp only [Instr.buildSlice, Sem.run_bind, run_underlying h2, Result.andThen_ok, hsz, hbig, if_false, h0, hz];simp only [Sem.run_bind, Sem.run_pure, Result.andThen_ok, hy1, newRow];rfl
  · cases h
def extractOut (x : AV) (n : Nat) : Option Out :=
  match x with
  | .tup vs => match vs[n]? with
    | some v => some { av := v }
    | none => none
  | _ => none
theorem extractOut_runs {P : Program} {x : AV} {a : Value} {n : Nat} {g : G} {o : Out} (h : extractOut x n = some o) (s : Sim g) (hx : R g x a) : Runs P (Instr.extract a n) g o := by
  unfold extractOut at h;split at h
  · rename_i vs;split at h
    · rename_i v hv;cases h;cases hx with
      | tup _ xs hs hxs =>
        have hn : n < vs.length := by
          rcases Nat.lt_or_ge n vs.length with h | h
          · exact h
          · simp [List.getElem?_eq_none h] at hv
        have hn' : n < xs.size := by omega
        refine ⟨xs.getD n undef, g.w, ?_, Post.same rfl s ?_⟩
        · simp [Instr.extract, hn', Array.getD]
        · have := hxs n hn;rw [List.getElem?_eq_getElem hn] at hv;cases hv;exact this
    · cases h
  · cases h
def lenOut (kt : TyK) (x : AV) : Option Out :=
  match kt, x with
  | .slice _, .sl els _ => some { av := .lit (.int .i64 (lenL els)) }
  | .slice _, .slb _ n => some { av := .lit (.int .i64 n) }
  | .slice _, .asl _ n _ => some { av := .lit (.int .i64 n) }
  | .str, .lit (.string s) => some { av := .lit (.int .i64 (lenS s)) }
  | _, _ => none
theorem lenOut_runs {P : Program} {ty : TyTab} (hty : TyOk P ty) {T : TypeId} {i : TyI} (hi : ty T = some i) {rt : TypeId} {x : AV} {a : Value} {g : G} {o : Out} (h : lenOut i.k x = some o) (s : Sim g) (hx : R g x a) :
    Runs P (Builtin.len_ #[T] rt #[a]) g o := by
  obtain ⟨info, d, z, h1, h2, h3, _⟩ := hty.facts hi;unfold lenOut at h;split at h
  · rename_i e els tok hk;have := kind_slice (h3.trans hk); subst this;obtain ⟨ba, cap, rfl, _⟩ := hx.sl_len;cases h;exact ⟨.int .i64 (lenL els), g.w, by simp [Builtin.len_, run_underlying h2, goInt, lenL], Post.same rfl s (.lit _)⟩
  · rename_i e j n hk;have := kind_slice (h3.trans hk); subst this;cases hx with
    | slb _ _ q hj hq =>
      subst hq;cases h;exact ⟨.int .i64 q, g.w, by simp [Builtin.len_, run_underlying h2, goInt], Post.same rfl s (.lit _)⟩
  · rename_i e j n z hk;have := kind_slice (h3.trans hk); subst this;cases hx with
    | asl _ _ _ q cap ad hj hq hc hz ha =>
      subst hq;cases h;exact ⟨.int .i64 q, g.w, by simp [Builtin.len_, run_underlying h2, goInt], Post.same rfl s (.lit _)⟩
  · rename_i st hk;have := kind_str (h3.trans hk); subst this;have := hx.lit_inv; subst this;cases h;exact ⟨.int .i64 (lenS st), g.w, by simp [Builtin.len_, run_underlying h2, goInt, lenS], Post.same rfl s (.lit _)⟩
  · cases h
def minmaxOut (mx : Bool) (x y : AV) : Option Out :=
  match x, y with
  | .lit (.int k a), .lit (.int _ b) => some { av := .lit (.int k (if mx then maxI a b else minI a b)) }
  | _, _ => none
theorem maxOut_runs {P : Program} {ts : Array TypeId} {rt : TypeId} {x y : AV} {a b : Value} {g : G} {o : Out} (h : minmaxOut true x y = some o) (s : Sim g) (hx : R g x a) (hy : R g y b) :
    Runs P (Builtin.max_ ts rt #[a, b]) g o := by
  unfold minmaxOut at h;split at h
  · rename_i k n k' m;have := hx.lit_inv; subst this;have := hy.lit_inv; subst this;cases h;refine ⟨.int k (if m > n then m else n), g.w, by simp [Builtin.max_, Builtin.max2], Post.same rfl s ?_⟩;have e : maxI n m = if m > n then m else n := by unfold maxI; split <;> omega
    simp only [if_true, e]; exact .lit _
  · cases h
theorem minOut_runs {P : Program} {ts : Array TypeId} {rt : TypeId} {x y : AV} {a b : Value} {g : G} {o : Out} (h : minmaxOut false x y = some o) (s : Sim g) (hx : R g x a) (hy : R g y b) :
    Runs P (Builtin.min_ ts rt #[a, b]) g o := by
  unfold minmaxOut at h;split at h
  · rename_i k n k' m;have := hx.lit_inv; subst this;have := hy.lit_inv; subst this;cases h;refine ⟨.int k (if m < n then m else n), g.w, by simp [Builtin.min_, Builtin.min2], Post.same rfl s ?_⟩;have e : minI n m = if m < n then m else n := by unfold minI; split <;> omega
    simp only [e]; exact .lit _
  · cases h
def flat (m s : Nat) (xs : Nat → Nat → Value) : List Value := (List.range (m * s)).map fun q => xs (q / s) (q % s)
theorem flat_len (m s : Nat) (xs : Nat → Nat → Value) : (flat m s xs).length = m * s := by simp [flat]
theorem flat_get {m s : Nat} {xs : Nat → Nat → Value} {i j : Nat} (hi : i < m) (hj : j < s) : (flat m s xs)[i * s + j]? = some (xs i j) := by
  have h1 : i * s + j < m * s := by
    have : (i + 1) * s ≤ m * s := Nat.mul_le_mul_right _ hi;rw [Nat.add_mul] at this; omega
  have hs : 0 < s := by omega
  have e1 : (i * s + j) / s = i := by rw [Nat.mul_comm, Nat.mul_add_div hs, Nat.div_eq_of_lt hj, Nat.add_zero]
  have e2 : (i * s + j) % s = j := by rw [Nat.mul_comm, Nat.mul_add_mod, Nat.mod_eq_of_lt hj]
  simp [flat, h1, e1, e2]
theorem flat_inv {m s : Nat} {xs : Nat → Nat → Value} {q : Nat} {v : Value} (h : (flat m s xs)[q]? = some v) : q / s < m ∧ q % s < s ∧ q / s * s + q % s = q ∧ v = xs (q / s) (q % s) := by
  have hq : q < m * s := by
    rcases Nat.lt_or_ge q (flat m s xs).length with h' | h'
    · rwa [flat_len] at h'
    · simp [List.getElem?_eq_none h'] at h
  have hs : 0 < s := Nat.pos_of_ne_zero fun h0 => by subst h0; simp at hq
  have e : (flat m s xs)[q]? = some (xs (q / s) (q % s)) := by simp [flat, hq]
  rw [e] at h;exact ⟨(Nat.div_lt_iff_lt_mul hs).2 hq, Nat.mod_lt _ hs, Nat.div_add_mod' q s, (Option.some.inj h).symm⟩
structure Appd (P : Program) (g : G) (size : Nat) (tx : TypeId) (x : Value) (els : List (List AV)) (news : List Value) : Prop where
  src : ∀ w : World, w.heap = g.w.heap → Src P size tx x els.length news w
  len : ∀ i (h : i < els.length), els[i].length = size
  rel : ∀ i j (hi : i < els.length) (hj : j < els[i].length), R g els[i][j] (news.getD (i * size + j) undef)
theorem Appd.of_slice {P : Program} {g : G} {size : Nat} {tx e : TypeId} (hk : P.underlying tx = some (.slice e)) {els : List (List AV)} {tok : Tok} {x : Value} (h : R g (.sl els tok) x) (hs : ∀ q ∈ els, q.length = size) :
    ∃ news, Appd P g size tx x els news := by
  cases h with
  | @nil _ a _ => cases a with
    | none => exact ⟨[], fun w _ => Src.ofNil w hk 0, fun i h => absurd h (by simp), fun i j h => absurd h (by simp)⟩
    | some a => exact ⟨[], fun w _ => Src.ofSlice w hk a 0 0 [] (by simp) (fun j u h => by simp at h) (fun u h => by simp at h), fun i h => absurd h (by simp), fun i j h => absurd h (by simp)⟩
  | sl _ _ b off s cap xs hls c1 c2 c3 c4 hto hcap =>
    by_cases h0 : els = []
    · subst h0;refine ⟨[], fun w _ => Src.ofSlice w hk ⟨b, off, none⟩ 0 cap [] (by simp) (fun j u h => by simp at h) (fun u h => by simp at h), fun i h => absurd h (by simp), fun i j h => absurd h (by simp)⟩
    · have hpos : 0 < els.length := List.length_pos_iff.2 h0;have hse : s = size := by rw [← hls 0 hpos]; exact hs _ (List.getElem_mem hpos)
      subst hse;refine ⟨flat els.length s xs, fun w hw => Src.ofSlice w hk ⟨b, off, none⟩ els.length cap _ (flat_len _ _ _) (fun q u hu => ?_) (fun u hu => ?_), hls, fun i j hi hj => ?_⟩
      · obtain ⟨q1, q2, q3, rfl⟩ := flat_inv hu;have := c1 _ _ q1 q2;rw [addr_add, cell_heap hw, ← q3, ← Nat.add_assoc];simpa [q3] using this
      · obtain ⟨q, hq⟩ := List.mem_iff_getElem?.1 hu;obtain ⟨q1, q2, q3, rfl⟩ := flat_inv hq;exact c4 _ _ q1 q2
      · have hj' : j < s := by rw [← hls i hi]; exact hj
        rw [List.getD_eq_getElem?_getD, flat_get hi hj'];exact c3 i j hi hj
theorem hsc_other (w : World) (a : Addr) (x : Value) {b : Nat} (h : b ≠ a.block) : (w.setCell a x).heap[b]? = w.heap[b]? := by
  simp only [World.setCell];rw [Array.getElem?_modify];split
  · rename_i h'; exact absurd h'.symm h
  · rfl
theorem hsc_size (w : World) (a : Addr) (x : Value) : (w.setCell a x).heap.size = w.heap.size := by simp [World.setCell]
theorem wrote_setCells : ∀ (ys : List Value) (w : World) (b o : Nat), (∀ j, j < ys.length → (w.cell? ⟨b, o + j, none⟩).isSome = true) → Wrote w (w.setCells b o ys) b o ys
  | [], w, b, o, _ => ⟨fun j h => absurd h (by simp), fun _ _ => rfl, fun _ => rfl, fun _ _ => rfl, rfl, ⟨rfl, rfl⟩⟩
  | y :: ys, w, b, o, h => by
    have h0 : (w.cell? ⟨b, o, none⟩).isSome = true := by simpa using h 0 (by simp)
    have ih := wrote_setCells ys (w.setCell ⟨b, o, none⟩ y) b (o + 1) (fun j hj => by
      rw [World.cell?_setCell_other _ _ _ _ (by simp)];have := h (j + 1) (by simp; omega)
      rwa [show o + (j + 1) = o + 1 + j by omega] at this)
    refine ⟨fun j hj => ?_, fun a ha => ?_, fun a => ?_, fun b' hb' => ?_, ?_, ?_⟩
    · cases j with
      | zero =>
        have := ih.cells ⟨b, o + 0, none⟩ (by simp only; omega);simp only [World.setCells];rw [this];simp only [Nat.add_zero, List.getElem_cons_zero];obtain ⟨u, hu⟩ := Option.isSome_iff_exists.1 h0;exact World.cell?_setCell_same w _ _ hu
      | succ j =>
        have := ih.here j (by simpa using hj);simp only [World.setCells, List.getElem_cons_succ];rw [show o + (j + 1) = o + 1 + j by omega];exact this
    · simp only [World.setCells];simp only [List.length_cons] at ha;rw [ih.cells a (by omega)];by_cases hs : a = ⟨b, o, none⟩
      · subst hs; exact absurd ⟨rfl, Nat.le_refl _, by simp only; omega⟩ ha
      · exact World.cell?_setCell_other _ _ _ _ (Ne.symm hs)
    · simp only [World.setCells];rw [ih.frozen, World.frozen?_setCell]
    · simp only [World.setCells];rcases hb' with hb' | hb'
      · rw [ih.blocks b' (.inl hb')];exact hsc_other _ _ _ hb'
      · cases hb'
    · simp only [World.setCells];rw [ih.size]; exact hsc_size _ _ _
    · exact ih.io
def arrK : TyK → Bool
  | .struct fs => arrFs == some fs
  | _ => false
def marked (M : List AObj) : Bool :=
  match M.getLast? with
  | some (.arr 0 []) => true
  | _ => false
def appendOut (ie : TyI) (M : List AObj) (x : AV) (els' : List (List AV)) : Option Out :=
  match x with
  | .sl els (.own t ep s) => match M[t]? with
    | some (.room e) => if e = ep ∧ s = ie.size then
        some { av := .sl (appL els els') (.own t (ep + 1) ie.size), M := some (M.set t (.room (ep + 1))),
               obl := (∀ q ∈ els, q.length = ie.size) ∧ (∀ q ∈ els', q.length = ie.size) ∧ AppB (lenL els) (lenL els') ie.bytes ∧ ie.zero.length = ie.size } else none
    | _ => none
  | .sl els .full => if marked M || arrK ie.k then (match els with
        | [] => some { av := .asl M.length (lenL els') ie.size, M := some (M ++ [.arr ie.size els']), obl := (∀ q ∈ els', q.length = ie.size) ∧ AppB 0 (lenL els') ie.bytes ∧ ie.zero.length = ie.size }
        | _ :: _ => none) else
        some { av := .sl (appL els els') (.own M.length 1 ie.size), M := some (M ++ [.room 1]),
               obl := (∀ q ∈ els, q.length = ie.size) ∧ (∀ q ∈ els', q.length = ie.size) ∧ AppB (lenL els) (lenL els') ie.bytes ∧ ie.zero.length = ie.size }
  | _ => none
theorem grow_le (need : Nat) (hn : 256 ≤ need) : ∀ r c, c ≤ 2 * need → Builtin.growBy need r c ≤ 2 * need := by
  intro r
  induction r with
  | zero => intro c hc; exact hc
  | succ r ih =>
    intro c hc;unfold Builtin.growBy;split
    · exact hc
    · exact ih _ (by omega)
theorem next_le (need cap : Nat) (h : cap < need) : Builtin.nextslicecap need cap ≤ 2 * need := by
  unfold Builtin.nextslicecap;split
  · omega
  · split
    · omega
    · exact grow_le need (by omega) 4 cap (by omega)
theorem row_get {size : Nat} {els els' : List (List AV)} {olds news rest : List Value} (ho : olds.length = els.length * size) {i j : Nat} (hi : i < (els ++ els').length) (hj : j < size)
    (hn : els'.length * size ≤ news.length) :
    (∃ h : i < els.length, (els ++ els')[i] = els[i] ∧ (olds ++ news ++ rest).getD (i * size + j) undef = olds.getD (i * size + j) undef ∧ i * size + j < olds.length) ∨
    (∃ (_ : els.length ≤ i) (h : i - els.length < els'.length), (els ++ els')[i] = els'[i - els.length] ∧ (olds ++ news ++ rest).getD (i * size + j) undef = news.getD ((i - els.length) * size + j) undef) := by
  by_cases h : i < els.length
  · left
    have hq : i * size + j < olds.length := by
      have : (i + 1) * size ≤ els.length * size := Nat.mul_le_mul_right _ h;rw [Nat.add_mul] at this; omega
    exact ⟨h, by simp [h], by simp [List.getD_eq_getElem?_getD, List.getElem?_append, hq], hq⟩
  · right;have hi' : i - els.length < els'.length := by simp at hi; omega
    have hq : ¬ i * size + j < olds.length := by
      have : els.length * size ≤ i * size := Nat.mul_le_mul_right _ (by omega);omega
    have e : i * size + j - olds.length = (i - els.length) * size + j := by
      rw [ho, Nat.sub_mul];have : els.length * size ≤ i * size := Nat.mul_le_mul_right _ (by omega);omega
    have hq2 : (i - els.length) * size + j < news.length := by
      have : (i - els.length + 1) * size ≤ els'.length * size := Nat.mul_le_mul_right _ hi';rw [Nat.add_mul] at this; omega
    refine ⟨by omega, hi', by simp [List.getElem_append, h], ?_⟩
    have e2 : (olds ++ news ++ rest)[i * size + j]? = news[(i - els.length) * size + j]? := by
      rw [List.append_assoc, List.getElem?_append_right (by omega), e, List.getElem?_append_left hq2]
    rw [List.getD_eq_getElem?_getD, e2, List.getD_eq_getElem?_getD]
theorem appd_one {P : Program} {g : G} {size : Nat} {tx : TypeId} {x : Value} {els : List (List AV)} {news : List Value} (h : Appd P g size tx x els news) : ∀ u ∈ news, u.oneCell' = true := (h.src g.w rfl).one
theorem appd_len {P : Program} {g : G} {size : Nat} {tx : TypeId} {x : Value} {els : List (List AV)} {news : List Value} (h : Appd P g size tx x els news) : news.length = els.length * size := (h.src g.w rfl).newsLen
theorem getD_mem_one {l : List Value} (h : ∀ u ∈ l, u.oneCell' = true) {q : Nat} (hq : q < l.length) : (l.getD q undef).oneCell' = true := by
  have : l.getD q undef = l[q] := by simp [List.getD, hq]
  rw [this]; exact h _ (List.getElem_mem hq)
theorem put_reg' {g : G} {t : Nat} {ao : AObj} {r : Room} {w' : World} {a : Addr} (ha : (g.put t ao r w').reg a) : g.X a ∨ (∃ (i : Nat) (o : AObj), i ≠ t ∧ g.M[i]? = some o ∧ o.covers (g.β i) (g.ρ i) a) ∨ ao.covers (g.β t) r a := by
  rcases ha with ha | ⟨i, o, hi, hcov⟩
  · exact .inl ha
  right;rcases put_get hi with ⟨hne, hi'⟩ | ⟨rfl, rfl⟩
  · left;exact ⟨i, o, hne, hi', by simpa [G.put, upd_other _ _ hne] using hcov⟩
  · right; simpa [G.put] using hcov
theorem tok_put {g : G} {t ep b off n cap s : Nat} {w' : World} (ht : t < g.M.length) : TokOk (g.put t (.room (ep + 1)) ⟨b, off + n * s, (cap - n) * s, nobs⟩ w') (.own t (ep + 1) s) b off n cap s := by
  refine ⟨rfl, by simpa [G.put] using ht, fun e he => ?_⟩;rcases put_get he with ⟨h, _⟩ | ⟨_, h⟩
  · exact absurd rfl h
  · cases h;exact ⟨Nat.le_refl _, fun _ => by simp [G.put]⟩
theorem append_own_runs {P : Program} {ty : TyTab} (hty : TyOk P ty) {T : TypeId} {i : TyI} (hi : ty T = some i) {e : TypeId} (hk : i.k = .slice e) {ie : TyI} (hie : ty e = some ie) {tx rt : TypeId}
    {g : G} {els els' : List (List AV)} {t ep : Nat} {a x : Value} {news : List Value} (sm : Sim g) (hx : R g (.sl els (.own t ep ie.size)) a) (hM : g.M[t]? = some (.room ep))
    (hn : Appd P g ie.size tx x els' news) (he : ∀ q ∈ els, q.length = ie.size) (hb : (els.length + els'.length) * ie.bytes ≤ 140737488355328) (hl : els.length + els'.length ≤ 4611686018427387904)
    (hz0 : ie.zero.length = ie.size) :
    Runs P (Builtin.append_ #[T, tx] rt #[a, x]) g { av := .sl (els ++ els') (.own t (ep + 1) ie.size), M := some (g.M.set t (.room (ep + 1))) } := by
  obtain ⟨info, d, z, h1, h2, h3, _⟩ := hty.facts hi;have := kind_slice (h3.trans hk); subst this;obtain ⟨einfo, ed, zv, q1, _, _, q4, q5, q6, q7, q8⟩ := hty.facts hie
  have htl : t < g.M.length := by
    rcases Nat.lt_or_ge t g.M.length with h | h
    · exact h
    · simp [List.getElem?_eq_none h] at hM
  have hnl := appd_len hn;have hn1 := appd_one hn
  have hal : ∀ i (h : i < (els ++ els').length), (els ++ els')[i].length = ie.size := fun i h => by
    rcases List.mem_append.1 (List.getElem_mem h) with h' | h'
    · exact he _ h'
    · obtain ⟨j, hj, e⟩ := List.mem_iff_getElem.1 h';rw [← e]; exact hn.len j hj
  have grow : ∀ (base : Option Addr) (cap : Nat) (olds : List Value), a = .slice base els.length cap → cap < els.length + els'.length →
      ((Builtin.firstCells ie.size els.length (.slice base els.length cap)).run P g.w.drew = .ok olds.toArray g.w.drew) → olds.length = els.length * ie.size →
      (∀ i j (hi : i < els.length) (hj : j < els[i].length), R g els[i][j] (olds.getD (i * ie.size + j) undef)) → (∀ u ∈ olds, u.oneCell' = true) →
      Runs P (Builtin.append_ #[T, tx] rt #[a, x]) g { av := .sl (els ++ els') (.own t (ep + 1) ie.size), M := some (g.M.set t (.room (ep + 1))) } := by
    intro base cap olds ha hcap hold hol hor ho1;subst ha
    have hfit : Builtin.nextslicecap (els.length + els'.length) cap * einfo.bytes ≤ 281474976710656 := by
      have h4 : Builtin.nextslicecap (els.length + els'.length) cap * ie.bytes ≤ 2 * (els.length + els'.length) * ie.bytes := Nat.mul_le_mul_right _ (next_le (els.length + els'.length) cap hcap);rw [Nat.mul_assoc] at h4;rw [q5];omega
    have hrun := run_append_grow_src (P := P) g.w T tx rt e einfo zv h2 q1 q6 base els.length cap olds (by rw [q4]; exact hold) x els'.length news (by rw [q4]; exact hn.src g.w rfl) hcap (by omega) hfit
    have hge : els.length + els'.length ≤ grownCap g.w (els.length + els'.length) cap e := by
      unfold grownCap Question.cut; simp only; omega
    generalize grownCap g.w (els.length + els'.length) cap e = ncap at hrun hge;generalize hrest : Builtin.zeroCells zv.cells (ncap - (els.length + els'.length)) = rest at hrun;have hzs : zv.cells.size = ie.size := by rw [← hz0, q7]; simp
    have hrl : rest.size = (ncap - (els.length + els'.length)) * ie.size := by rw [← hrest, ← hzs]; simp [Builtin.zeroCells]
    have hlen2 : (els ++ els').length = els.length + els'.length := by simp
    have hall : ∀ q, ((olds ++ news).toArray ++ rest).getD q undef = (olds ++ news ++ rest.toList).getD q undef := fun q => by
      rw [Array.getD_eq_getD_getElem?, List.getD_eq_getElem?_getD, ← Array.getElem?_toList]; simp
    have hsz : ((olds ++ news).toArray ++ rest).size = ncap * ie.size := by
      simp only [Array.size_append, List.size_toArray, List.length_append, hol, hnl, hrl, ← Nat.add_mul];congr 1; omega
    have hnb : ∀ q, (els.length + els'.length) * ie.size ≤ q → ¬ ({ g with w := g.w } : G).reg ⟨g.w.heap.size, q, none⟩ := fun q _ h => by
      have := sm.inb _ h; simp at this
    have hW : (g.w.drew.alloc (.cells ((olds ++ news).toArray ++ rest) e)).heap = g.w.heap.push (.cells ((olds ++ news).toArray ++ rest) e) := rfl;have hk' := keep_moved (g := g) (b := g.w.heap.size) (off := 0 + (els.length + els'.length) * ie.size) (m := (ncap - (els.length + els'.length)) * ie.size) hM rfl hW
    have hs' := sim_moved (g := g) (b := g.w.heap.size) (off := 0 + (els.length + els'.length) * ie.size) (m := (ncap - (els.length + els'.length)) * ie.size) hM rfl hW sm (fun q hq => by
      have hlt : (els.length + els'.length) * ie.size + q < ((olds ++ news).toArray ++ rest).size := by
        rw [hsz];have : (els.length + els'.length) * ie.size + (ncap - (els.length + els'.length)) * ie.size = ncap * ie.size := by rw [← Nat.add_mul]; congr 1; omega
        omega
      refine ⟨((olds ++ news).toArray ++ rest)[(els.length + els'.length) * ie.size + q], ?_, ?_⟩
      · simp only [World.cell?, heap_push_new hW, Nat.zero_add];exact Array.getElem?_eq_getElem hlt
      · simp only [World.frozen?, heap_push_new hW];simp)
    refine ⟨_, _, hrun, Post.of rfl hs' ?_ hk'⟩
    have r := R.row (T := e) (size := ie.size) (els := els ++ els') (cap := ncap) (tok := .own t (ep + 1) ie.size) hW sm hal (by rw [hsz, hlen2]; exact Nat.mul_le_mul_right _ hge)
      (fun i j hi hj => by
        have hj' : j < ie.size := by rw [← hal i hi]; exact hj
        rw [hall];rcases row_get (olds := olds) (news := news) (rest := rest.toList) hol hi hj' (by omega) with ⟨h, e1, e2, _⟩ | ⟨h0, h, e1, e2⟩
        · rw [e2]; simp only [e1]; exact hor i j h (by rw [← e1]; exact hj)
        · rw [e2]; simp only [e1]; exact hn.rel _ j h (by rw [← e1]; exact hj))
      (fun i j hi hj => by
        rw [hall];rcases row_get (olds := olds) (news := news) (rest := rest.toList) hol hi hj (by omega) with ⟨h, e1, e2, hq⟩ | ⟨h0, h, e1, e2⟩
        · rw [e2]; exact getD_mem_one ho1 hq
        · rw [e2];refine getD_mem_one hn1 ?_;have : (i - els.length + 1) * ie.size ≤ els'.length * ie.size := Nat.mul_le_mul_right _ h;rw [Nat.add_mul] at this; omega)
      (by omega) (g' := g.put t (.room (ep + 1)) ⟨g.w.heap.size, 0 + (els.length + els'.length) * ie.size, (ncap - (els.length + els'.length)) * ie.size, nobs⟩ _) rfl hk'
      (fun q hq h => by
        rcases put_reg' h with h | ⟨i', o', _, h1, h2⟩ | ⟨_, h, _⟩
        · have := sm.inb _ (.inl h); simp at this
        · have := sm.inb _ (reg_of h1 h2); simp at this
        · simp only at h; rw [hlen2] at hq; omega)
      (by have := tok_put (g := g) (ep := ep) (b := g.w.heap.size) (off := 0) (n := els.length + els'.length) (cap := ncap) (s := ie.size) (w' := (g.w.drew.alloc (.cells ((olds ++ news).toArray ++ rest) e))) htl
          rw [hlen2]; exact this)
    rw [hlen2] at r;exact r
  cases hx with
  | @nil _ base ht =>
    by_cases h0 : els' = []
    · -- nothing is appended to nothing
      subst h0;have hnews : news = [] := List.eq_nil_of_length_eq_zero (by rw [hnl]; simp);subst hnews;have hcnt := (ht.2 ep hM).2 rfl;have hw : Wrote g.w g.w (g.ρ t).b (g.ρ t).off [] := ⟨fun j h => absurd h (by simp), fun _ _ => rfl, fun _ => rfl, fun _ _ => rfl, rfl, ⟨rfl, rfl⟩⟩;have k := keep_inplace (m := (g.ρ t).cnt) sm hM rfl (by simp) hw;have s' := sim_inplace (m := (g.ρ t).cnt) hM rfl (by simp) hw sm;refine ⟨.slice base 0 0, g.w, ?_, Post.of rfl s' (.nil _ ⟨by simpa using htl, fun e' he' => ?_⟩) k⟩
      · have hs := hn.src g.w rfl;have hlen := hs.len g.w;have hcl := hs.cells
        rcases hs.kind with ⟨e', hk'⟩ | hk' <;> simp only [List.length_nil] at hlen hcl <;> cases base <;>
          simp [Builtin.append_, run_underlying h2, run_underlying hk', sizeOf, typeInfo, q1, hlen, q4, hcl, storeCells]
      · rcases put_get he' with ⟨h, _⟩ | ⟨_, h⟩
        · exact absurd rfl h
        · cases h;exact ⟨Nat.le_refl _, fun _ => by simp [hcnt]⟩
    · refine grow base 0 [] rfl (by have := List.length_pos_iff.2 h0; simp; omega) ?_ (by simp) (fun i j hi => absurd hi (by simp)) (fun u hu => by cases hu);cases base with
      | none => exact run_firstCells_none g.w.drew _ _ _ _
      | some b => exact run_firstCells_some g.w.drew ie.size 0 b 0 0 [] (by simp) (fun q u hu => by simp at hu)
  | sl _ _ b off s cap xs hls c1 c2 c3 c4 ht hcap =>
    obtain ⟨rfl, _, ht2⟩ := ht;have hρ := (ht2 ep hM).2 rfl;by_cases hroom : els.length + els'.length ≤ cap
    · -- in place
      have hfl : news.length ≤ (cap - els.length) * ie.size := by rw [hnl]; exact Nat.mul_le_mul_right _ (by omega)
      have hfree : ∀ j, j < news.length → ∃ y, g.w.cell? ⟨b, off + els.length * ie.size + j, none⟩ = some y ∧ g.w.frozen? ⟨b, off + els.length * ie.size + j, none⟩ = false := fun j hj => by
        have := sm.room t ep hM j (by rw [hρ]; simp only; omega);rw [hρ] at this; exact this
      have hrun := run_append_room_src (P := P) g.w T tx rt e einfo h2 q1 b off els.length cap x els'.length news (by rw [q4]; exact hn.src g.w rfl) hroom
        (fun j hj => by obtain ⟨y, hy, _⟩ := hfree j hj; rw [q4, hy]; rfl) (fun j hj => by obtain ⟨y, _, hy⟩ := hfree j hj; rw [q4, hy])
      rw [q4] at hrun;have hw := wrote_setCells news g.w b (off + els.length * ie.size) (fun j hj => by obtain ⟨y, hy, _⟩ := hfree j hj; rw [hy]; rfl);have k := keep_inplace sm hM hρ hfl hw;have s' := sim_inplace hM hρ hfl hw sm;have e1 : off + els.length * ie.size + news.length = off + (els.length + els'.length) * ie.size := by rw [hnl, Nat.add_mul]; omega
      have e2 : (cap - els.length) * ie.size - news.length = (cap - (els.length + els'.length)) * ie.size := by rw [hnl, ← Nat.sub_mul]; congr 1; omega
      rw [e1, e2] at k s';refine ⟨_, _, hrun, Post.of rfl s' ?_ k⟩;have hlen2 : (els ++ els').length = els.length + els'.length := by simp
      have hold : ∀ q, q < els.length * ie.size → (g.w.setCells b (off + els.length * ie.size) news).cell? ⟨b, off + q, none⟩ = g.w.cell? ⟨b, off + q, none⟩ := fun q hq => hw.cells _ (by simp only; omega)
      have r : R (g.put t (.room (ep + 1)) ⟨b, off + (els.length + els'.length) * ie.size, (cap - (els.length + els'.length)) * ie.size, nobs⟩ (g.w.setCells b (off + els.length * ie.size) news))
          (.sl (els ++ els') (.own t (ep + 1) ie.size)) (.slice (some ⟨b, off, none⟩) (els ++ els').length cap) := by
        have hlt : ∀ i j, i < els.length → j < ie.size → i * ie.size + j < els.length * ie.size := fun i j hi hj => by
          have : (i + 1) * ie.size ≤ els.length * ie.size := Nat.mul_le_mul_right _ hi;rw [Nat.add_mul] at this; omega
        have hlt' : ∀ i j, i < els'.length → j < ie.size → i * ie.size + j < news.length := fun i j hi hj => by
          have : (i + 1) * ie.size ≤ els'.length * ie.size := Nat.mul_le_mul_right _ hi;rw [Nat.add_mul] at this; omega
        have hpos : ∀ i j, els.length ≤ i → off + i * ie.size + j = off + els.length * ie.size + ((i - els.length) * ie.size + j) := fun i j h => by
          have : els.length * ie.size ≤ i * ie.size := Nat.mul_le_mul_right _ h;rw [Nat.sub_mul]; omega
        refine .sl _ _ b off ie.size cap (fun i j => if i < els.length then xs i j else news.getD ((i - els.length) * ie.size + j) undef) hal (fun i j hi hj => ?_) (fun i j hi hj => ?_) (fun i j hi hj => ?_) (fun i j hi hj => ?_)
          (by rw [hlen2]; exact tok_put htl) (by omega)
        · simp only [G.put];split
          · rename_i h;rw [Nat.add_assoc, hold _ (hlt i j h hj), ← Nat.add_assoc]; exact c1 i j h hj
          · rename_i h;have hq := hlt' (i - els.length) j (by omega) hj;rw [hpos i j (by omega), hw.here _ hq];simp [List.getD, hq]
        · intro hr;by_cases h : i < els.length
          · rcases put_reg' hr with h1 | ⟨i', o', _, h1, h2⟩ | ⟨_, h1, h2⟩
            · exact c2 i j h hj (.inl h1)
            · exact c2 i j h hj (reg_of h1 h2)
            · simp only at h1;have := hlt i j h hj;rw [Nat.add_mul] at h1; omega
          · rcases put_reg' hr with h1 | ⟨i', o', hne, h1, h2⟩ | ⟨_, h1, h2⟩
            · have hq := hlt' (i - els.length) j (by omega) hj;refine sm.xdis _ h1 ⟨t, _, hM, ?_⟩;rw [hρ];exact ⟨rfl, by simp only; rw [hpos i j (by omega)]; omega, by simp only; rw [hpos i j (by omega)]; omega⟩
            · -- it was in this token's region
              have hq := hlt' (i - els.length) j (by omega) hj;refine hne (sm.disj i' t o' _ _ h1 hM h2 ?_);rw [hρ];exact ⟨rfl, by simp only; rw [hpos i j (by omega)]; omega, by simp only; rw [hpos i j (by omega)]; omega⟩
            · simp only at h1;have hq := hlt' (i - els.length) j (by omega) hj;rw [hpos i j (by omega)] at h1;rw [Nat.add_mul] at h1; omega
        · have hj' : j < ie.size := by rw [← hal i hi]; exact hj
          split
          · rename_i h;have e : (els ++ els')[i] = els[i] := by simp [h]
            simp only [e];exact (c3 i j h (by rw [← e]; exact hj)).keep k
          · rename_i h;have h' : i - els.length < els'.length := by omega
            have e : (els ++ els')[i] = els'[i - els.length] := by simp [List.getElem_append, h]
            simp only [e];exact (hn.rel _ j h' (by rw [← e]; exact hj)).keep k
        · split
          · rename_i h; exact c4 i j h hj
          · rename_i h; exact getD_mem_one hn1 (hlt' _ _ (by omega) hj)
      rw [hlen2] at r;exact r
    · -- no room
      refine grow (some ⟨b, off, none⟩) cap (flat els.length ie.size xs) rfl (by omega) ?_ (flat_len _ _ _) (fun i j hi hj => ?_) (fun u hu => ?_)
      · refine run_firstCells_some g.w.drew ie.size els.length ⟨b, off, none⟩ els.length cap _ (flat_len _ _ _) (fun q u hu => ?_);obtain ⟨q1, q2, q3, rfl⟩ := flat_inv hu;have := c1 _ _ q1 q2;rw [addr_add, cell_heap (w := g.w) (w' := g.w.drew) rfl];simpa [Nat.add_assoc, q3] using this
      · have hj' : j < ie.size := by rw [← hls i hi]; exact hj
        rw [List.getD_eq_getElem?_getD, flat_get hi hj'];exact c3 i j hi hj
      · obtain ⟨q, hq⟩ := List.mem_iff_getElem?.1 hu;obtain ⟨q1, q2, q3, rfl⟩ := flat_inv hq;exact c4 _ _ q1 q2
theorem R.equip {g : G} {els : List (List AV)} {a : Value} (h : R g (.sl els .full) a) (size : Nat) (hs : ∀ q ∈ els, q.length = size) :
    ∃ r : Room, r.cnt = 0 ∧ R (g.equip r) (.sl els (.own g.M.length 0 size)) a := by
  cases h with
  | nil =>
    refine ⟨⟨0, 0, 0, nobs⟩, rfl, .nil _ ⟨by simp [G.equip], fun e he => ?_⟩⟩;rcases add_get he with ⟨h, _⟩ | ⟨_, h⟩
    · omega
    · cases h; exact ⟨Nat.le_refl _, fun _ => by simp [G.equip]⟩
  | sl _ _ b off s cap xs hls c1 c2 c3 c4 ht hcap =>
    have ht' : cap = els.length := ht;refine ⟨⟨b, off + els.length * size, (cap - els.length) * size, nobs⟩, by simp only; rw [ht']; simp, ?_⟩;have hc0 : (⟨b, off + els.length * size, (cap - els.length) * size, nobs⟩ : Room).cnt = 0 := by simp only; rw [ht']; simp
    have k := keep_equip (g := g) (ep := 0) hc0;refine .sl els _ b off size cap xs (fun i hi => hs _ (List.getElem_mem hi)) ?_ ?_ (fun i j hi hj => (c3 i j hi hj).keep k) ?_ ⟨rfl, by simp [G.equip], fun e he => ?_⟩ hcap
    · intro i j hi hj;have hse : s = size := by rw [← hls i hi]; exact hs _ (List.getElem_mem hi)
      subst hse; exact c1 i j hi hj
    · intro i j hi hj hr;have hse : s = size := by rw [← hls i hi]; exact hs _ (List.getElem_mem hi)
      subst hse; exact c2 i j hi hj (equip_reg hc0 hr)
    · intro i j hi hj;have hse : s = size := by rw [← hls i hi]; exact hs _ (List.getElem_mem hi)
      subst hse; exact c4 i j hi hj
    · rcases add_get he with ⟨h, _⟩ | ⟨_, h⟩
      · omega
      · cases h; exact ⟨Nat.le_refl _, fun _ => by simp [G.equip]⟩
theorem Appd.keep {P : Program} {g g' : G} {size : Nat} {tx : TypeId} {x : Value} {els : List (List AV)} {news : List Value} (h : Appd P g size tx x els news) (k : Keep g g') (hw : g'.w = g.w) : Appd P g' size tx x els news :=
  ⟨fun w hw' => h.src w (by rw [hw', hw]), h.len, fun i j hi hj => (h.rel i j hi hj).keep k⟩
theorem Post.trans {g g1 : G} {o : Out} {v : Value} {w' : World} (k : Keep g g1) (h : Post g1 o v w') {o' : Out} (hav : o'.av = o.av) (hM : o'.M = some (o.M.getD g1.M)) (hX : g1.X = g.X) : Post g o' v w' := by
  obtain ⟨β, ρ, h1, h2, h3⟩ := h;have e : g.out o'.M β ρ w' = g1.out o.M β ρ w' := by simp [G.out, hM, hX]
  exact ⟨β, ρ, by rw [e]; exact h1, by rw [e, hav]; exact h2, by rw [e]; exact k.trans h3⟩
theorem app_bytes {a b c : Nat} (h : ((a : Int) + b) * c ≤ 140737488355328) : (a + b) * c ≤ 140737488355328 := by
  have e : (((a + b) * c : Nat) : Int) = ((a : Int) + b) * c := by simp
  rw [← e] at h;generalize (a + b) * c = p at *
  omega
theorem heap_eq {w w' : World} (h : ∀ b : Nat, w'.heap[b]? = w.heap[b]?) : w'.heap = w.heap := Array.ext_getElem? h
theorem append_arr_runs {P : Program} {ty : TyTab} (hty : TyOk P ty) {T : TypeId} {i : TyI} (hi : ty T = some i) {e : TypeId} (hk : i.k = .slice e) {ie : TyI} (hie : ty e = some ie) {tx rt : TypeId}
    {g : G} {els' : List (List AV)} {a x : Value} {news : List Value} (sm : Sim g) (hx : R g (.sl [] .full) a)
    (hn : Appd P g ie.size tx x els' news) (hb : els'.length * ie.bytes ≤ 140737488355328) (hl : els'.length ≤ 4611686018427387904) (_hz0 : ie.zero.length = ie.size) :
    Runs P (Builtin.append_ #[T, tx] rt #[a, x]) g { av := .asl g.M.length (lenL els') ie.size, M := some (g.M ++ [.arr ie.size els']) } := by
  obtain ⟨info, d, z, h1, h2, h3, _⟩ := hty.facts hi;have := kind_slice (h3.trans hk); subst this;obtain ⟨einfo, ed, zv, q1, _, _, q4, q5, q6, q7, q8⟩ := hty.facts hie;have hnl := appd_len hn;have hn1 := appd_one hn
  have same : ∀ (base : Option Addr), a = .slice base 0 0 → ((0 : Nat) = 0 ∨ ∃ b off, base = some ⟨b, off, none⟩) → els' = [] → (∃ w', (Builtin.append_ #[T, tx] rt #[a, x]).run P g.w = .ok (.slice base 0 0) w' ∧ w'.heap = g.w.heap ∧ SameIO g.w w') →
      Runs P (Builtin.append_ #[T, tx] rt #[a, x]) g { av := .asl g.M.length (lenL els') ie.size, M := some (g.M ++ [.arr ie.size els']) } := by
    intro base ha hbz h0 ⟨w', hrun, hh, hio⟩;subst h0;have k1 := keep_heap (g := g) hh hio;have s1 := sim_heap (g := g) hh sm hio;have k2 := keep_mark (g := { g with w := w' }) (z := ie.size) (b := 0);have s2 := sim_mark (z := ie.size) (b := 0) s1;exact ⟨_, w', hrun, Post.of (β := upd g.β g.M.length 0) (ρ := g.ρ) rfl s2 (.asl (g := (G.mark { g with w := w' } ie.size 0)) g.M.length _ _ 0 0 base (by simp [G.mark]) rfl (Nat.le_refl _) hbz (fun h => absurd h (Nat.lt_irrefl _))) (k1.trans k2)⟩
  have grow : ∀ (base : Option Addr), a = .slice base 0 0 → els' ≠ [] → ((Builtin.firstCells ie.size 0 (.slice base 0 0)).run P g.w.drew = .ok #[] g.w.drew) →
      Runs P (Builtin.append_ #[T, tx] rt #[a, x]) g { av := .asl g.M.length (lenL els') ie.size, M := some (g.M ++ [.arr ie.size els']) } := by
    intro base ha hne hold;subst ha;have hpos : 0 < els'.length := List.length_pos_iff.2 hne
    have hfit : Builtin.nextslicecap (0 + els'.length) 0 * einfo.bytes ≤ 281474976710656 := by
      have h4 : Builtin.nextslicecap (0 + els'.length) 0 * ie.bytes ≤ 2 * (0 + els'.length) * ie.bytes := Nat.mul_le_mul_right _ (next_le (0 + els'.length) 0 (by omega));rw [Nat.mul_assoc, Nat.zero_add] at h4;rw [q5, Nat.zero_add];omega
    have hrun := run_append_grow_src (P := P) g.w T tx rt e einfo zv h2 q1 q6 base 0 0 [] (by rw [q4]; exact hold) x els'.length news (by rw [q4]; exact hn.src g.w rfl) (by omega) (by omega) hfit
    have hge : els'.length ≤ grownCap g.w (0 + els'.length) 0 e := by
      unfold grownCap Question.cut; simp only; omega
    generalize grownCap g.w (0 + els'.length) 0 e = ncap at hrun hge;generalize hrest : Builtin.zeroCells zv.cells (ncap - (0 + els'.length)) = rest at hrun;simp only [List.nil_append, Nat.zero_add] at hrun
    let w' := g.w.drew.alloc (.cells (news.toArray ++ rest) e)
    have hW : w'.heap = g.w.heap.push (.cells (news.toArray ++ rest) e) := rfl;have hc : ∀ a, (AObj.arr ie.size els').covers g.w.heap.size (⟨0, 0, 0, nobs⟩ : Room) a → a.block = g.w.heap.size := fun a ha => ha.2
    have hget : ∀ p q, p < els'.length → q < ie.size → p * ie.size + q < news.length := fun p q hp hq => by
      rw [hnl];have : (p + 1) * ie.size ≤ els'.length * ie.size := Nat.mul_le_mul_right _ hp;rw [Nat.add_mul] at this; omega
    have hall : ∀ q, q < news.length → (news.toArray ++ rest).getD q undef = news.getD q undef := fun q hq => by
      rw [Array.getD_eq_getD_getElem?, List.getD_eq_getElem?_getD, Array.getElem?_append_left (by simpa using hq)]; simp
    have k := keep_add (g := g) (ao := .arr ie.size els') (r := ⟨0, 0, 0, nobs⟩) (w' := w') hW hc
    have s' := sim_add (g := g) (ao := .arr ie.size els') (r := ⟨0, 0, 0, nobs⟩) (w' := w') hW hc sm
      (fun cs hcs => by cases hcs) (fun _ _ h => by cases h) (fun _ h => by cases h)
      (harr := fun z es h => by
        simp only [AObj.arr.injEq] at h;obtain ⟨rfl, rfl⟩ := h;refine .inr ⟨_, _, rfl, fun r hr => ?_, fun p q r b hp hq => ?_⟩
        · obtain ⟨j, hj, e⟩ := List.mem_iff_getElem.1 hr;rw [← e]; exact hn.len j hj
        · obtain ⟨hp1, hp2⟩ := List.getElem?_eq_some_iff.1 hp;obtain ⟨hq1, hq2⟩ := List.getElem?_eq_some_iff.1 hq;subst hp2;have hqs : q < ie.size := by rw [← hn.len p hp1]; exact hq1
          have hlt := hget p q hp1 hqs;rw [hall _ hlt];refine ⟨by simp; omega, ?_, getD_mem_one hn1 hlt⟩;rw [← hq2]; exact hn.rel p q hp1 hq1)
    have hr : R (g.add (.arr ie.size els') ⟨0, 0, 0, nobs⟩ w') (.asl g.M.length (lenL els') ie.size) (.slice (some ⟨g.w.heap.size, 0, none⟩) els'.length ncap) :=
      .asl _ _ _ _ _ _ (by simp [G.add]) rfl hge (.inr ⟨_, _, rfl⟩) (fun _ => by simp [G.add])
    exact ⟨_, w', hrun, Post.of rfl s' hr k⟩
  cases hx with
  | @nil _ base ht =>
    by_cases h0 : els' = []
    · refine same base rfl (.inl rfl) h0 ?_;subst h0;have hnews : news = [] := List.eq_nil_of_length_eq_zero (by rw [hnl]; simp);subst hnews;refine ⟨g.w, ?_, rfl, ⟨rfl, rfl⟩⟩;have hs := hn.src g.w rfl;have hlen := hs.len g.w;have hcl := hs.cells
      rcases hs.kind with ⟨e', hk'⟩ | hk' <;> simp only [List.length_nil] at hlen hcl <;> cases base <;>
        simp [Builtin.append_, run_underlying h2, run_underlying hk', sizeOf, typeInfo, q1, hlen, q4, hcl, storeCells]
    · refine grow base rfl h0 ?_;cases base with
      | none => exact run_firstCells_none g.w.drew _ _ _ _
      | some b => exact run_firstCells_some g.w.drew ie.size 0 b 0 0 [] (by simp) (fun q u hu => by simp at hu)
  | sl _ _ b off s cap xs hls c1 c2 c3 c4 ht hcap =>
    have hc0 : cap = 0 := ht;subst hc0;by_cases h0 : els' = []
    · refine same _ rfl (.inr ⟨_, _, rfl⟩) h0 ?_;subst h0;have hnews : news = [] := List.eq_nil_of_length_eq_zero (by rw [hnl]; simp);subst hnews;have hrun := run_append_room_src (P := P) g.w T tx rt e einfo h2 q1 b off 0 0 x 0 [] (by rw [q4]; exact hn.src g.w rfl) (Nat.le_refl _) (fun j hj => by simp at hj) (fun j hj => by simp at hj);have hw := wrote_setCells [] g.w b (off + 0 * einfo.size) (fun j hj => by simp at hj);exact ⟨_, hrun, heap_eq fun b' => hw.blocks b' (.inr rfl), hw.io⟩
    · refine grow (some ⟨b, off, none⟩) rfl h0 ?_;exact run_firstCells_some g.w.drew ie.size 0 ⟨b, off, none⟩ 0 0 [] (by simp) (fun q u hu => by simp at hu)
theorem appendOut_runs {P : Program} {ty : TyTab} (hty : TyOk P ty) {T : TypeId} {i : TyI} (hi : ty T = some i) {e : TypeId} (hk : i.k = .slice e) {ie : TyI} (hie : ty e = some ie) {tx rt : TypeId}
    {g : G} {els' : List (List AV)} {x : AV} {a y : Value} {news : List Value} {o : Out} (h : appendOut ie g.M x els' = some o) (ho : o.obl) (sm : Sim g) (hx : R g x a)
    (hn : Appd P g ie.size tx y els' news) : Runs P (Builtin.append_ #[T, tx] rt #[a, y]) g o := by
  unfold appendOut at h;split at h
  · split at h
    · rename_i els t ep s _ ep' hM;split at h
      · rename_i hc;obtain ⟨rfl, rfl⟩ := hc;cases h;obtain ⟨o1, o2, ⟨o3, o4⟩, o5⟩ := ho;unfold lenL at o3 o4;obtain ⟨v, w', r, p⟩ := append_own_runs (rt := rt) hty hi hk hie sm hx hM hn o1 (app_bytes o3) (by omega) o5;exact ⟨v, w', r, p⟩
      · cases h
    · cases h
  · rename_i els;split at h
    · cases els with
      | cons _ _ => cases h
      | nil =>
        cases h;obtain ⟨o2, ⟨o3, o4⟩, o5⟩ := ho;unfold lenL at o3 o4;obtain ⟨v, w', r, p⟩ := append_arr_runs (rt := rt) hty hi hk hie sm hx hn (by have := app_bytes (a := 0) (by simpa using o3); simpa using this) (by omega) o5;exact ⟨v, w', r, p⟩
    cases h;obtain ⟨o1, o2, ⟨o3, o4⟩, o5⟩ := ho;unfold lenL at o3 o4;obtain ⟨r, hr, hx'⟩ := hx.equip ie.size o1;have k := keep_equip (g := g) (ep := 0) hr;obtain ⟨v, w', hrun, p⟩ := append_own_runs (rt := rt) hty hi hk hie (sim_equip hr sm) hx' (by simp [G.equip]) (hn.keep k rfl) o1 (app_bytes o3) (by omega) o5;refine ⟨v, w', hrun, Post.trans k p rfl ?_ rfl⟩;simp [G.equip]
  · cases h
theorem kind_map {d : TypeDesc} {k e : TypeId} (h : kindOf d = .map k e) : d = .map k e := by cases d <;> simp_all [kindOf]
def rangeOut (kt : TyK) (M : List AObj) (x : AV) : Option Out :=
  match kt, x with
  | .str, .lit (.string s) => some { av := .it M.length, M := some (M ++ [.iter s 0]) }
  | .map _ _, .mp i => match M[i]? with
    | some (.mapo es) => some { av := .it M.length, M := some ((M ++ [AObj.dead]).set i (.mapr es [] none M.length)) }
    | _ => none
  | _, _ => none
theorem rangeOut_runs {P : Program} {ty : TyTab} (hty : TyOk P ty) {T : TypeId} {i : TyI} (hi : ty T = some i) {g : G} {x : AV} {a : Value} {o : Out} (h : rangeOut i.k g.M x = some o) (sm : Sim g) (hx : R g x a) :
    Runs P (Instr.range T a) g o := by
  obtain ⟨info, d, z, h1, h2, h3, _⟩ := hty.facts hi;unfold rangeOut at h;split at h
  · rename_i s hk;have := kind_str (h3.trans hk); subst this;have := hx.lit_inv; subst this;cases h;have hc : ∀ a, (AObj.iter s 0).covers g.w.heap.size (⟨0, 0, 0, nobs⟩ : Room) a → a.block = g.w.heap.size := fun a ha => ha;have k := keep_add (g := g) (ao := .iter s 0) (r := ⟨0, 0, 0, nobs⟩) (w' := { g.w with heap := g.w.heap.push (.stringIter s 0) }) rfl hc
    have s' := sim_add (g := g) (ao := .iter s 0) (r := ⟨0, 0, 0, nobs⟩) (w' := { g.w with heap := g.w.heap.push (.stringIter s 0) }) rfl hc sm
      (fun cs hcs => by cases hcs) (fun _ _ h => by cases h; rfl) (fun _ h => by cases h)
    refine ⟨.pointer (some ⟨g.w.heap.size, 0, none⟩), { g.w with heap := g.w.heap.push (.stringIter s 0) }, ?_, Post.of rfl s' ?_ k⟩
    · simp [Instr.range, run_underlying h2]
    · have hr : R (g.add (.iter s 0) ⟨0, 0, 0, nobs⟩ { g.w with heap := g.w.heap.push (.stringIter s 0) }) (.it g.M.length) (.pointer (some ⟨(g.add (.iter s 0) ⟨0, 0, 0, nobs⟩ { g.w with heap := g.w.heap.push (.stringIter s 0) }).β g.M.length, 0, none⟩)) :=
        .it _ (by simp [G.add])
      simp only [G.add, upd_same] at hr;exact hr
  · rename_i kk ek j hk;split at h
    · rename_i es hM;have := kind_map (h3.trans hk); subst this;cases h;cases hx with
      | mp _ hj =>
      obtain ⟨o1, hb, hrel⟩ := sm.mapo j es hM;obtain ⟨ents, clock, rfl, hst, hl, hes⟩ := hrel;have hrun := run_range_map (P := P) g.w T kk ek (g.β j) ents clock h2 hb;have hjlt := mapo_lt sm hM
      have hM' : (g.hole g.w.heap.size).M[j]? = some (.mapo es) := by
        show (g.M ++ [AObj.dead])[j]? = _;rw [List.getElem?_append_left hj]; exact hM
      have hβ : (g.hole g.w.heap.size).β j = g.β j := upd_other _ _ (Nat.ne_of_lt hj);have s0 : Sim (g.hole g.w.heap.size) := sim_hole sm;have hW : (g.w.alloc (.mapIter (some (g.β j)) clock #[] clock)).heap = g.w.heap.push (.mapIter (some (g.β j)) clock #[] clock) := rfl
      have hin : Within (g.hole g.w.heap.size) j (.mapr es [] none g.M.length) ⟨g.w.heap.size, 0, 0, nobs⟩ := fun a ha => by
        rcases ha with ha | ha
        · exact .inl ⟨_, hM', ha⟩
        · exact .inr (Nat.le_of_eq ha.symm)
      have hsz : (g.hole g.w.heap.size).w.heap.size ≤ (g.w.alloc (.mapIter (some (g.β j)) clock #[] clock)).heap.size := by rw [hW]; simp [G.hole]
      have hoth : ∀ b, b < (g.hole g.w.heap.size).w.heap.size → ¬ (AObj.mapo es).whole ((g.hole g.w.heap.size).β j) ((g.hole g.w.heap.size).ρ j) b → (g.w.alloc (.mapIter (some (g.β j)) clock #[] clock)).heap[b]? = (g.hole g.w.heap.size).w.heap[b]? :=
        fun b hb _ => heap_push hW hb
      have k := (keep_hole (g := g) (b := g.w.heap.size)).trans (keep_turn s0 hM' (fun _ h => h) hin hsz hoth ⟨rfl, rfl⟩)
      have s' := sim_turn (q := .map ents clock) (qi := .mapIter (some (g.β j)) clock #[] clock) s0 hM' (fun _ h => h) hin hsz hoth ⟨rfl, rfl⟩ (by rw [hW]; simp) (by simp [G.hole]) (by simp [G.hole])
        (by rw [hβ]; exact (heap_push hW hjlt).trans hb) (heap_push_new hW)
        ⟨ents, clock, #[], rfl, by rw [hβ], MapRel.keep keep_hole ⟨ents, clock, rfl, hst, hl, hes⟩, fun x _ => by simp, fun _ h => by cases h⟩
      refine ⟨_, _, hrun, Post.of rfl s' ?_ k⟩
      have hr : R ((g.hole g.w.heap.size).put j (.mapr es [] none g.M.length) ⟨g.w.heap.size, 0, 0, nobs⟩ (g.w.alloc (.mapIter (some (g.β j)) clock #[] clock))) (.it g.M.length) (.pointer (some ⟨(g.hole g.w.heap.size).β g.M.length, 0, none⟩)) :=
        .it _ (by simp [G.put, G.hole])
      have e : (g.hole g.w.heap.size).β g.M.length = g.w.heap.size := upd_same ..;rw [e] at hr;exact hr
    · cases h
  · cases h
theorem run_getObj_iter {P : Program} {w : World} {r : Nat} {s : ByteArray} {pos : Nat} (h : w.heap[r]? = some (.stringIter s pos)) : (getObj r).run P w = .ok (.stringIter s pos) w := by
  simp only [getObj, Sem.run, h]
theorem run_setObj_iter {P : Program} {w : World} {r : Nat} {s : ByteArray} {pos : Nat} {o : Obj} (h : w.heap[r]? = some (.stringIter s pos)) : (setObj r o).run P w = .ok () { w with heap := w.heap.setIfInBounds r o } := by
  simp only [setObj, Sem.run, h]
def nextB (s : ByteArray) (pos : Nat) : Bool := decide (pos < s.size)
def posI (pos : Nat) : Int := pos
def runeS (s : ByteArray) (pos : Nat) : Int := (Utf8.decode s pos).1
def stepS (s : ByteArray) (pos : Nat) : Nat := pos + (Utf8.decode s pos).2
def nextOut (M : List AObj) (x : AV) : Option Out :=
  match x with
  | .it i => match M[i]? with
    | some (.iter s pos) => some (match nextB s pos with
      | true => { av := .tup [.lit (.bool true), .lit (.int .i64 (posI pos)), .lit (.int .i32 (runeS s pos))], M := some (M.set i (.iter s (stepS s pos))) }
      | false => { av := .tup [.lit (.bool false)], M := some M })
    | _ => none
  | _ => none
theorem nextOut_runs {P : Program} {g : G} {x : AV} {a : Value} {o : Out} {rt : TypeId} (h : nextOut g.M x = some o) (sm : Sim g) (hx : R g x a) : Runs P (Instr.next a true rt) g o := by
  unfold nextOut at h;split at h
  · rename_i i;split at h
    · rename_i s pos hM;cases h;cases hx with
      | it _ hi =>
      have hh := sm.iter i s pos hM;cases hn : nextB s pos with
      | true =>
        have hp : pos < s.size := by simpa [nextB] using hn
        refine ⟨.tuple #[.bool true, .int .i64 pos, .int .i32 (Utf8.decode s pos).1], { g.w with heap := g.w.heap.setIfInBounds (g.β i) (.stringIter s (pos + (Utf8.decode s pos).2)) }, ?_, Post.of rfl (sim_iter hM sm) (.tup _ _ rfl fun j hj => ?_) (keep_iter sm hM)⟩
        · simp only [Instr.next, Sem.run_bind, run_getObj_iter hh, Result.andThen_ok, hp, if_true, run_setObj_iter hh, Sem.run_pure, goInt]
        · match j, hj with
          | 0, _ => exact .lit _
          | 1, _ => exact .lit _
          | 2, _ => exact .lit _
      | false =>
        have hp : ¬ pos < s.size := by simpa [nextB] using hn
        refine ⟨.tuple #[.bool false], g.w, ?_, Post.of rfl sm (.tup _ _ rfl fun j hj => ?_) (Keep.refl g)⟩
        · simp only [Instr.next, Sem.run_bind, run_getObj_iter hh, Result.andThen_ok, hp, if_false, Sem.run_pure]
        · match j, hj with
          | 0, _ => exact .lit _
    · cases h
  · cases h
def makeOut (ie : TyI) (l c : AV) : Option Out :=
  match l, c with
  | .lit (.int _ n), .lit (.int _ m) => some { av := .sl (repL n ie.zero) .full, obl := RepB n m ie.bytes ∧ ie.zero.length = ie.size }
  | _, _ => none
theorem makeOut_runs {P : Program} {ty : TyTab} (hty : TyOk P ty) {T : TypeId} {i : TyI} (hi : ty T = some i) {e : TypeId} (hk : i.k = .slice e) {ie : TyI} (hie : ty e = some ie)
    {g : G} {l c : AV} {a b : Value} {o : Out} (h : makeOut ie l c = some o) (ho : o.obl) (sm : Sim g) (hl : R g l a) (hc : R g c b) : Runs P (Instr.makeSlice T a b) g o := by
  obtain ⟨info, d, z, h1, h2, h3, _⟩ := hty.facts hi;have := kind_slice (h3.trans hk); subst this;obtain ⟨einfo, ed, zv, q1, _, _, q4, q5, q6, q7, q8⟩ := hty.facts hie;unfold makeOut at h;split at h
  · rename_i k n k' m;have := hl.lit_inv; subst this;have := hc.lit_inv; subst this;cases h;obtain ⟨⟨o1, rfl, o3, o4⟩, o5⟩ := ho;have hzs : zv.cells.size = ie.size := by rw [← o5, q7]; simp
    have hrun := run_make (P := P) g.w T e einfo zv h2 q1 q6 k k' n n o1 (Int.le_refl _) (by rw [q5]; exact o3) o4;rw [q4] at hrun
    have hn0 : n.toNat * ie.size = 0 ∨ 0 < zv.cells.size := by
      rcases Nat.eq_zero_or_pos (n.toNat * ie.size) with h | h
      · exact .inl h
      · right; rw [hzs]; exact Nat.pos_of_mul_pos_left h
    have hz : CellsRel g (zeros (n.toNat * ie.size) ie.zero) (madeCells zv.cells (n.toNat * ie.size)) := by rw [q7]; exact zeros_rel zv q8 _ hn0
    have hW : (g.w.alloc (.cells (madeCells zv.cells (n.toNat * ie.size)) e)).heap = g.w.heap.push (.cells (madeCells zv.cells (n.toNat * ie.size)) e) := rfl;have hzl : (zeros (n.toNat * ie.size) ie.zero).length = n.toNat * ie.size := by simp [zeros]
    have hlt : ∀ i j, i < n.toNat → j < ie.size → i * ie.size + j < n.toNat * ie.size := fun i j hi hj => by
      have : (i + 1) * ie.size ≤ n.toNat * ie.size := Nat.mul_le_mul_right _ hi;rw [Nat.add_mul] at this; omega
    have r := R.row (T := e) (els := List.replicate n.toNat ie.zero) (size := ie.size) (cap := n.toNat) (tok := .full) hW sm (fun i hi => by simp [o5]) (by simp; rw [hz.1, hzl]; exact Nat.le_refl _)
      (fun i j hi hj => by
        have hi' : i < n.toNat := by simpa using hi
        have hj' : j < ie.size := by simpa [o5] using hj
        have hq := hlt i j hi' hj';have := hz.2.1 (i * ie.size + j) (by rw [hzl]; exact hq)
        have e1 : (zeros (n.toNat * ie.size) ie.zero)[i * ie.size + j]'(by rw [hzl]; exact hq) = (List.replicate n.toNat ie.zero)[i][j] := by
          have em : (i * ie.size + j) % ie.size = j := by rw [Nat.mul_comm, Nat.mul_add_mod, Nat.mod_eq_of_lt hj']
          simp [zeros, o5, em, hj']
        rw [e1] at this; exact this)
      (fun i j hi hj => hz.2.2 _ (by rw [hzl]; exact hlt i j (by simpa using hi) hj)) (by simp) (g' := { g with w := g.w.alloc (.cells (madeCells zv.cells (n.toNat * ie.size)) e) }) rfl (keep_push rfl)
      (fun o _ => no_reg_new sm o) (by simp [TokOk])
    simp only [List.length_replicate] at r;exact ⟨_, _, hrun, ⟨g.β, g.ρ, sim_push rfl sm, r, keep_push rfl⟩⟩
  · cases h
def makeOutB (ie : TyI) (M : List AObj) (l c : AV) : Option Out :=
  match l, c with
  | .lit (.int _ n), .lit (.int _ m) => if ie.size = 1 then some { av := .slb M.length n, M := some (M ++ [.blk (zeros (n.toNat * ie.size) ie.zero)]), obl := RepB n m ie.bytes ∧ ie.zero.length = ie.size ∧ ie.size = 1 }
    else some { av := .asl M.length n ie.size, M := some (M ++ [.arr ie.size (repL n ie.zero)]), obl := RepB n m ie.bytes ∧ ie.zero.length = ie.size }
  | _, _ => none
theorem makeOutB_runs {P : Program} {ty : TyTab} (hty : TyOk P ty) {T : TypeId} {i : TyI} (hi : ty T = some i) {e : TypeId} (hk : i.k = .slice e) {ie : TyI} (hie : ty e = some ie)
    {g : G} {l c : AV} {a b : Value} {o : Out} (h : makeOutB ie g.M l c = some o) (ho : o.obl) (sm : Sim g) (hl : R g l a) (hc : R g c b) : Runs P (Instr.makeSlice T a b) g o := by
  obtain ⟨info, d, z, h1, h2, h3, _⟩ := hty.facts hi;have := kind_slice (h3.trans hk); subst this;obtain ⟨einfo, ed, zv, q1, _, _, q4, q5, q6, q7, q8⟩ := hty.facts hie;unfold makeOutB at h;split at h
  · rename_i k n k' m;have := hl.lit_inv; subst this;have := hc.lit_inv; subst this;split at h
    · cases h;obtain ⟨⟨o1, rfl, o3, o4⟩, o5, o6⟩ := ho;have hzs : zv.cells.size = ie.size := by rw [← o5, q7]; simp
      have hrun := run_make (P := P) g.w T e einfo zv h2 q1 q6 k k' n n o1 (Int.le_refl _) (by rw [q5]; exact o3) o4;rw [q4] at hrun;have hz : CellsRel g (zeros (n.toNat * ie.size) ie.zero) (madeCells zv.cells (n.toNat * ie.size)) := by rw [q7]; exact zeros_rel zv q8 _ (.inr (by rw [hzs]; omega))
      refine ⟨_, _, hrun, ?_⟩;have hcv : ∀ a, (AObj.blk (zeros (n.toNat * ie.size) ie.zero)).covers g.w.heap.size (⟨0, 0, 0, nobs⟩ : Room) a → a.block = g.w.heap.size := fun a ha => ha;have k := keep_add (g := g) (ao := .blk (zeros (n.toNat * ie.size) ie.zero)) (r := ⟨0, 0, 0, nobs⟩) (w' := g.w.alloc (.cells (madeCells zv.cells (n.toNat * ie.size)) e)) rfl hcv
      have s' := sim_add (g := g) (ao := .blk (zeros (n.toNat * ie.size) ie.zero)) (r := ⟨0, 0, 0, nobs⟩) (w' := g.w.alloc (.cells (madeCells zv.cells (n.toNat * ie.size)) e)) rfl hcv sm
        (fun cs hcs => by cases hcs; exact ⟨_, e, rfl, hz⟩) (fun _ _ h => by cases h) (fun _ h => by cases h)
      refine Post.of rfl s' ?_ k
      have hr : R (g.add (.blk (zeros (n.toNat * ie.size) ie.zero)) ⟨0, 0, 0, nobs⟩ (g.w.alloc (.cells (madeCells zv.cells (n.toNat * ie.size)) e))) (.slb g.M.length n)
          (.slice (some ⟨(g.add (.blk (zeros (n.toNat * ie.size) ie.zero)) ⟨0, 0, 0, nobs⟩ (g.w.alloc (.cells (madeCells zv.cells (n.toNat * ie.size)) e))).β g.M.length, 0, none⟩) n.toNat n.toNat) :=
        .slb _ _ _ (by simp [G.add]) (by omega)
      simp only [G.add, upd_same] at hr;exact hr
    · cases h;obtain ⟨⟨o1, rfl, o3, o4⟩, o5⟩ := ho;have hzs : zv.cells.size = ie.size := by rw [← o5, q7]; simp
      have hrun := run_make (P := P) g.w T e einfo zv h2 q1 q6 k k' n n o1 (Int.le_refl _) (by rw [q5]; exact o3) o4;rw [q4] at hrun
      have hn0 : n.toNat * ie.size = 0 ∨ 0 < zv.cells.size := by
        rcases Nat.eq_zero_or_pos (n.toNat * ie.size) with h | h
        · exact .inl h
        · right; rw [hzs]; exact Nat.pos_of_mul_pos_left h
      have hz : CellsRel g (zeros (n.toNat * ie.size) ie.zero) (madeCells zv.cells (n.toNat * ie.size)) := by rw [q7]; exact zeros_rel zv q8 _ hn0
      have hzl : (zeros (n.toNat * ie.size) ie.zero).length = n.toNat * ie.size := by simp [zeros]
      have hlt : ∀ i j, i < n.toNat → j < ie.size → i * ie.size + j < n.toNat * ie.size := fun i j hi hj => by
        have : (i + 1) * ie.size ≤ n.toNat * ie.size := Nat.mul_le_mul_right _ hi;rw [Nat.add_mul] at this; omega
      have hcv : ∀ a, (AObj.arr ie.size (repL n ie.zero)).covers g.w.heap.size (⟨0, 0, 0, nobs⟩ : Room) a → a.block = g.w.heap.size := fun a ha => ha.2;have k := keep_add (g := g) (ao := .arr ie.size (repL n ie.zero)) (r := ⟨0, 0, 0, nobs⟩) (w' := g.w.alloc (.cells (madeCells zv.cells (n.toNat * ie.size)) e)) rfl hcv
      have s' := sim_add (g := g) (ao := .arr ie.size (repL n ie.zero)) (r := ⟨0, 0, 0, nobs⟩) (w' := g.w.alloc (.cells (madeCells zv.cells (n.toNat * ie.size)) e)) rfl hcv sm
        (fun cs hcs => by cases hcs) (fun _ _ h => by cases h) (fun _ h => by cases h) (harr := fun z els hz' => by
          cases hz';refine .inr ⟨_, e, rfl, fun r hr => ?_, fun p q r a hp hq => ?_⟩
          · have := List.eq_of_mem_replicate hr;rw [this, o5]
          · have hp' : p < n.toNat := by
              have := (List.getElem?_eq_some_iff.1 hp).1;simpa [repL] using this
            have hr : r = ie.zero := by
              have := List.mem_of_getElem? hp;exact List.eq_of_mem_replicate this
            subst hr
            have hq' : q < ie.size := by
              have := (List.getElem?_eq_some_iff.1 hq).1;omega
            have hpq := hlt p q hp' hq';have h5 := hz.2.1 (p * ie.size + q) (by rw [hzl]; exact hpq);have em : (p * ie.size + q) % ie.size = q := by rw [Nat.mul_comm, Nat.mul_add_mod, Nat.mod_eq_of_lt hq']
            have e1 : (zeros (n.toNat * ie.size) ie.zero)[p * ie.size + q]'(by rw [hzl]; exact hpq) = a := by
              have := (List.getElem?_eq_some_iff.1 hq).2;rw [← this];simp [zeros, o5, em, hq']
            rw [e1] at h5;exact ⟨by rw [hz.1, hzl]; exact hpq, h5, hz.2.2 _ (by rw [hzl]; exact hpq)⟩)
      refine ⟨_, _, hrun, Post.of rfl s' ?_ k⟩;exact .asl _ _ _ n.toNat n.toNat _ (by simp) (by omega) (Nat.le_refl _) (.inr ⟨_, _, rfl⟩) (fun _ => by simp)
  · cases h
def makeOutC (ie : TyI) (M : List AObj) (l c : AV) : Option Out :=
  match l, c with
  | .lit (.int _ n), .lit (.int _ m) => some { av := .sl [] (.own M.length 1 ie.size), M := some (M ++ [.room 1]), obl := n = 0 ∧ RepB m m ie.bytes ∧ ie.zero.length = ie.size }
  | _, _ => none
theorem makeOutC_runs {P : Program} {ty : TyTab} (hty : TyOk P ty) {T : TypeId} {i : TyI} (hi : ty T = some i) {e : TypeId} (hk : i.k = .slice e) {ie : TyI} (hie : ty e = some ie)
    {g : G} {l c : AV} {a b : Value} {o : Out} (h : makeOutC ie g.M l c = some o) (ho : o.obl) (sm : Sim g) (hl : R g l a) (hc : R g c b) : Runs P (Instr.makeSlice T a b) g o := by
  obtain ⟨info, d, z, h1, h2, h3, _⟩ := hty.facts hi;have := kind_slice (h3.trans hk); subst this;obtain ⟨einfo, ed, zv, q1, _, _, q4, q5, q6, q7, q8⟩ := hty.facts hie;unfold makeOutC at h;split at h
  · rename_i k n k' m;have := hl.lit_inv; subst this;have := hc.lit_inv; subst this;cases h;obtain ⟨rfl, ⟨o1, _, o3, o4⟩, o5⟩ := ho;have hzs : zv.cells.size = ie.size := by rw [← o5, q7]; simp
    have hrun := run_make (P := P) g.w T e einfo zv h2 q1 q6 k k' 0 m (Int.le_refl _) o1 (by rw [q5]; exact o3) o4;rw [q4] at hrun;have hW : (g.w.alloc (.cells (madeCells zv.cells (m.toNat * ie.size)) e)).heap = g.w.heap.push (.cells (madeCells zv.cells (m.toNat * ie.size)) e) := rfl;have hcv : ∀ a, (AObj.room 1).covers g.w.heap.size (⟨g.w.heap.size, 0, m.toNat * ie.size, nobs⟩ : Room) a → a.block = g.w.heap.size := fun a ha => ha.1;have hnew := heap_push_new hW;have k := keep_add (g := g) (ao := .room 1) (r := ⟨g.w.heap.size, 0, m.toNat * ie.size, nobs⟩) (w' := g.w.alloc (.cells (madeCells zv.cells (m.toNat * ie.size)) e)) hW hcv
    have s' := sim_add (g := g) (ao := .room 1) (r := ⟨g.w.heap.size, 0, m.toNat * ie.size, nobs⟩) (w' := g.w.alloc (.cells (madeCells zv.cells (m.toNat * ie.size)) e)) hW hcv sm
      (fun cs hcs => by cases hcs) (fun _ _ h => by cases h) (fun e' he' q hq => by
        have hq' : q < (madeCells zv.cells (m.toNat * ie.size)).size := by rw [size_madeCells]; exact hq
        refine ⟨(madeCells zv.cells (m.toNat * ie.size))[q], ?_, ?_⟩
        · simp only [World.cell?, hnew, Nat.zero_add];simp [hq']
        · simp only [World.frozen?, heap_push_new hW];simp)
    refine ⟨_, _, hrun, Post.of rfl s' ?_ k⟩
    refine .sl [] _ g.w.heap.size 0 ie.size m.toNat (fun _ _ => undef) (fun i hi => absurd hi (Nat.not_lt_zero _)) (fun i j hi _ => absurd hi (Nat.not_lt_zero _)) (fun i j hi _ => absurd hi (Nat.not_lt_zero _))
      (fun i j hi _ => absurd hi (Nat.not_lt_zero _)) (fun i j hi _ => absurd hi (Nat.not_lt_zero _)) ⟨rfl, by simp , fun e' he' => ?_⟩ (Nat.zero_le _)
    rcases add_get he' with ⟨h, _⟩ | ⟨_, h⟩
    · exact absurd h (Nat.lt_irrefl _)
    · cases h;exact ⟨Nat.le_refl _, fun _ => by simp ⟩
  · cases h
def numOf : List AV → Int
  | [.lit (.int _ n)] => n
  | _ => 0
def strOut2 (x : AV) : Option Out :=
  match x with
  | .sl els _ => some { av := .lit (.string (strOfNums (els.map numOf))), obl := ∀ e ∈ els, ∃ n, e = [.lit (.int .u8 n)] }
  | _ => none
theorem strOut2_runs {P : Program} {ts td e : TypeId} (hs : P.underlying ts = some (.slice e)) (he : P.underlying e = some (.int .u8)) (hd : P.underlying td = some .string)
    {g : G} {x : AV} {a : Value} {o : Out} (h : strOut2 x = some o) (ho : o.obl) (sm : Sim g) (hx : R g x a) : Runs P (convert ts td a) g o := by
  unfold strOut2 at h;split at h
  · rename_i els tok;cases h;cases hx with
    | @nil _ base _ => cases base with
      | none => exact ⟨_, g.w, run_convert_bytes_nil g.w ts e hs he 0 0 td hd, Post.same rfl sm (.lit _)⟩
      | some b => exact ⟨_, g.w, by rw [run_convert_bytes_string g.w ts td e _ 0 0 hs he hd]; simp [Conv.bytesToString, loadCells]; rfl, Post.same rfl sm (.lit _)⟩
    | sl _ _ b off s cap xs hls c1 c2 c3 c4 ht hcap =>
      refine ⟨_, g.w, run_convert_bytes_arg g.w ts e hs he b off els.length cap (els.map numOf) (by simp) (fun i hi => ?_) td hd, Post.same rfl sm (.lit _)⟩;obtain ⟨n, hn⟩ := ho _ (List.getElem_mem hi);have hs1 : s = 1 := by rw [← hls i hi, hn]; rfl
      subst hs1;have h0 := c1 i 0 hi (by omega);have h3 := c3 i 0 hi (by rw [hn]; simp);have e0 : els[i][0]'(by rw [hn]; simp) = .lit (.int .u8 n) := by simp [hn]
      rw [e0] at h3;have := h3.lit_inv;rw [this] at h0;have e2 : (els.map numOf).getD i 0 = n := by simp [List.getD, hi, hn, numOf]
      rw [e2];simpa using h0
  · cases h
def runesOut (x : AV) : Option Out :=
  match x with
  | .sl els _ => some { av := .lit (.string (runesBytes (els.map numOf))), obl := ∀ e ∈ els, ∃ n, e = [.lit (.int .i32 n)] }
  | _ => none
theorem runesOut_runs {P : Program} {ts td e : TypeId} (hs : P.underlying ts = some (.slice e)) (he : P.underlying e = some (.int .i32)) (hd : P.underlying td = some .string)
    {g : G} {x : AV} {a : Value} {o : Out} (h : runesOut x = some o) (ho : o.obl) (sm : Sim g) (hx : R g x a) : Runs P (convert ts td a) g o := by
  unfold runesOut at h;split at h
  · rename_i els tok;cases h;cases hx with
    | @nil _ base _ => cases base with
      | none => exact ⟨_, g.w, run_convert_runes_nil g.w ts td e 0 0 hs he hd, Post.same rfl sm (.lit _)⟩
      | some b => exact ⟨_, g.w, run_convert_runes g.w ts td e b 0 0 [] (by simp) hs he hd (fun j hj => by simp at hj), Post.same rfl sm (.lit _)⟩
    | sl _ _ b off s cap xs hls c1 c2 c3 c4 ht hcap =>
      have hl : (els.map numOf).length = els.length := by simp
      have hrun := run_convert_runes (P := P) g.w ts td e ⟨b, off, none⟩ els.length cap (els.map numOf) (by simp) hs he hd (fun i hi => by
        have hi : i < els.length := by simpa using hi
        obtain ⟨n, hn⟩ := ho _ (List.getElem_mem hi);have hs1 : s = 1 := by rw [← hls i hi, hn]; rfl
        subst hs1;have h0 := c1 i 0 hi (by omega);have h3 := c3 i 0 hi (by rw [hn]; simp);have e0 : els[i][0]'(by rw [hn]; simp) = .lit (.int .i32 n) := by simp [hn]
        rw [e0] at h3;have := h3.lit_inv;rw [this] at h0;have e2 : (els.map numOf).getD i 0 = n := by simp [List.getD, hi, hn, numOf]
        rw [e2];have ha : (⟨b, off, none⟩ : Addr).add i = ⟨b, off + i, none⟩ := by unfold Addr.add; split <;> simp_all
        rw [ha];simpa using h0)
      rw [← hl, List.take_length, hl] at hrun;exact ⟨_, g.w, hrun, Post.same rfl sm (.lit _)⟩
  · cases h
def numsOf (s : ByteArray) : List Int := s.data.toList.map fun b => (b.toNat : Int)
def bytesOut (x : AV) : Option Out :=
  match x with
  | .lit (.string s) => some { av := .sl ((numsOf s).map fun n => [.lit (.int .u8 n)]) .no }
  | _ => none
theorem bytesOut_runs {P : Program} {ts td e : TypeId} (hs : P.underlying ts = some .string) (he : P.underlying e = some (.int .u8)) (hd : P.underlying td = some (.slice e))
    {g : G} {x : AV} {a : Value} {o : Out} (h : bytesOut x = some o) (sm : Sim g) (hx : R g x a) : Runs P (convert ts td a) g o := by
  unfold bytesOut at h;split at h
  · rename_i s;cases h;have := hx.lit_inv; subst this;generalize hC : bytesRow s (grownCap g.w s.size 0 e) = C;have hrun := run_bytes_of_string g.w ts td e s hs hd he;rw [hC] at hrun;have hcap : s.size ≤ grownCap g.w s.size 0 e := by simp [grownCap, Question.cut]
    have hw : (g.w.drew.alloc (.cells C e (C.size, C.size + 1))).heap = g.w.heap.push (.cells C e (C.size, C.size + 1)) := rfl;have hlen : ((numsOf s).map fun n => [AV.lit (Value.int .u8 n)]).length = s.size := by simp [numsOf]
    have hget : ∀ i, i < s.size → C[i]? = some (.int .u8 ((numsOf s).getD i 0)) := fun i hi => by
      have hi' : i < s.data.size := hi
      have h1 : (s.data.map fun b => Value.int .u8 (b.toNat : Int))[i]? = some (.int .u8 ((numsOf s).getD i 0)) := by
        simp only [Array.getElem?_map, Array.getElem?_eq_getElem hi', Option.map_some, numsOf, List.getD_eq_getElem?_getD, List.getElem?_map, Array.getElem?_toList, Option.getD_some]
      rw [← hC, bytesRow, Array.getElem?_append_left (by simpa using hi')];exact h1
    refine ⟨_, _, hrun, ⟨g.β, g.ρ, sim_push hw sm, ?_, keep_push hw⟩⟩;simp only [G.out, Option.getD_none]
    have q : R { g with w := g.w.drew.alloc (.cells C e (C.size, C.size + 1)) } (.sl ((numsOf s).map fun n => [.lit (.int .u8 n)]) .no) (.slice (some ⟨g.w.heap.size, 0, none⟩) ((numsOf s).map fun n => [AV.lit (Value.int .u8 n)]).length (grownCap g.w s.size 0 e)) := by
      refine .sl _ .no g.w.heap.size 0 1 _ (fun i _ => .int .u8 ((numsOf s).getD i 0)) (fun i hi => by simp) (fun i j hi hj => ?_) (fun i j hi hj hr => ?_) (fun i j hi hj => ?_) (fun _ _ _ _ => rfl) trivial (by omega)
      · have hj0 : j = 0 := by omega
        subst hj0;have := hget i (by omega);simp only [World.cell?, hw, Array.getElem?_push_size, Nat.zero_add, Nat.mul_one, Nat.add_zero];simpa using this
      · have := sm.inb _ hr;simp at this
      · have hj0 : j = 0 := by simp at hj; omega
        subst hj0;have hi' : i < (numsOf s).length := by simpa using hi
        simp only [List.getElem_map, List.getElem_cons_zero];rw [show (numsOf s).getD i 0 = (numsOf s)[i] by simp [hi']];exact .lit _
    rw [hlen] at q; exact q
  · cases h
def convAll (ty : TyTab) (ks kd : TyK) (x : AV) : Option Out :=
  match ks, kd with
  | .str, .slice e => match ty e with
    | some ie => match ie.k with
      | .int .u8 => bytesOut x
      | _ => none
    | none => none
  | .slice e, .str => match ty e with
    | some ie => match ie.k with
      | .int .u8 => strOut2 x
      | .int .i32 => runesOut x
      | _ => none
    | none => none
  | _, _ => convOut ks kd x
theorem convAll_runs {P : Program} {ty : TyTab} (hty : TyOk P ty) {ts td : TypeId} {is id : TyI} (hs : ty ts = some is) (hd : ty td = some id) {x : AV} {a : Value} {g : G} {o : Out}
    (h : convAll ty is.k id.k x = some o) (ho : o.obl) (sm : Sim g) (hx : R g x a) : Runs P (convert ts td a) g o := by
  unfold convAll at h;split at h
  · rename_i e hk1 hk2;split at h
    · rename_i ie hie;split at h
      · rename_i hk3;obtain ⟨_, d1, _, _, u1, k1, _⟩ := hty.facts hs;obtain ⟨_, d2, _, _, u2, k2, _⟩ := hty.facts hd;obtain ⟨_, d3, _, _, u3, k3, _⟩ := hty.facts hie;have := kind_str (k1.trans hk1); subst this;have := kind_slice (k2.trans hk2); subst this;have := kind_int (k3.trans hk3); subst this;exact bytesOut_runs u1 u3 u2 h sm hx
      · cases h
    · cases h
  · rename_i e hk1 hk2;split at h
    · rename_i ie hie;split at h
      · rename_i hk3;obtain ⟨_, d1, _, _, u1, k1, _⟩ := hty.facts hs;obtain ⟨_, d2, _, _, u2, k2, _⟩ := hty.facts hd;obtain ⟨_, d3, _, _, u3, k3, _⟩ := hty.facts hie;have := kind_slice (k1.trans hk1); subst this;have := kind_str (k2.trans hk2); subst this;have := kind_int (k3.trans hk3); subst this;exact strOut2_runs u1 u3 u2 h ho sm hx
      · rename_i hk3;obtain ⟨_, d1, _, _, u1, k1, _⟩ := hty.facts hs;obtain ⟨_, d2, _, _, u2, k2, _⟩ := hty.facts hd;obtain ⟨_, d3, _, _, u3, k3, _⟩ := hty.facts hie;have := kind_slice (k1.trans hk1); subst this;have := kind_str (k2.trans hk2); subst this;have := kind_int (k3.trans hk3); subst this;exact runesOut_runs u1 u3 u2 h ho sm hx
      · cases h
    · cases h
  · exact convOut_runs hty hs hd h sm hx
def keyOk (kt : TyK) (k : Value) : Bool :=
  match kt, k with
  | .int q, .int q' _ => q == q'
  | .str, .string _ => true
  | .bool, .bool _ => true
  | _, _ => false
def sameV : Value → Value → Option Bool
  | .int q a, .int q' b => if q = q' then some (eqI a b) else none
  | .string a, .string b => some (eqS a b)
  | .bool a, .bool b => some (eqB a b)
  | _, _ => none
def hasV (k : Value) : List (AV × AV) → Option Bool
  | [] => some false
  | (.lit k', _) :: r => match sameV k k', hasV k r with
    | some b, some c => some (pickB b true c)
    | _, _ => none
  | _ :: _ => none
def getV (k : Value) (z : AV) : List (AV × AV) → AV
  | [] => z
  | (a, v) :: r => match a with
    | .lit k' => if sameV k k' = some true then v else getV k z r
    | _ => getV k z r
def setV (k : Value) (v : AV) : List (AV × AV) → List (AV × AV)
  | [] => [(.lit k, v)]
  | (a, u) :: r => match a with
    | .lit k' => if sameV k k' = some true then (.lit k, v) :: r else (a, u) :: setV k v r
    | _ => (a, u) :: setV k v r
def delV (k : Value) : List (AV × AV) → List (AV × AV)
  | [] => []
  | (a, u) :: r => match a with
    | .lit k' => if sameV k k' = some true then r else (a, u) :: delV k r
    | _ => (a, u) :: delV k r
inductive EntR (g : G) : List (AV × AV) → List MapEntry → Prop
  | nil : EntR g [] []
  | cons {a v : AV} {es : List (AV × AV)} {e : MapEntry} {l : List MapEntry} (hk : R g a e.key) (hv : R g v e.val) (r : EntR g es l) : EntR g ((a, v) :: es) (e :: l)
theorem EntR.of {g : G} : ∀ {es : List (AV × AV)} {l : List MapEntry}, l.length = es.length → (∀ j (h : j < es.length), R g es[j].1 (l.getD j default).key ∧ R g es[j].2 (l.getD j default).val) → EntR g es l
  | [], [], _, _ => .nil
  | [], _ :: _, h, _ => by simp at h
  | _ :: _, [], h, _ => by simp at h
  | (a, v) :: es, e :: l, h, q => .cons (q 0 (by simp)).1 (q 0 (by simp)).2
      (EntR.of (by simpa using h) fun j hj => q (j + 1) (by simpa using hj))
theorem EntR.len {g : G} {es : List (AV × AV)} {l : List MapEntry} (h : EntR g es l) : l.length = es.length := by
  induction h with
  | nil => rfl
  | cons _ _ _ ih => simp [ih]
theorem EntR.at {g : G} {es : List (AV × AV)} {l : List MapEntry} (h : EntR g es l) : ∀ j (h : j < es.length), R g es[j].1 (l.getD j default).key ∧ R g es[j].2 (l.getD j default).val := by
  induction h with
  | nil => intro j hj; simp at hj
  | cons hk hv _ ih =>
    intro j hj;cases j with
    | zero => exact ⟨by simpa using hk, by simpa using hv⟩
    | succ j => simpa using ih j (by simpa using hj)
theorem EntR.push {g : G} {es : List (AV × AV)} {l : List MapEntry} (h : EntR g es l) {a v : AV} {e : MapEntry} (hk : R g a e.key) (hv : R g v e.val) : EntR g (es ++ [(a, v)]) (l ++ [e]) := by
  induction h with
  | nil => exact .cons hk hv .nil
  | cons hk' hv' _ ih => exact .cons hk' hv' ih
theorem EntR.set {g : G} {es : List (AV × AV)} {l : List MapEntry} (h : EntR g es l) {a v : AV} {e : MapEntry} (hk : R g a e.key) (hv : R g v e.val) (j : Nat) : EntR g (es.set j (a, v)) (l.set j e) := by
  induction h generalizing j with
  | nil => exact .nil
  | cons hk' hv' r ih =>
    cases j with
    | zero => exact .cons hk hv r
    | succ j => exact .cons hk' hv' (ih j)
theorem EntR.erase {g : G} {es : List (AV × AV)} {l : List MapEntry} (h : EntR g es l) (j : Nat) : EntR g (es.eraseIdx j) (l.eraseIdx j) := by
  induction h generalizing j with
  | nil => exact .nil
  | cons hk' hv' r ih =>
    cases j with
    | zero => exact r
    | succ j => exact .cons hk' hv' (ih j)
theorem eqS_iff (a b : ByteArray) : eqS a b = true ↔ a = b := by
  unfold eqS;rw [beq_iff_eq];constructor
  · intro h;rw [Go.ByteArray.toList_eq, Go.ByteArray.toList_eq] at h;cases a; cases b;congr 1;exact Array.ext' h
  · rintro rfl; rfl
theorem sameV_now {d : TypeDesc} {k k' : Value} {b : Bool} (hk : MapKept.IsKey d k) (h : sameV k k' = some b) : Instr.sameNow d k k' = some b ∧ MapKept.IsKey d k' ∧ (b = true ↔ k' = k) := by
  unfold sameV at h;split at h
  · split at h
    · rename_i q a q' b' hq;subst hq;cases h;cases d <;> simp_all [MapKept.IsKey, Instr.sameNow, eqI];exact eq_comm
    · cases h
  · rename_i a b';cases h;cases d <;> simp_all [MapKept.IsKey, Instr.sameNow];refine ⟨?_, by rw [eqS_iff]; exact eq_comm⟩;have h1 := MapKept.bytes_beq a b';have h2 := eqS_iff a b';cases h3 : (a == b') <;> cases h4 : eqS a b' <;> simp_all
  · rename_i a b';cases h;cases d <;> simp_all [MapKept.IsKey, Instr.sameNow, eqB];exact eq_comm
  · cases h
theorem find_now {d : TypeDesc} {k : Value} (hk : MapKept.IsKey d k) {g : G} {es : List (AV × AV)} {l : List MapEntry} (hr : EntR g es l) : ∀ (i : Nat) {b : Bool}, hasV k es = some b →
    (∀ x ∈ l, MapKept.IsKey d x.key) ∧
    ((b = false ∧ Instr.findNow d k l i = some none ∧ (∀ x ∈ l, x.key ≠ k) ∧ (∀ v, setV k v es = es ++ [(.lit k, v)]) ∧ delV k es = es ∧ ∀ z, getV k z es = z) ∨
    (b = true ∧ ∃ j e, Instr.findNow d k l i = some (some (i + j, e.val)) ∧ l[j]? = some e ∧ e.key = k ∧ (∀ z, R g (getV k z es) e.val) ∧ (∀ v, setV k v es = es.set j (.lit k, v)) ∧ delV k es = es.eraseIdx j)) := by
  induction hr with
  | nil =>
    intro i b h;simp only [hasV, Option.some.injEq] at h;subst h;exact ⟨by simp, .inl ⟨rfl, rfl, by simp, fun v => rfl, rfl, fun z => rfl⟩⟩
  | @cons a v es e l hka hva r ih =>
    intro i b h;cases a <;> simp only [hasV, reduceCtorEq] at h;rename_i k';have hek : e.key = k' := hka.lit_inv;cases hs : sameV k k' with
    | none => simp [hs] at h
    | some c =>
      cases hh : hasV k es with
      | none => simp [hs, hh] at h
      | some c' =>
        simp only [hs, hh, Option.some.injEq] at h;obtain ⟨s1, s2, s3⟩ := sameV_now hk hs;have ih' := ih (i + 1) hh
        have hkeys : ∀ x ∈ e :: l, MapKept.IsKey d x.key := fun x hx => by
          cases hx with
          | head => rw [hek]; exact s2
          | tail _ hx => exact ih'.1 x hx
        cases c with
        | true =>
          have hkk := s3.1 rfl;refine ⟨hkeys, .inr ⟨by rw [← h]; rfl, 0, e, ?_, rfl, hek.trans hkk, fun z => ?_, fun u => ?_, ?_⟩⟩
          · simp [Instr.findNow, hek, s1]
          · simpa [getV, hs] using hva
          · simp [setV, hs]
          · simp [delV, hs]
        | false =>
          have hb : b = c' := by rw [← h]; rfl
          subst hb;have hne : k' ≠ k := fun q => by have := s3.2 q; cases this
          refine ⟨hkeys, ?_⟩;rcases ih'.2 with ⟨q1, q2, q3, q4, q5, q6⟩ | ⟨q1, j, e', q2, q3, q4, q5, q6, q7⟩
          · refine .inl ⟨q1, by simp [Instr.findNow, hek, s1, q2], fun x hx => ?_, fun u => by simp [setV, hs, q4], by simp [delV, hs, q5], fun z => by simp [getV, hs, q6]⟩;cases hx with
            | head => rw [hek]; exact hne
            | tail _ hx => exact q3 x hx
          · exact .inr ⟨q1, j + 1, e', by simp [Instr.findNow, hek, s1, q2]; omega, by simpa using q3, q4, fun z => by simpa [getV, hs] using q5 z, fun u => by simp [setV, hs, q6], by simp [delV, hs, q7]⟩
theorem keyOk_is {d : TypeDesc} {k : Value} (h : keyOk (kindOf d) k = true) : MapKept.IsKey d k := by
  cases d <;> cases k <;> simp_all [keyOk, kindOf, MapKept.IsKey]
theorem map_at {g : G} (sm : Sim g) {i : Nat} {es : List (AV × AV)} (h : g.M[i]? = some (.mapo es)) :
    ∃ ents clock, g.w.heap[g.β i]? = some (.map ents clock) ∧ MapKept.Stamped ents clock ∧ EntR g es ents.toList := by
  obtain ⟨o, h1, ents, clock, rfl, h2, h3, h4⟩ := sm.mapo i es h;exact ⟨ents, clock, h1, h2, .of h3 h4⟩
theorem EntR.rel {g : G} {es : List (AV × AV)} {ents : Array MapEntry} {clock : Nat} (h : EntR g es ents.toList) (hs : MapKept.Stamped ents clock) : MapRel g es (.map ents clock) :=
  ⟨ents, clock, rfl, hs, h.len, h.at⟩
def makeMapOut (M : List AObj) : Out := { av := .mp M.length, M := some (M ++ [.mapo []]) }
theorem makeMapOut_runs {P : Program} {t : TypeId} {g : G} (sm : Sim g) : Runs P (Instr.makeMap t none) g (makeMapOut g.M) := by
  have hc : ∀ a, (AObj.mapo []).covers g.w.heap.size (⟨0, 0, 0, nobs⟩ : Room) a → a.block = g.w.heap.size := fun a ha => ha;have k := keep_add (g := g) (ao := .mapo []) (r := ⟨0, 0, 0, nobs⟩) (w' := { g.w with heap := g.w.heap.push (.map #[] 0) }) rfl hc
  have s' := sim_add (g := g) (ao := .mapo []) (r := ⟨0, 0, 0, nobs⟩) (w' := { g.w with heap := g.w.heap.push (.map #[] 0) }) rfl hc sm
    (fun cs hcs => by cases hcs) (fun _ _ h => by cases h) (fun _ h => by cases h) ⟨rfl, rfl⟩
    (fun es h => by cases h; exact ⟨#[], 0, rfl, MapKept.stamped_empty 0, rfl, fun j hj => by simp at hj⟩)
  refine ⟨.map (some g.w.heap.size), { g.w with heap := g.w.heap.push (.map #[] 0) }, ?_, Post.of rfl s' ?_ k⟩
  · simp [Instr.makeMap]
  · have hr : R (g.add (.mapo []) ⟨0, 0, 0, nobs⟩ { g.w with heap := g.w.heap.push (.map #[] 0) }) (.mp g.M.length) (.map (some ((g.add (.mapo []) ⟨0, 0, 0, nobs⟩ { g.w with heap := g.w.heap.push (.map #[] 0) }).β g.M.length))) :=
      .mp _ (by simp [G.add])
    simp only [G.add, upd_same] at hr;exact hr
theorem zero_one {v : Value} (h : aggV v = false) : (v.cells.toList.map ofConst).headD default = ofConst v := by
  cases v <;> first | rfl | simp [aggV] at h
theorem R.noToks {g : G} {a : AV} {v : Value} (h : R g a v) : R g (noToks a) v := by
  unfold Ab.noToks;split
  · cases h with
    | agg _ xs hs hx h4 => exact .agg _ xs (by simpa using hs) (fun j hj => by simpa using (hx j (by simpa using hj)).noTok) (fun j hj => h4 j (by simpa using hj))
  · exact h.noTok
def mTok (v : AV) : AV := bif keepTok then v else noToks v
theorem R.mTok {g : G} {a : AV} {v : Value} (h : R g a v) : R g (Ab.mTok a) v := by
  unfold Ab.mTok;cases keepTok with
  | true => exact h
  | false => exact h.noToks
def zeroAV (i : TyI) : AV := mTok (if i.k.agg then .agg i.zero else i.zero.headD default)
theorem zeroAV_runs {P : Program} {ty : TyTab} (hty : TyOk P ty) {t : TypeId} {i : TyI} (hi : ty t = some i) (g : G) : ∃ z, (zeroValue t).run P g.w = .ok z g.w ∧ R g (zeroAV i) z := by
  obtain ⟨z, h1, h2, h3⟩ := run_zeroValue hty hi g.w;have ha := hty.zagg hi h1;refine ⟨z, h1, ?_⟩;unfold zeroAV;refine R.mTok ?_;cases hA : i.k.agg with
  | false =>
    rw [hA] at ha;simp only [Bool.false_eq_true, if_false];rw [h2, zero_one ha];exact R.ofConst z
  | true =>
  rw [hA] at ha;obtain ⟨q1, q2, q3⟩ := of_oneCells (g := g) z h3;rw [← h2] at q1 q2 q3;cases z with
  | agg xs => exact .agg _ xs q1 q2 q3
  | _ => simp [aggV] at ha
theorem find_own {g : G} (sm : Sim g) {i : Nat} {P : Own} {k : Value} {v : Option AV} (hM : g.M[i]? = some (.own P (some (k, v)))) {d : TypeDesc} (hk : MapKept.IsKey d k) (hkey : ∀ x, P.key x → MapKept.IsKey d x) :
    ∃ ents clock, g.w.heap[g.β i]? = some (.map ents clock) ∧ MapKept.Stamped ents clock ∧ (∀ x ∈ ents.toList, P.key x.key) ∧ P.rel g.w g.reg (g.ρ i).bs (pairsOf ents) ∧
      match v with
      | none => Instr.findNow d k ents.toList 0 = some none ∧ ∀ x ∈ ents.toList, x.key ≠ k
      | some av => ∃ j e, Instr.findNow d k ents.toList 0 = some (some (j, e.val)) ∧ ents.toList[j]? = some e ∧ e.key = k ∧ R g av e.val := by
  obtain ⟨ents, clock, h1, h2, h3, h4, h5, h6⟩ := sm.own i P _ hM;refine ⟨ents, clock, h1, h2, h3, h5, ?_⟩;have q := h6 k v rfl;have hf := MapKept.findNow_spec hk ents.toList 0 fun x hx => hkey _ (h3 x hx);cases v with
  | none =>
    rcases hf with ⟨f1, f2⟩ | ⟨j, e, _, f2, f3⟩
    · exact ⟨f1, f2⟩
    · exact absurd f3 (q e (List.mem_of_getElem? f2))
  | some av =>
    obtain ⟨e, q1, q2, q3⟩ := q;rcases hf with ⟨_, f2⟩ | ⟨j, e', f1, f2, f3⟩
    · exact absurd q2 (f2 e q1)
    · rw [Nat.zero_add] at f1;have hn : (ents.toList.map (·.key)).Nodup := h2.2.2
      have hee : e' = e := by
        obtain ⟨n, hn1, hn2⟩ := List.mem_iff_getElem.1 q1;obtain ⟨m1, m2⟩ := List.getElem?_eq_some_iff.1 f2
        have hj : j = n := by
          have a1 : (ents.toList.map (·.key))[j]? = some k := by rw [List.getElem?_map, f2]; simp [f3]
          have a2 : (ents.toList.map (·.key))[n]? = some k := by rw [List.getElem?_map, List.getElem?_eq_getElem hn1, hn2]; simp [q2]
          exact (List.getElem?_inj (by simpa using m1) hn).1 (a1.trans a2.symm)
        subst hj;rw [← m2, hn2]
      exact ⟨j, e, by rw [f1, hee], by rw [f2, hee], q2, q3⟩
def OwnKey (kt : TyK) (P : Own) : Prop := ∀ x, P.key x → keyOk kt x = true
theorem OwnKey.is {d : TypeDesc} {P : Own} (h : OwnKey (kindOf d) P) : ∀ x, P.key x → MapKept.IsKey d x := fun x hx => keyOk_is (h x hx)
def Own.push (P : Own) (k : Value) : Own where
  key := P.key
  data := []
  rel w C bs l := ∃ l' u, l = l' ++ [(k, u)] ∧ P.rel w C bs l'
  keep k h := by obtain ⟨l', u, h1, h2⟩ := h; exact ⟨l', u, h1, P.keep k h2⟩
def Own.del (P : Own) (k : Value) : Own where
  key := P.key
  data := []
  rel w C bs l := ∃ l1 u l2, l = l1 ++ l2 ∧ P.rel w C bs (l1 ++ (k, u) :: l2)
  keep k h := by obtain ⟨l1, u, l2, h1, h2⟩ := h; exact ⟨l1, u, l2, h1, P.keep k h2⟩
def lookupOut (kt : TyK) (ie : TyI) (M : List AObj) (x k : AV) (ok : Bool) : Option Out :=
  match x, k with
  | .mp i, .lit kv => match M[i]? with
    | some (.mapo es) => if keyOk kt kv then (hasV kv es).map fun b => { av := if ok then .tup [getV kv (zeroAV ie) es, .lit (.bool b)] else getV kv (zeroAV ie) es } else none
    | some (.own P (some (k', some av))) => if keyOk kt kv then some { av := if ok then .tup [av, .lit (.bool true)] else av, obl := k' = kv ∧ OwnKey kt P } else none
    | some (.own P (some (k', none))) => if keyOk kt kv then some { av := if ok then .tup [zeroAV ie, .lit (.bool false)] else zeroAV ie, obl := k' = kv ∧ OwnKey kt P } else none
    | _ => none
  | _, _ => none
theorem lookupOut_runs {P : Program} {ty : TyTab} (hty : TyOk P ty) {T kt et : TypeId} {i ik ie : TyI} (hi : ty T = some i) (hk : i.k = .map kt et) (hkt : ty kt = some ik) (het : ty et = some ie)
    {g : G} {x k : AV} {a b : Value} {ok : Bool} {o : Out} (h : lookupOut ik.k ie g.M x k ok = some o) (ho : o.obl) (sm : Sim g) (hx : R g x a) (hkk : R g k b) : Runs P (Instr.lookup T a b ok) g o := by
  obtain ⟨_, d, _, _, u1, k1, _⟩ := hty.facts hi;have := kind_map (k1.trans hk); subst this;obtain ⟨_, dk, _, _, u2, k2, _⟩ := hty.facts hkt;unfold lookupOut at h;split at h
  · rename_i j kv;split at h
    · rename_i es hM;split at h
      · rename_i hko;cases hx with
        | mp _ hj =>
        have := hkk.lit_inv; subst this;obtain ⟨c, hc, rfl⟩ := Option.map_eq_some_iff.1 h;rw [← k2] at hko;have hkey := keyOk_is hko;obtain ⟨ents, clock, hb, hst, he⟩ := map_at sm hM;obtain ⟨hks, hf⟩ := find_now hkey he 0 hc;have hck : (Instr.checkKey ents.isEmpty 10000 kt b).run P g.w = .ok () g.w := MapKept.run_checkKey u2 hkey ents.isEmpty 9999;rcases hf with ⟨rfl, q2, q3, q4, q5, q6⟩ | ⟨rfl, j', e', q2, q3, q4, q5, q6, q7⟩
        · obtain ⟨z, hz, hzr⟩ := zeroAV_runs hty het g;refine ⟨if ok then .tuple #[z, .bool false] else z, g.w, ?_, Post.same rfl sm ?_⟩
          · simp [Instr.lookup, run_underlying u1, MapKept.run_getObj_map hb, hck, MapKept.run_findKey u2 q2, hz]
          · rw [q6];cases ok with
            | true =>
              refine .tup _ _ rfl fun j hj => ?_
              match j, hj with
              | 0, _ => exact hzr
              | 1, _ => exact .lit _
            | false => exact hzr
        · refine ⟨if ok then .tuple #[e'.val, .bool true] else e'.val, g.w, ?_, Post.same rfl sm ?_⟩
          · simp [Instr.lookup, run_underlying u1, MapKept.run_getObj_map hb, hck, MapKept.run_findKey u2 q2]
          · cases ok with
            | true =>
              refine .tup _ _ rfl fun j hj => ?_
              match j, hj with
              | 0, _ => exact q5 _
              | 1, _ => exact .lit _
            | false => exact q5 _
      · cases h
    · rename_i Po k' av hM;split at h
      · rename_i hko;cases h;obtain ⟨rfl, hP⟩ := ho;cases hx with
        | mp _ hj =>
        have := hkk.lit_inv; subst this;rw [← k2] at hko hP;have hkey := keyOk_is hko;obtain ⟨ents, clock, hb, hst, _, _, j', e', f1, _, _, f4⟩ := find_own sm hM hkey hP.is;have hck : (Instr.checkKey ents.isEmpty 10000 kt b).run P g.w = .ok () g.w := MapKept.run_checkKey u2 hkey ents.isEmpty 9999;refine ⟨if ok then .tuple #[e'.val, .bool true] else e'.val, g.w, ?_, Post.same rfl sm ?_⟩
        · simp [Instr.lookup, run_underlying u1, MapKept.run_getObj_map hb, hck, MapKept.run_findKey u2 f1]
        · cases ok with
          | true =>
            refine .tup _ _ rfl fun j hj => ?_
            match j, hj with
            | 0, _ => exact f4
            | 1, _ => exact .lit _
          | false => exact f4
      · cases h
    · rename_i Po k' hM;split at h
      · rename_i hko;cases h;obtain ⟨rfl, hP⟩ := ho;cases hx with
        | mp _ hj =>
        have := hkk.lit_inv; subst this;rw [← k2] at hko hP;have hkey := keyOk_is hko;obtain ⟨ents, clock, hb, hst, _, _, f1, _⟩ := find_own sm hM hkey hP.is;have hck : (Instr.checkKey ents.isEmpty 10000 kt b).run P g.w = .ok () g.w := MapKept.run_checkKey u2 hkey ents.isEmpty 9999;obtain ⟨z, hz, hzr⟩ := zeroAV_runs hty het g;refine ⟨if ok then .tuple #[z, .bool false] else z, g.w, ?_, Post.same rfl sm ?_⟩
        · simp [Instr.lookup, run_underlying u1, MapKept.run_getObj_map hb, hck, MapKept.run_findKey u2 f1, hz]
        · cases ok with
          | true =>
            refine .tup _ _ rfl fun j hj => ?_
            match j, hj with
            | 0, _ => exact hzr
            | 1, _ => exact .lit _
          | false => exact hzr
      · cases h
    · cases h
  · cases h
def mapSetOut (kt : TyK) (M : List AObj) (x k v : AV) : Option Out :=
  match x, k with
  | .mp i, .lit kv => match M[i]? with
    | some (.mapo es) => if keyOk kt kv then (hasV kv es).map fun _ => { av := .lit undef, M := some (M.set i (.mapo (setV kv (mTok v) es))) } else none
    | some (.own P (some (k', none))) => if keyOk kt kv then some { av := .lit undef, M := some (M.set i (.own (P.push kv) (some (kv, some (mTok v))))), obl := k' = kv ∧ OwnKey kt P ∧ P.key kv } else none
    | _ => none
  | _, _ => none
theorem mapSetOut_runs {P : Program} {ty : TyTab} (hty : TyOk P ty) {T kt et : TypeId} {i ik : TyI} (hi : ty T = some i) (hk : i.k = .map kt et) (hkt : ty kt = some ik)
    {g : G} {x k v : AV} {a b u : Value} {o : Out} (h : mapSetOut ik.k g.M x k v = some o) (ho : o.obl) (sm : Sim g) (hx : R g x a) (hkk : R g k b) (hv : R g v u) :
    ∃ w', (Instr.mapUpdate T a b u).run P g.w = .ok () w' ∧ Post g o undef w' := by
  obtain ⟨_, d, _, _, u1, k1, _⟩ := hty.facts hi;have := kind_map (k1.trans hk); subst this;obtain ⟨_, dk, _, _, u2, k2, _⟩ := hty.facts hkt;unfold mapSetOut at h;split at h
  · rename_i j kv;split at h
    · rename_i es hM;split at h
      · rename_i hko;cases hx with
        | mp _ hj =>
        have := hkk.lit_inv; subst this;obtain ⟨c, hc, rfl⟩ := Option.map_eq_some_iff.1 h;rw [← k2] at hko;have hkey := keyOk_is hko;obtain ⟨ents, clock, hb, hst, he⟩ := map_at sm hM;obtain ⟨hks, hf⟩ := find_now hkey he 0 hc;have hck : (Instr.checkKey false 10000 kt b).run P g.w = .ok () g.w := MapKept.run_checkKey u2 hkey false 9999;rcases hf with ⟨rfl, q2, q3, q4, q5, q6⟩ | ⟨rfl, j', e', q2, q3, q4, q5, q6, q7⟩
        · have hrel : MapRel g (setV b (mTok v) es) (.map (ents.push { key := b, val := u, born := clock }) (clock + 1)) := by
            rw [q4];refine EntR.rel ?_ (MapKept.stamped_push hst q3);rw [Array.toList_push];exact he.push (.lit _) hv.mTok
          refine ⟨{ g.w with heap := g.w.heap.setIfInBounds (g.β j) (.map (ents.push { key := b, val := u, born := clock }) (clock + 1)) }, ?_, Post.of rfl (sim_map hM sm hrel) (.lit _) (keep_map sm hM)⟩;simp [Instr.mapUpdate, run_underlying u1, MapKept.run_getObj_map hb, hck, MapKept.run_findKey u2 q2, MapKept.run_setObj_map _ hb]
        · rw [Nat.zero_add] at q2;have hj' : ents[j']? = some e' := by simpa using q3
          have hkeep : ∀ e'' ∈ ents.toList, ents[j']? = some e'' → ({ e'' with key := b, val := u } : MapEntry).key = e''.key := fun e'' _ h'' => by rw [hj'] at h''; cases h''; exact q4.symm
          have hrel : MapRel g (setV b (mTok v) es) (.map (ents.modify j' fun e => { e with key := b, val := u }) clock) := by
            rw [q6];refine EntR.rel ?_ (MapKept.stamped_modify hst _ _ (fun _ _ => rfl) hkeep)
            have hl : (ents.modify j' fun e => { e with key := b, val := u }).toList = ents.toList.set j' { e' with key := b, val := u } := by
              apply List.ext_getElem?;intro n;simp only [Array.getElem?_toList, Array.getElem?_modify, List.getElem?_set];by_cases hn : j' = n
              · subst hn;obtain ⟨h1, h2⟩ := Array.getElem?_eq_some_iff.1 hj';simp [h1, h2]
              · simp [hn]
            rw [hl];exact he.set (e := { e' with key := b, val := u }) (.lit _) hv.mTok j'
          refine ⟨{ g.w with heap := g.w.heap.setIfInBounds (g.β j) (.map (ents.modify j' fun e => { e with key := b, val := u }) clock) }, ?_, Post.of rfl (sim_map hM sm hrel) (.lit _) (keep_map sm hM)⟩;simp [Instr.mapUpdate, run_underlying u1, MapKept.run_getObj_map hb, hck, MapKept.run_findKey u2 q2, hj', q4, MapKept.run_keyThatStays hkey, MapKept.run_setObj_map _ hb]
      · cases h
    · rename_i Po k' hM;split at h
      · rename_i hko;cases h;obtain ⟨rfl, hP, hPk⟩ := ho;cases hx with
        | mp _ hj =>
        have := hkk.lit_inv; subst this;rw [← k2] at hko hP;have hkey := keyOk_is hko;obtain ⟨ents, clock, hb, hst, hks, hrl, f1, f2⟩ := find_own sm hM hkey hP.is;have hck : (Instr.checkKey false 10000 kt b).run P g.w = .ok () g.w := MapKept.run_checkKey u2 hkey false 9999;have hpair : pairsOf (ents.push { key := b, val := u, born := clock }) = pairsOf ents ++ [(b, u)] := by simp [pairsOf]
        refine ⟨{ g.w with heap := g.w.heap.setIfInBounds (g.β j) (.map (ents.push { key := b, val := u, born := clock }) (clock + 1)) }, ?_,
          Post.of rfl (sim_own hM sm (MapKept.stamped_push hst f2) (fun e he => ?_) hrl (fun w C bs h => ⟨_, u, hpair, h⟩) fun c v' hc => ?_) (.lit _) (keep_own sm hM)⟩
        · simp [Instr.mapUpdate, run_underlying u1, MapKept.run_getObj_map hb, hck, MapKept.run_findKey u2 f1, MapKept.run_setObj_map _ hb]
        · simp only [Array.toList_push, List.mem_append, List.mem_singleton] at he;rcases he with he | rfl
          · exact hks e he
          · exact hPk
        · cases hc;exact ⟨{ key := b, val := u, born := clock }, by simp, rfl, hv.mTok⟩
      · cases h
    · cases h
  · cases h
def mapDelOut (kt : TyK) (M : List AObj) (x k : AV) : Option Out :=
  match x, k with
  | .mp i, .lit kv => match M[i]? with
    | some (.mapo es) => if keyOk kt kv then (hasV kv es).map fun _ => { av := .tup [], M := some (M.set i (.mapo (delV kv es))) } else none
    | some (.mapr es vis cur t) => if keyOk kt kv then (hasV kv es).map fun _ => { av := .tup [], M := some (M.set i (.mapr (delV kv es) vis cur t)) } else none
    | some (.own P (some (k', some _))) => if keyOk kt kv then some { av := .tup [], M := some (M.set i (.own (P.del kv) (some (kv, none)))), obl := k' = kv ∧ OwnKey kt P } else none
    | _ => none
  | _, _ => none
theorem mapDelOut_runs {P : Program} {ty : TyTab} (hty : TyOk P ty) {T T2 kt et rt : TypeId} {i ik : TyI} (hi : ty T = some i) (hk : i.k = .map kt et) (hkt : ty kt = some ik)
    {g : G} {x k : AV} {a b : Value} {o : Out} (h : mapDelOut ik.k g.M x k = some o) (ho : o.obl) (sm : Sim g) (hx : R g x a) (hkk : R g k b) :
    Runs P (Builtin.delete_ #[T, T2] rt #[a, b]) g o := by
  obtain ⟨_, d, _, _, u1, k1, _⟩ := hty.facts hi;have := kind_map (k1.trans hk); subst this;obtain ⟨_, dk, _, _, u2, k2, _⟩ := hty.facts hkt;unfold mapDelOut at h;split at h
  · rename_i j kv;split at h
    · rename_i es hM;split at h
      · rename_i hko;cases hx with
        | mp _ hj =>
        have := hkk.lit_inv; subst this;obtain ⟨c, hc, rfl⟩ := Option.map_eq_some_iff.1 h;rw [← k2] at hko;have hkey := keyOk_is hko;obtain ⟨ents, clock, hb, hst, he⟩ := map_at sm hM;obtain ⟨hks, hf⟩ := find_now hkey he 0 hc;have hck : (Instr.checkKey ents.isEmpty 10000 kt b).run P g.w = .ok () g.w := MapKept.run_checkKey u2 hkey ents.isEmpty 9999;rcases hf with ⟨rfl, q2, q3, q4, q5, q6⟩ | ⟨rfl, j', e', q2, q3, q4, q5, q6, q7⟩
        · have hrel : MapRel g (delV b es) (.map ents clock) := by rw [q5]; exact EntR.rel he hst
          refine ⟨.tuple #[], { g.w with heap := g.w.heap.setIfInBounds (g.β j) (.map ents clock) }, ?_, Post.of rfl (sim_map hM sm hrel) (.tup _ _ rfl fun j hj => by simp at hj) (keep_map sm hM)⟩;simp [Builtin.delete_, run_underlying u1, MapKept.run_getObj_map hb, hck, MapKept.run_findKey u2 q2, MapKept.run_setObj_map _ hb]
        · have hrel : MapRel g (delV b es) (.map (ents.eraseIdxIfInBounds j') clock) := by
            rw [q7];refine EntR.rel ?_ (MapKept.stamped_erase hst j')
            have hl : (ents.eraseIdxIfInBounds j').toList = ents.toList.eraseIdx j' := by
              have := (List.getElem?_eq_some_iff.1 q3).1;simp only [Array.length_toList] at this;unfold Array.eraseIdxIfInBounds;simp [this]
            rw [hl];exact he.erase j'
          refine ⟨.tuple #[], { g.w with heap := g.w.heap.setIfInBounds (g.β j) (.map (ents.eraseIdxIfInBounds j') clock) }, ?_, Post.of rfl (sim_map hM sm hrel) (.tup _ _ rfl fun j hj => by simp at hj) (keep_map sm hM)⟩;simp [Builtin.delete_, run_underlying u1, MapKept.run_getObj_map hb, hck, MapKept.run_findKey u2 q2, MapKept.run_setObj_map _ hb]
      · cases h
    · rename_i es vis cur t hM;split at h
      · rename_i hko;cases hx with
        | mp _ hj =>
        have := hkk.lit_inv; subst this;obtain ⟨c, hc, rfl⟩ := Option.map_eq_some_iff.1 h;rw [← k2] at hko;have hkey := keyOk_is hko;obtain ⟨t1, t2, o1, oi, hb, hbi, ents, clock, seen, rfl, rfl, ⟨ents', clock', hee, hst, hl, hes⟩, hseen, hcur⟩ := sm.mapr j es vis cur t hM;cases hee;have he : EntR g es ents.toList := .of hl hes;obtain ⟨hks, hf⟩ := find_now hkey he 0 hc;have hck : (Instr.checkKey ents.isEmpty 10000 kt b).run P g.w = .ok () g.w := MapKept.run_checkKey u2 hkey ents.isEmpty 9999;have hne : g.β j ≠ (g.ρ j).b := fun h => by rw [h, hbi] at hb; cases hb
        have hlt := whole_lt sm hM (.inl rfl);have hlti := whole_lt sm hM (.inr rfl)
        have go : ∀ ents2 : Array MapEntry, (∀ x ∈ ents2.toList, x ∈ ents.toList) → MapRel g (delV b es) (.map ents2 clock) →
            (Builtin.delete_ #[T, T2] rt #[.map (some (g.β j)), b]).run P g.w = .ok (.tuple #[]) { g.w with heap := g.w.heap.setIfInBounds (g.β j) (.map ents2 clock) } →
            Runs P (Builtin.delete_ #[T, T2] rt #[.map (some (g.β j)), b]) g { av := .tup [], M := some (g.M.set j (.mapr (delV b es) vis cur t)) } := by
          intro ents2 hsub hrel hrun;have hin : Within g j (.mapr (delV b es) vis cur t) (g.ρ j) := fun a ha => .inl ⟨_, hM, ha⟩;have hsz : g.w.heap.size ≤ ({ g.w with heap := g.w.heap.setIfInBounds (g.β j) (.map ents2 clock) } : World).heap.size := by simp
          have hoth : ∀ q, q < g.w.heap.size → ¬ (AObj.mapr es vis cur t).whole (g.β j) (g.ρ j) q → ({ g.w with heap := g.w.heap.setIfInBounds (g.β j) (.map ents2 clock) } : World).heap[q]? = g.w.heap[q]? :=
            fun q _ hq => Array.getElem?_setIfInBounds_ne fun h => hq (.inl h.symm)
          have k := keep_turn (es := delV b es) (vis := vis) (cur := cur) (t := t) (r := g.ρ j) sm hM (fun _ h => h) hin hsz hoth ⟨rfl, rfl⟩
          have s' := sim_turn (q := .map ents2 clock) (qi := .mapIter (some (g.β j)) clock seen clock) sm hM (fun _ h => h) hin hsz hoth ⟨rfl, rfl⟩ (by simpa using hlti) t1 t2
            (by simp [hlt]) (by show (g.w.heap.setIfInBounds (g.β j) _)[(g.ρ j).b]? = _; rw [Array.getElem?_setIfInBounds_ne hne]; exact hbi)
            ⟨ents2, clock, seen, rfl, rfl, hrel, fun x hx => hseen x (hsub x hx), fun kk hkk => by
              obtain ⟨st, q1, q2⟩ := hcur kk hkk;exact ⟨st, q1, fun x hx => q2 x (hsub x hx)⟩⟩
          exact ⟨_, _, hrun, Post.of rfl s' (.tup _ _ rfl fun j hj => by simp at hj) k⟩
        rcases hf with ⟨rfl, q2, q3, q4, q5, q6⟩ | ⟨rfl, j', e', q2, q3, q4, q5, q6, q7⟩
        · refine go ents (fun _ h => h) (by rw [q5]; exact EntR.rel he hst) ?_;simp [Builtin.delete_, run_underlying u1, MapKept.run_getObj_map hb, hck, MapKept.run_findKey u2 q2, MapKept.run_setObj_map _ hb]
        · have hl2 : (ents.eraseIdxIfInBounds j').toList = ents.toList.eraseIdx j' := by
            have := (List.getElem?_eq_some_iff.1 q3).1;simp only [Array.length_toList] at this;unfold Array.eraseIdxIfInBounds;simp [this]
          refine go (ents.eraseIdxIfInBounds j') (fun x hx => by rw [hl2] at hx; exact List.mem_of_mem_eraseIdx hx) ?_ ?_
          · rw [q7];refine EntR.rel ?_ (MapKept.stamped_erase hst j');rw [hl2];exact he.erase j'
          · simp [Builtin.delete_, run_underlying u1, MapKept.run_getObj_map hb, hck, MapKept.run_findKey u2 q2, MapKept.run_setObj_map _ hb]
      · cases h
    · rename_i Po k' av hM;split at h
      · rename_i hko;cases h;obtain ⟨rfl, hP⟩ := ho;cases hx with
        | mp _ hj =>
        have := hkk.lit_inv; subst this;rw [← k2] at hko hP;have hkey := keyOk_is hko;obtain ⟨ents, clock, hb, hst, hks, hrl, j', e', f1, f2, f3, _⟩ := find_own sm hM hkey hP.is;have hck : (Instr.checkKey ents.isEmpty 10000 kt b).run P g.w = .ok () g.w := MapKept.run_checkKey u2 hkey ents.isEmpty 9999
        have hl2 : (ents.eraseIdxIfInBounds j').toList = ents.toList.eraseIdx j' := by
          have := (List.getElem?_eq_some_iff.1 f2).1;simp only [Array.length_toList] at this;unfold Array.eraseIdxIfInBounds;simp [this]
        obtain ⟨m1, m2⟩ := List.getElem?_eq_some_iff.1 f2
        have hsplit : ents.toList = ents.toList.take j' ++ e' :: ents.toList.drop (j' + 1) := by
          rw [← m2, List.getElem_cons_drop]; exact (List.take_append_drop _ _).symm
        have her : ents.toList.eraseIdx j' = ents.toList.take j' ++ ents.toList.drop (j' + 1) := List.eraseIdx_eq_take_drop_succ _ _
        refine ⟨.tuple #[], { g.w with heap := g.w.heap.setIfInBounds (g.β j) (.map (ents.eraseIdxIfInBounds j') clock) }, ?_,
          Post.of rfl (sim_own hM sm (MapKept.stamped_erase hst j') (fun e he => hks e ?_) hrl (fun w C bs h => ⟨(ents.toList.take j').map fun e => (e.key, e.val), e'.val, (ents.toList.drop (j' + 1)).map fun e => (e.key, e.val), ?_, ?_⟩) fun c v' hc => ?_)
            (.tup _ _ rfl fun j hj => by simp at hj) (keep_own sm hM)⟩
        · simp [Builtin.delete_, run_underlying u1, MapKept.run_getObj_map hb, hck, MapKept.run_findKey u2 f1, MapKept.run_setObj_map _ hb]
        · rw [hl2] at he; exact List.mem_of_mem_eraseIdx he
        · simp only [pairsOf, hl2, her, List.map_append]
        · have e1 : pairsOf ents = (ents.toList.take j').map (fun e => (e.key, e.val)) ++ (e'.key, e'.val) :: (ents.toList.drop (j' + 1)).map (fun e => (e.key, e.val)) := by
            unfold pairsOf
            conv => lhs; rw [hsplit]
            simp
          rw [← f3, ← e1]; exact h
        · cases hc;intro x hx hxk;rw [hl2, her] at hx;have hn : (ents.toList.map (·.key)).Nodup := hst.2.2;rw [hsplit] at hn;simp only [List.map_append, List.map_cons, List.nodup_append, List.nodup_cons, List.mem_map, List.mem_cons] at hn;obtain ⟨_, ⟨n2, _⟩, n4⟩ := hn;rcases List.mem_append.1 hx with hx | hx
          · exact n4 _ ⟨x, hx, rfl⟩ _ (.inl rfl) (hxk.trans f3.symm)
          · exact n2 ⟨x, hx, hxk.trans f3.symm⟩
      · cases h
    · cases h
  · cases h
def curR (t : Nat) : List AObj → Option (List (AV × AV) × Value)
  | [] => none
  | o :: r => match o with
    | .mapr es _ (some k) u => if u = t then some (es, k) else curR t r
    | _ => curR t r
theorem curR_at {t : Nat} {es : List (AV × AV)} {k : Value} : ∀ {M : List AObj}, curR t M = some (es, k) → ∃ (i : Nat) (vis : List Value), M[i]? = some (AObj.mapr es vis (some k) t)
  | [], h => by cases h
  | o :: r, h => by
    unfold curR at h;split at h
    · rename_i es' vis k' u;split at h
      · rename_i hu;cases h;subst hu;exact ⟨0, vis, rfl⟩
      · obtain ⟨i, vis, q⟩ := curR_at h;exact ⟨i + 1, vis, q⟩
    · obtain ⟨i, vis, q⟩ := curR_at h;exact ⟨i + 1, vis, q⟩
theorem nodup_inj {α β : Type} {f : α → β} : ∀ {l : List α}, (l.map f).Nodup → ∀ {x y : α}, x ∈ l → y ∈ l → f x = f y → x = y
  | [], _, _, _, hx, _, _ => by cases hx
  | a :: l, h, x, y, hx, hy, e => by
    rw [List.map_cons, List.nodup_cons] at h;rcases List.mem_cons.1 hx with rfl | hx' <;> rcases List.mem_cons.1 hy with rfl | hy'
    · rfl
    · exact absurd (List.mem_map.2 ⟨y, hy', e.symm⟩) h.1
    · exact absurd (List.mem_map.2 ⟨x, hx', e⟩) h.1
    · exact nodup_inj h.2 hx' hy' e
theorem sameV_eq {a b : Value} (h : sameV a b = some true) : b = a := by
  unfold sameV at h;split at h
  · split at h
    · rename_i q a q' b' hq;subst hq;simp only [Option.some.injEq] at h
      have : b' = a := by
        unfold eqI at h;exact (of_decide_eq_true h).symm
      rw [this]
    · cases h
  · rename_i a b';simp only [Option.some.injEq] at h;rw [(eqS_iff a b').1 h]
  · rename_i a b';simp only [Option.some.injEq] at h;have : b' = a := by cases a <;> cases b' <;> first | rfl | cases h
    rw [this]
  · cases h
theorem hasV_mem {g : G} {k : Value} {es : List (AV × AV)} {l : List MapEntry} (hr : EntR g es l) (h : hasV k es = some true) : ∃ e ∈ l, e.key = k ∧ ∀ z, R g (getV k z es) e.val := by
  induction hr with
  | nil => cases h
  | @cons a v es e l hka hva r ih =>
    cases a <;> simp only [hasV, reduceCtorEq] at h;rename_i k';have hek : e.key = k' := hka.lit_inv;cases hs : sameV k k' with
    | none => simp [hs] at h
    | some c =>
      cases hh : hasV k es with
      | none => simp [hs, hh] at h
      | some c' =>
        simp only [hs, hh, Option.some.injEq] at h;cases c with
        | true => exact ⟨e, by simp, hek.trans (sameV_eq hs), fun z => by simpa [getV, hs] using hva⟩
        | false =>
          have hc : c' = true := by rw [← h]; cases c' <;> rfl
          subst hc;obtain ⟨e', q1, q2, q3⟩ := ih hh;exact ⟨e', List.mem_cons_of_mem _ q1, q2, fun z => by simpa [getV, hs] using q3 z⟩
def entryOut (M : List AObj) (x : AV) : Option Out :=
  match x with
  | .it t => match curR t M with
    | some (es, k) => match hasV k es with
      | some true => some { av := .tup [.lit k, getV k (.lit undef) es] }
      | _ => none
    | none => none
  | _ => none
theorem entryOut_runs {P : Program} {g : G} {x : AV} {a : Value} {o : Out} (h : entryOut g.M x = some o) (sm : Sim g) (hx : R g x a) : Runs P (Instr.entry a) g o := by
  unfold entryOut at h;split at h
  · rename_i t;split at h
    · rename_i es k hcu;split at h
      · rename_i hh;cases h;cases hx with
        | it _ ht =>
        obtain ⟨i, vis, hM⟩ := curR_at hcu;obtain ⟨t1, t2, o1, oi, hb, hbi, ents, clock, seen, rfl, rfl, ⟨ents', clock', hee, hst, hl, hes⟩, hseen, hcur⟩ := sm.mapr i es vis (some k) t hM;cases hee;obtain ⟨e, q1, q2, q3⟩ := hasV_mem (.of hl hes) hh;obtain ⟨st, r1, r2⟩ := hcur k rfl;have hst' := r2 e q1 q2;subst hst'
        obtain ⟨seen', rfl⟩ : ∃ s' : Array Nat, seen = s'.push e.born := by
          obtain ⟨l⟩ := seen;rcases List.eq_nil_or_concat l with rfl | ⟨l', z, rfl⟩
          · simp at r1
          · simp only [List.concat_eq_append] at r1 ⊢;refine ⟨⟨l'⟩, ?_⟩;simp [Array.back?] at r1;simp [r1]
        have hrun := run_entry_at (P := P) g.w (g.ρ i).b (g.β i) clock seen' ents clock e hbi hb q1 hst.2.1;rw [t2] at hrun;refine ⟨_, g.w, hrun, Post.same rfl sm (.tup _ _ rfl fun j hj => ?_)⟩
        match j, hj with
        | 0, _ => rw [← q2]; exact .lit _
        | 1, _ => exact q3 _
      · cases h
    · cases h
  · cases h
def mapLenOut (M : List AObj) (x : AV) : Option Out :=
  match x with
  | .mp i => match M[i]? with
    | some (.mapo es) => some { av := .lit (.int .i64 (lenL es)) }
    | _ => none
  | _ => none
theorem mapLenOut_runs {P : Program} {ty : TyTab} (hty : TyOk P ty) {T kt et rt : TypeId} {i : TyI} (hi : ty T = some i) (hk : i.k = .map kt et)
    {g : G} {x : AV} {a : Value} {o : Out} (h : mapLenOut g.M x = some o) (sm : Sim g) (hx : R g x a) : Runs P (Builtin.len_ #[T] rt #[a]) g o := by
  obtain ⟨_, d, _, _, u1, k1, _⟩ := hty.facts hi;have := kind_map (k1.trans hk); subst this;unfold mapLenOut at h;split at h
  · rename_i j;split at h
    · rename_i es hM;cases h;cases hx with
      | mp _ hj =>
      obtain ⟨ents, clock, hb, hst, he⟩ := map_at sm hM;refine ⟨.int .i64 (lenL es), g.w, ?_, Post.same rfl sm (.lit _)⟩;have := he.len;simp only [Array.length_toList] at this;simp [Builtin.len_, run_underlying u1, MapKept.run_getObj_map hb, goInt, lenL, this]
    · cases h
  · cases h
abbrev Gam := FuncId → List AV → List AObj → Option Out
def CallOk (P : Program) (f : FuncId) (l : List AV) (M : List AObj) (out : Out) : Prop :=
  ∀ (g : G) (vs : List Value), g.M = M → Sim g → RL g l vs → out.obl →
    (callFunc f vs.toArray).run P g.w = .ok (.enter f vs.toArray) g.w ∧ Calls P f vs.toArray g.w (fun e w' => ∃ v, e = .returned v ∧ Post g out v w')
structure GamOk (P : Program) (Γ : Gam) : Prop where
  h : ∀ f l M out, Γ f l M = some out → CallOk P f l M out
def evPs (A : Env) (vs : List (Nat × Bool)) : List (Nat × Operand) → Option (List (Nat × AV))
  | [] => some []
  | (i, x) :: r => match evX A vs x, evPs A vs r with
    | some a, some l => some ((i, a) :: l)
    | _, _ => none
theorem EnvRel.evPs {g : G} {A : Env} {a : Act} (h : EnvRel g A a.tmps) {vs : List (Nat × Bool)} (hv : Tr a.tmps vs) : ∀ {xs : List (Nat × Operand)} {l : List (Nat × AV)}, evPs A vs xs = some l → PL g l (xs.map fun (i, x) => (i, a.eval x))
  | [], l, hg => by cases hg; exact .nil
  | (i, x) :: r, l, hg => by
    unfold Ab.evPs at hg;split at hg
    · rename_i b l' h1 h2;cases hg;exact .cons (h.ev hv h1) (h.evPs hv h2)
    · cases hg
def evO (A : Env) (vs : List (Nat × Bool)) : Option Operand → Option (Option AV)
  | none => some none
  | some x => match evX A vs x with
    | some a => some (some a)
    | none => none
theorem EnvRel.evO {g : G} {A : Env} {a : Act} (h : EnvRel g A a.tmps) {vs : List (Nat × Bool)} (hv : Tr a.tmps vs) {x : Option Operand} {o : Option AV} (hg : evO A vs x = some o) : OR g o (x.map a.eval) := by
  unfold Ab.evO at hg;split at hg
  · cases hg; trivial
  · split at hg
    · rename_i h1; cases hg; exact h.ev hv h1
    · cases hg
def copyOut (ie : TyI) (M : List AObj) (i j : Nat) (n m : Int) : Option Out :=
  match M[i]?, M[j]? with
  | some (.blk cs), some (.blk ds) => some { av := .lit (.int .i64 n), M := some (M.set i (.blk ds)), obl := n = m ∧ lenL cs = n ∧ lenL ds = n ∧ ie.size = 1 }
  | _, _ => none
theorem copyOut_runs {P : Program} {ty : TyTab} (hty : TyOk P ty) {T T2 rt : TypeId} {ti : TyI} (hi : ty T = some ti) {e : TypeId} (hk : ti.k = .slice e) {ie : TyI} (hie : ty e = some ie)
    {g : G} {i j : Nat} {n m : Int} {a b : Value} {o : Out} (h : copyOut ie g.M i j n m = some o) (ho : o.obl) (sm : Sim g) (ha : R g (.slb i n) a) (hb : R g (.slb j m) b) :
    Runs P (Builtin.copy_ #[T, T2] rt #[a, b]) g o := by
  obtain ⟨info, d, z, h1, h2, h3, _⟩ := hty.facts hi;have := kind_slice (h3.trans hk); subst this;obtain ⟨einfo, ed, zv, q1, _, _, q4, _⟩ := hty.facts hie;unfold copyOut at h;split at h
  · rename_i cs ds hc hd;cases h;obtain ⟨o1, o2, o3, o4⟩ := ho;cases ha with
    | slb _ _ p hpi hp =>
    cases hb with
    | slb _ _ q hqi hq =>
    subst hp;subst hq;have hpq : q = p := by omega
    subst hpq;unfold lenL at o2 o3;obtain ⟨xs, Tx, x1, x2, x3, x4⟩ := sm.blk i cs hc;obtain ⟨ys, Ty, y1, y2, y3, y4⟩ := sm.blk j ds hd
    have hrun := run_copy_row (P := P) g.w T T2 rt e (g.β i) 0 q q ⟨g.β j, 0, none⟩ q q xs Tx ys.toList h2 (by rw [q1]; simp only [Option.map_some]; rw [q4, o4])
      x1 (by simp only [Array.length_toList, Nat.min_self]; omega) (fun k v hv => by
        rw [addr_add];simp only [World.cell?, y1, Nat.zero_add];simpa using hv) (by simp only [Array.length_toList]; omega) (fun v hv => by
        obtain ⟨k, hk, rfl⟩ := List.mem_iff_getElem.1 hv;have hk' : k < ys.size := by simpa using hk
        have := y4 k (by omega);have e : ys.getD k undef = ys[k] := by simp [Array.getD, hk']
        rw [e] at this; simpa using this)
    have hrow : (xs.toList.take 0 ++ ys.toList ++ xs.toList.drop (0 + ys.toList.length)).toArray = ys := by
      have : xs.toList.drop (0 + ys.toList.length) = [] := List.drop_eq_nil_of_le (by simp only [Array.length_toList]; omega);rw [this]; simp
    rw [hrow] at hrun;have hl : (ys.toList.length : Int) = (q : Int) := by simp only [Array.length_toList]; omega
    rw [hl] at hrun;refine ⟨_, _, hrun, ?_⟩;refine Post.of (β := g.β) (ρ := upd g.ρ i (g.ρ i)) rfl ?_ (.lit _) ?_
    · exact sim_stored sm hc (setRow_rowed x1) y2 y3 y4
    · exact keep_stored sm hc (setRow_rowed x1)
  · cases h
def eqFs (eq : TypeId → List AV → List AV → Option Bool) (ty : TyTab) : List (Nat × TypeId) → List AV → List AV → Option Bool
  | [], _, _ => some true
  | (off, t) :: r, xs, ys => match ty t with
    | some i => match eq t ((xs.drop off).take i.size) ((ys.drop off).take i.size) with
      | some p => match eqFs eq ty r xs ys with
        | some q => some (pickB p q false)
        | none => none
      | none => none
    | none => none
def eqT (ty : TyTab) : Nat → TypeId → List AV → List AV → Option Bool
  | 0, _, _, _ => none
  | d + 1, t, xs, ys => match ty t with
    | some i => match i.k, xs, ys with
      | .bool, [.lit (.bool a)], [.lit (.bool b)] => some (eqB a b)
      | .int _, [.lit (.int k a)], [.lit (.int k' b)] => if k = k' then some (eqI a b) else none
      | .str, [.lit (.string a)], [.lit (.string b)] => some (eqS a b)
      | .struct l, xs, ys => eqFs (eqT ty d) ty l xs ys
      | _, _, _ => none
    | none => none
def LitsOf (xs : List AV) (vs : List Value) : Prop := ∀ (j : Nat) (l : Value), xs[j]? = some (.lit l) → vs[j]? = some l
theorem LitsOf.drop {xs : List AV} {vs : List Value} (h : LitsOf xs vs) (n : Nat) : LitsOf (xs.drop n) (vs.drop n) := fun j l hj => by
  rw [List.getElem?_drop] at hj ⊢; exact h _ _ hj
theorem LitsOf.take {xs : List AV} {vs : List Value} (h : LitsOf xs vs) (n : Nat) : LitsOf (xs.take n) (vs.take n) := fun j l hj => by
  rw [List.getElem?_take] at hj ⊢;split at hj
  · rename_i hlt; rw [if_pos hlt]; exact h _ _ hj
  · cases hj
def ValAt (i : TyI) (xs : List AV) (a : Value) : Prop := if i.k.agg then ∃ arr : Array Value, a = .agg arr ∧ LitsOf xs arr.toList else ∃ l, xs = [.lit l] ∧ a = l
section
variable {P : Program} {ty : TyTab}
theorem eqT_lit {d : Nat} {t : TypeId} {xs ys : List AV} {p : Bool} {i : TyI} (hi : ty t = some i) (h : eqT ty d t xs ys = some p) (ha : i.k.agg = false) : ∃ l l', xs = [.lit l] ∧ ys = [.lit l'] := by
  cases d with
  | zero => cases h
  | succ d =>
    unfold eqT at h;rw [hi] at h;simp only at h;split at h
    · exact ⟨_, _, rfl, rfl⟩
    · exact ⟨_, _, rfl, rfl⟩
    · exact ⟨_, _, rfl, rfl⟩
    · rename_i l _ _ hk; rw [hk] at ha; cases ha
    · cases h
theorem part_at (hty : TyOk P ty) {t : TypeId} {i : TyI} (hi : ty t = some i) {xs : List AV} {arr : Array Value} (hx : LitsOf xs arr.toList) {off : Nat} (hl : i.k.agg = false → ∃ l, (xs.drop off).take i.size = [.lit l]) (w : World) :
    ∃ a, (part t arr off).run P w = .ok a w ∧ ValAt i ((xs.drop off).take i.size) a := by
  have hg := run_isAgg hty hi w;have hs := run_sizeOf hty hi w;unfold part;cases ha : i.k.agg with
  | true =>
    refine ⟨.agg (arr.extract off (off + i.size)), ?_, ?_⟩
    · simp [hg, ha, hs]
    · unfold ValAt;rw [if_pos ha];refine ⟨_, rfl, ?_⟩
      have : (arr.extract off (off + i.size)).toList = (arr.toList.drop off).take i.size := by
        rw [Array.toList_extract];simp [List.extract_eq_take_drop]
      rw [this];exact (hx.drop off).take i.size
  | false =>
    obtain ⟨l, hl⟩ := hl ha
    have h0 : xs[off]? = some (.lit l) := by
      have : ((xs.drop off).take i.size)[0]? = some (.lit l) := by rw [hl]; rfl
      rw [List.getElem?_take] at this;split at this
      · rw [List.getElem?_drop] at this; simpa using this
      · cases this
    have h1 := hx off l h0;rw [Array.getElem?_toList] at h1;refine ⟨l, ?_, ?_⟩
    · simp [hg, ha, h1]
    · unfold ValAt;rw [if_neg (by simp [ha])];exact ⟨l, hl, rfl⟩
theorem eqFs_run (hty : TyOk P ty) {d D m : Nat} {xs ys : List AV} {arr brr : Array Value} (hx : LitsOf xs arr.toList) (hy : LitsOf ys brr.toList)
    (ih : ∀ t i xs ys p a b w, ty t = some i → eqT ty d t xs ys = some p → P.keyTypeAt m t = true → ValAt i xs a → ValAt i ys b → (Op.equalIn D t a b).run P w = .ok p w) :
    ∀ (fs : List Field) (p : Bool) (w : World), (∀ f ∈ fs, f.name ≠ "_" ∧ P.keyTypeAt m f.type = true) → eqFs (eqT ty d) ty (fs.map fun f => (f.offset, f.type)) xs ys = some p → (Op.eqFields D arr brr fs).run P w = .ok p w
  | [], p, w, _, h => by
    simp only [List.map_nil, eqFs, Option.some.injEq] at h;subst h;simp [Op.eqFields]
  | f :: fs, p, w, hn, h => by
    simp only [List.map_cons, eqFs] at h;split at h
    · rename_i i hi;split at h
      · rename_i p1 h1;split at h
        · rename_i q h2;simp only [Option.some.injEq] at h;subst h;obtain ⟨hn1, hk1⟩ := hn f (by simp);obtain ⟨a, ra, va⟩ := part_at hty hi hx (off := f.offset) (fun ha => by obtain ⟨l, _, e, _⟩ := eqT_lit hi h1 ha; exact ⟨l, e⟩) w;obtain ⟨b, rb, vb⟩ := part_at hty hi hy (off := f.offset) (fun ha => by obtain ⟨_, l, _, e⟩ := eqT_lit hi h1 ha; exact ⟨l, e⟩) w;have re := ih f.type i _ _ p1 a b w hi h1 hk1 va vb;have rest := eqFs_run hty hx hy ih fs q w (fun g hg => hn g (by simp [hg])) h2;simp only [Op.eqFields, hn1, ne_eq, not_false_eq_true, if_true, Sem.run_bind, ra, rb, re, Result.andThen_ok];cases p1
          · simp [pickB]
          · simp [pickB, rest]
        · cases h
      · cases h
    · cases h
theorem eqT_run (hty : TyOk P ty) : ∀ (d : Nat) (m D : Nat) (t : TypeId) (i : TyI) (xs ys : List AV) (p : Bool) (a b : Value) (w : World), d ≤ D → ty t = some i → eqT ty d t xs ys = some p → P.keyTypeAt m t = true → ValAt i xs a → ValAt i ys b →
    (Op.equalIn D t a b).run P w = .ok p w
  | 0, _, _, _, _, _, _, _, _, _, _, _, _, h, _, _, _ => by cases h
  | d + 1, 0, _, _, _, _, _, _, _, _, _, _, _, _, h, _, _ => by simp [Program.keyTypeAt] at h
  | d + 1, m + 1, 0, _, _, _, _, _, _, _, _, h, _, _, _, _, _ => absurd h (by omega)
  | d + 1, m + 1, D + 1, t, i, xs, ys, p, a, b, w, hD, hi, h, hk, ha, hb => by
    obtain ⟨info, ds, z, h1, h2, h3, _⟩ := hty.facts hi;unfold eqT at h;rw [hi] at h;simp only at h;unfold ValAt at ha hb;split at h
    · rename_i x y hkk;rw [if_neg (by rw [hkk]; exact Bool.false_ne_true)] at ha hb;obtain ⟨_, e1, rfl⟩ := ha;obtain ⟨_, e2, rfl⟩ := hb;cases e1; cases e2;cases h;rw [hkk] at h3;cases ds <;> simp [kindOf] at h3;simp [Op.equalIn, run_underlying h2, eqB]
    · rename_i kk k x k' y hkk;rw [if_neg (by rw [hkk]; exact Bool.false_ne_true)] at ha hb;obtain ⟨_, e1, rfl⟩ := ha;obtain ⟨_, e2, rfl⟩ := hb;cases e1; cases e2;split at h
      · rename_i hk2;cases h;subst hk2;rw [hkk] at h3;cases ds <;> simp [kindOf] at h3;simp [Op.equalIn, run_underlying h2, eqI]
      · cases h
    · rename_i x y hkk;rw [if_neg (by rw [hkk]; exact Bool.false_ne_true)] at ha hb;obtain ⟨_, e1, rfl⟩ := ha;obtain ⟨_, e2, rfl⟩ := hb;cases e1; cases e2;cases h;rw [hkk] at h3;cases ds <;> simp [kindOf] at h3;simp [Op.equalIn, run_underlying h2, eqS, beq_toListBytes]
    · rename_i l _ _ hkk;rw [if_pos (by rw [hkk]; rfl)] at ha hb;obtain ⟨arr, rfl, la⟩ := ha;obtain ⟨brr, rfl, lb⟩ := hb;rw [hkk] at h3;cases ds with
      | struct fs =>
        simp only [kindOf, TyK.struct.injEq] at h3;subst h3;simp only [Program.keyTypeAt, h2, Bool.and_eq_true, Bool.not_eq_true'] at hk;have hfs : P.fieldsOf t = fs := by simp [Program.fieldsOf, h2]
        rw [run_equalIn_struct w D t arr brr (by rw [hfs]; exact h2) hk.2, hfs];refine eqFs_run hty la lb (fun t i xs ys p a b w q1 q2 q3 q4 q5 => eqT_run hty d m D t i xs ys p a b w (by omega) q1 q2 q3 q4 q5) fs.toList p w (fun f hf => ?_) h;have := Array.all_eq_true_iff_forall_mem.1 hk.1.1 f (Array.mem_toList_iff.1 hf);simp only [Bool.and_eq_true, bne_iff_ne, ne_eq] at this;exact this
      | _ => simp [kindOf] at h3
    · cases h
end
def isLit : AV → Bool
  | .lit (.int _ _) => true
  | .lit (.bool _) => true
  | .lit (.string _) => true
  | _ => false
def litV : AV → Value
  | .lit v => v
  | _ => undef
def keyVal (cells : List AV) : Value := .agg (cells.map litV).toArray
def coverFs (cov : TypeId → Bool) (ty : TyTab) : Nat → List (Nat × TypeId) → Option Nat
  | n, [] => some n
  | n, (off, t) :: r => match ty t with
    | some i => if (off == n && cov t) = true then coverFs cov ty (n + i.size) r else none
    | none => none
def coverT (ty : TyTab) : Nat → TypeId → Bool
  | 0, _ => false
  | d + 1, t => match ty t with
    | some i => match i.k with
      | .bool => i.size == 1
      | .int _ => i.size == 1
      | .str => i.size == 1
      | .struct l => match coverFs (coverT ty d) ty 0 l with
        | some n => n == i.size
        | none => false
      | _ => false
    | none => false
theorem pickB_and2 {p q : Bool} : pickB p q false = true ↔ p = true ∧ q = true := by cases p <;> cases q <;> simp [pickB]
theorem coverFs_le {cov : TypeId → Bool} {ty : TyTab} : ∀ (l : List (Nat × TypeId)) (n m : Nat), coverFs cov ty n l = some m → n ≤ m
  | [], n, m, h => by simp only [coverFs, Option.some.injEq] at h; omega
  | (off, t) :: r, n, m, h => by
    unfold coverFs at h;split at h
    · split at h
      · have := coverFs_le r _ _ h; omega
      · cases h
    · cases h
theorem take_add_eq {α : Type} (l : List α) (n a b : Nat) : (l.drop n).take (a + b) = (l.drop n).take a ++ (l.drop (n + a)).take b := by
  rw [List.take_add, List.drop_drop]
section
variable {P : Program} {ty : TyTab}
theorem eqFs_eq {d : Nat} {xs ys : List AV} (ih : ∀ t i a b, ty t = some i → coverT ty d t = true → a.length = i.size → b.length = i.size → eqT ty d t a b = some true → a = b) :
    ∀ (l : List (Nat × TypeId)) (n m : Nat), coverFs (coverT ty d) ty n l = some m → m ≤ xs.length → m ≤ ys.length → eqFs (eqT ty d) ty l xs ys = some true → (xs.drop n).take (m - n) = (ys.drop n).take (m - n)
  | [], n, m, h, _, _, _ => by
    simp only [coverFs, Option.some.injEq] at h;subst h;simp
  | (off, t) :: r, n, m, h, hx, hy, he => by
    unfold coverFs at h;split at h
    · rename_i i hi;split at h
      · rename_i hc;simp only [Bool.and_eq_true, beq_iff_eq] at hc;obtain ⟨rfl, hc⟩ := hc;have hle := coverFs_le r _ _ h;simp only [eqFs, hi] at he;split at he
        · rename_i p hp;split at he
          · rename_i q hq;simp only [Option.some.injEq] at he;obtain ⟨rfl, rfl⟩ := pickB_and2.1 he;have h1 := ih t i _ _ hi hc (by simp; omega) (by simp; omega) hp;have h2 := eqFs_eq ih r _ _ h hx hy hq;have e : m - off = i.size + (m - (off + i.size)) := by omega
            rw [e, take_add_eq, take_add_eq, h1, h2]
          · cases he
        · cases he
      · cases h
    · cases h
theorem eqT_eq : ∀ (d : Nat) (t : TypeId) (i : TyI) (xs ys : List AV), ty t = some i → coverT ty d t = true → xs.length = i.size → ys.length = i.size → eqT ty d t xs ys = some true → xs = ys
  | 0, _, _, _, _, _, h, _, _, _ => by cases h
  | d + 1, t, i, xs, ys, hi, hc, hx, hy, he => by
    unfold coverT at hc;unfold eqT at he;rw [hi] at hc he;simp only at hc he;split at he
    · rename_i a b hk;simp only [Option.some.injEq, eqB] at he
      simp_all
    · rename_i kk k a k' b hk;split at he
      · simp only [Option.some.injEq, eqI] at he
        simp_all
      · cases he
    · rename_i a b hk;simp only [Option.some.injEq] at he;rw [eqS_iff] at he
      simp_all
    · rename_i l hk;rw [hk] at hc;simp only at hc;split at hc
      · rename_i n hn;have hn' : n = i.size := by simpa using hc
        subst hn';have := eqFs_eq (fun t i a b q1 q2 q3 q4 q5 => eqT_eq d t i a b q1 q2 q3 q4 q5) l 0 _ hn (by omega) (by omega) he;rw [Nat.sub_zero, List.drop_zero, List.drop_zero, List.take_of_length_le (by omega), List.take_of_length_le (by omega)] at this;exact this
      · cases hc
    · cases he
theorem eqFs_refl {d : Nat} {xs : List AV} (ih : ∀ t a p, eqT ty d t a a = some p → p = true) : ∀ (l : List (Nat × TypeId)) (p : Bool), eqFs (eqT ty d) ty l xs xs = some p → p = true
  | [], p, h => by simpa [eqFs] using h.symm
  | (off, t) :: r, p, h => by
    simp only [eqFs] at h;split at h
    · split at h
      · rename_i p1 h1;split at h
        · rename_i q hq;simp only [Option.some.injEq] at h;rw [← h, ih _ _ _ h1, eqFs_refl ih r q hq];rfl
        · cases h
      · cases h
    · cases h
theorem eqT_refl' : ∀ (d : Nat) (t : TypeId) (xs ys : List AV) (p : Bool), xs = ys → eqT ty d t xs ys = some p → p = true
  | 0, _, _, _, _, _, h => by cases h
  | d + 1, t, xs, ys, p, e, h => by
    unfold eqT at h;split at h
    · split at h
      · simp only [List.cons.injEq, AV.lit.injEq, Value.bool.injEq, and_true] at e;subst e;simpa [eqB] using h.symm
      · simp only [List.cons.injEq, AV.lit.injEq, Value.int.injEq, and_true] at e;obtain ⟨rfl, rfl⟩ := e;simpa [eqI] using h.symm
      · simp only [List.cons.injEq, AV.lit.injEq, Value.string.injEq, and_true] at e;subst e;simp only [Option.some.injEq] at h;rw [← h];exact (eqS_iff _ _).2 rfl
      · subst e;exact eqFs_refl (fun t a p q => eqT_refl' d t a a p rfl q) _ _ h
      · cases h
    · cases h
theorem isLit_eq {a : AV} (h : isLit a = true) : a = .lit (litV a) := by
  unfold isLit at h;split at h <;> first | rfl | cases h
theorem isLit_inj {a b : AV} (ha : isLit a = true) (hb : isLit b = true) (h : litV a = litV b) : a = b := by rw [isLit_eq ha, isLit_eq hb, h]
theorem isLit_bits {a : AV} (h : isLit a = true) (n : Nat) : Instr.sameBits n (litV a) (litV a) = true := by
  unfold isLit at h;split at h <;> first | (cases n <;> simp [litV, Instr.sameBits]; done) | cases h | skip
  all_goals (simp only [litV]; cases n <;> simp [Instr.sameBits, MapKept.bytes_beq])
theorem keyVal_inj : ∀ {a b : List AV}, a.all isLit = true → b.all isLit = true → keyVal a = keyVal b → a = b := by
  intro a b ha hb h;simp only [keyVal, Value.agg.injEq, List.toArray_eq_iff] at h
  induction a generalizing b with
  | nil => cases b with
    | nil => rfl
    | cons _ _ => simp at h
  | cons x r ih => cases b with
    | nil => simp at h
    | cons y q =>
      simp only [List.all_cons, Bool.and_eq_true] at ha hb;simp only [List.map_cons, List.cons.injEq] at h;rw [isLit_inj ha.1 hb.1 h.1, ih ha.2 hb.2 h.2]
theorem R.keyVal {g : G} {cells : List AV} {k : Value} (h : R g (.agg cells) k) (hl : cells.all isLit = true) : k = Ab.keyVal cells := by
  cases h with
  | agg _ xs hs h1 h4 =>
    simp only [Ab.keyVal, Value.agg.injEq];apply Array.ext
    · simp [hs]
    · intro j hj hj';have hjc : j < cells.length := by simpa using hj'
      have q := h1 j hjc;have hlit := isLit_eq (List.all_eq_true.1 hl _ (List.getElem_mem hjc));rw [hlit] at q;have := q.lit_inv;simp only [Array.getD, hj, dif_pos] at this;simpa using this
theorem R.ofKey {g : G} {cells : List AV} (hl : cells.all isLit = true) : R g (.agg cells) (Ab.keyVal cells) := by
  refine .agg _ _ (by simp) (fun j hj => ?_) fun j hj => ?_
  · have hlit := List.all_eq_true.1 hl _ (List.getElem_mem hj);have e : (cells.map litV).toArray.getD j undef = litV cells[j] := by simp [Array.getD, hj]
    rw [e, isLit_eq hlit];exact .lit _
  · have hlit := List.all_eq_true.1 hl _ (List.getElem_mem hj);have e : (cells.map litV).toArray.getD j undef = litV cells[j] := by simp [Array.getD, hj]
    rw [e];unfold isLit at hlit;split at hlit <;> first | rfl | cases hlit | skip
    all_goals (rename_i h; simp only [h]; rfl)
def sameL : List AV → List AV → Option Bool
  | [], [] => some true
  | .lit a :: r, .lit b :: s => match sameV a b, sameL r s with
    | some x, some y => some (x && y)
    | _, _ => none
  | _, _ => none
theorem sameL_eq : ∀ {c c' : List AV}, sameL c c' = some true → c' = c
  | [], [], _ => rfl
  | .lit a :: r, .lit b :: s, h => by
    unfold sameL at h;split at h
    · rename_i x y h1 h2;simp only [Option.some.injEq, Bool.and_eq_true] at h;obtain ⟨rfl, rfl⟩ := h;rw [sameV_eq h1, sameL_eq h2]
    · cases h
def hasC (c : List AV) : List (AV × AV) → Option Bool
  | [] => some false
  | (.agg c', _) :: r => match sameL c c', hasC c r with
    | some x, some y => some (x || y)
    | _, _ => none
  | _ :: _ => none
def getC (c : List AV) (z : AV) : List (AV × AV) → AV
  | [] => z
  | (.agg c', v) :: r => if sameL c c' = some true then v else getC c z r
  | _ :: r => getC c z r
theorem hasC_mem {g : G} {c : List AV} (hc : c.all isLit = true) {es : List (AV × AV)} {l : List MapEntry} (hr : EntR g es l) (h : hasC c es = some true) : ∃ e ∈ l, e.key = Ab.keyVal c ∧ ∀ z, R g (getC c z es) e.val := by
  induction hr with
  | nil => cases h
  | @cons a v es e l hka hva r ih =>
    cases a <;> simp only [hasC, reduceCtorEq] at h;rename_i c';cases hs : sameL c c' with
    | none => simp [hs] at h
    | some b =>
      cases hh : hasC c es with
      | none => simp [hs, hh] at h
      | some b' =>
        simp only [hs, hh, Option.some.injEq] at h;cases b with
        | true =>
          have := sameL_eq hs;subst this;exact ⟨e, by simp, hka.keyVal hc, fun z => by simpa [getC, hs] using hva⟩
        | false =>
          simp only [Bool.false_or] at h;subst h;obtain ⟨e', q1, q2, q3⟩ := ih hh;exact ⟨e', List.mem_cons_of_mem _ q1, q2, fun z => by simpa [getC, hs] using q3 z⟩
def entryKOut (M : List AObj) (x : AV) : Option Out :=
  match x with
  | .it t => match curR t M with
    | some (es, .agg ⟨l⟩) => if (l.map AV.lit).all isLit = true then (match hasC (l.map AV.lit) es with
      | some true => some { av := .tup [.agg (l.map AV.lit), getC (l.map AV.lit) (.lit undef) es] }
      | _ => none) else none
    | _ => none
  | _ => none
theorem keyVal_lits (l : List Value) : Ab.keyVal (l.map AV.lit) = .agg ⟨l⟩ := by
  simp only [Ab.keyVal, List.map_map];congr 2;exact (List.map_congr_left fun x _ => rfl).trans (List.map_id _)
theorem entryKOut_runs {P : Program} {g : G} {x : AV} {a : Value} {o : Out} (h : entryKOut g.M x = some o) (sm : Sim g) (hx : R g x a) : Runs P (Instr.entry a) g o := by
  unfold entryKOut at h;split at h
  · rename_i t;split at h
    · rename_i es l hcu;split at h
      · rename_i hlit;split at h
        · rename_i hh;cases h;cases hx with
          | it _ ht =>
          obtain ⟨i, vis, hM⟩ := curR_at hcu;obtain ⟨t1, t2, o1, oi, hb, hbi, ents, clock, seen, rfl, rfl, ⟨ents', clock', hee, hst, hl, hes⟩, hseen, hcur⟩ := sm.mapr i es vis (some (.agg ⟨l⟩)) t hM;cases hee;obtain ⟨e, q1, q2, q3⟩ := hasC_mem hlit (.of hl hes) hh;rw [keyVal_lits] at q2;obtain ⟨st, r1, r2⟩ := hcur (.agg ⟨l⟩) rfl;have hst' := r2 e q1 q2;subst hst'
          obtain ⟨seen', rfl⟩ : ∃ s' : Array Nat, seen = s'.push e.born := by
            obtain ⟨l⟩ := seen;rcases List.eq_nil_or_concat l with rfl | ⟨l', z, rfl⟩
            · simp at r1
            · simp only [List.concat_eq_append] at r1 ⊢;refine ⟨⟨l'⟩, ?_⟩;simp [Array.back?] at r1;simp [r1]
          have hrun := run_entry_at (P := P) g.w (g.ρ i).b (g.β i) clock seen' ents clock e hbi hb q1 hst.2.1;rw [t2] at hrun;refine ⟨_, g.w, hrun, Post.same rfl sm (.tup _ _ rfl fun j hj => ?_)⟩
          match j, hj with
          | 0, _ =>
            have := R.ofKey (g := g) hlit;rw [keyVal_lits, ← q2] at this;exact this
          | 1, _ => exact q3 _
        · cases h
      · cases h
    · cases h
  · cases h
def entry2Out (M : List AObj) (x : AV) : Option Out :=
  match x with
  | .it t => match curR t M with
    | some (_, .agg _) => entryKOut M (.it t)
    | _ => entryOut M (.it t)
  | _ => none
theorem entry2Out_runs {P : Program} {g : G} {x : AV} {a : Value} {o : Out} (h : entry2Out g.M x = some o) (sm : Sim g) (hx : R g x a) : Runs P (Instr.entry a) g o := by
  unfold entry2Out at h;split at h
  · split at h
    · exact entryKOut_runs h sm hx
    · exact entryOut_runs h sm hx
  · cases h
theorem valAt_key {i : TyI} {cells : List AV} (hk : i.k.agg = true) (_hl : cells.all isLit = true) : ValAt i cells (keyVal cells) := by
  unfold ValAt;rw [if_pos hk];refine ⟨_, rfl, fun j l hj => ?_⟩;simp only [List.getElem?_map, hj, Option.map_some];rfl
theorem checkFs (hty : TyOk P ty) {em : Bool} {d n : Nat} {xs : List AV} {arr : Array Value} (hx : LitsOf xs arr.toList) (hl : xs.all isLit = true)
    (ih : ∀ t i a v w, ty t = some i → coverT ty d t = true → a.length = i.size → a.all isLit = true → ValAt i a v → (Instr.checkKey em n t v).run P w = .ok () w) :
    ∀ (fs : List Field) (o m : Nat) (w : World), coverFs (coverT ty d) ty o (fs.map fun f => (f.offset, f.type)) = some m → m ≤ xs.length →
      (forIn fs PUnit.unit fun f _ => do
        if f.name ≠ "_" then Instr.checkKey em n f.type (← part f.type arr f.offset)
        pure (ForInStep.yield PUnit.unit) : Sem PUnit).run P w = .ok PUnit.unit w
  | [], o, m, w, _, _ => by simp
  | f :: fs, o, m, w, h, hm => by
    simp only [List.map_cons] at h;unfold coverFs at h;split at h
    · rename_i i hi;split at h
      · rename_i hc;simp only [Bool.and_eq_true, beq_iff_eq] at hc;obtain ⟨ho, hc⟩ := hc;have hle := coverFs_le _ _ _ h;have hlen : ((xs.drop f.offset).take i.size).length = i.size := by simp; omega
        have hall : ((xs.drop f.offset).take i.size).all isLit = true := List.all_eq_true.2 fun a ha => List.all_eq_true.1 hl a (List.mem_of_mem_drop (List.mem_of_mem_take ha))
        have hsz : i.k.agg = false → i.size = 1 := fun ha => by
          cases d with
          | zero => cases hc
          | succ d =>
            unfold coverT at hc;rw [hi] at hc;simp only at hc;split at hc
            · simpa using hc
            · simpa using hc
            · simpa using hc
            · rename_i l hk; rw [hk] at ha; cases ha
            · cases hc
        obtain ⟨a, ra, va⟩ := part_at hty hi hx (off := f.offset) (fun ha => by
          have h1 := hsz ha;rw [h1] at hlen hall ⊢
          match hq : (xs.drop f.offset).take 1, hlen, hall with
          | [x], _, hall => exact ⟨litV x, by rw [← isLit_eq (by simpa using hall)]⟩) w
        have re := ih f.type i _ a w hi hc hlen hall va;have rest := checkFs hty hx hl ih fs _ _ w h hm;by_cases hn : f.name ≠ "_"
        · simp only [List.forIn_cons, Sem.run_bind, hn, ne_eq, not_false_eq_true, if_true, Result.andThen_ok, ra, re, Sem.run_pure];exact rest
        · simp only [List.forIn_cons, Sem.run_bind, hn, if_false, Result.andThen_ok, Sem.run_pure];exact rest
      · cases h
    · cases h
theorem checkKey_S (hty : TyOk P ty) {em : Bool} : ∀ (d n : Nat) (t : TypeId) (i : TyI) (xs : List AV) (a : Value) (w : World), d ≤ n → ty t = some i → coverT ty d t = true → xs.length = i.size → xs.all isLit = true → ValAt i xs a →
    (Instr.checkKey em n t a).run P w = .ok () w
  | 0, _, _, _, _, _, _, _, _, h, _, _, _ => by cases h
  | d + 1, 0, _, _, _, _, _, h, _, _, _, _, _ => by omega
  | d + 1, n + 1, t, i, xs, a, w, hd, hi, hc, hx, hl, hv => by
    obtain ⟨info, ds, z, h1, h2, h3, _⟩ := hty.facts hi;unfold coverT at hc;rw [hi] at hc;simp only at hc;unfold ValAt at hv;split at hc
    · rename_i hk;rw [hk] at h3;cases ds <;> simp [kindOf] at h3;simp [Instr.checkKey, run_underlying h2]
    · rename_i q hk;rw [hk] at h3;cases ds <;> simp [kindOf] at h3;simp [Instr.checkKey, run_underlying h2]
    · rename_i hk;rw [hk] at h3;cases ds <;> simp [kindOf] at h3;simp [Instr.checkKey, run_underlying h2]
    · rename_i l hk;split at hc
      · rename_i m hm;rw [if_pos (by rw [hk]; rfl)] at hv;obtain ⟨arr, rfl, la⟩ := hv;rw [hk] at h3;cases ds with
        | struct fs =>
          simp only [kindOf, TyK.struct.injEq] at h3;subst h3;have hmm : m = i.size := by simpa using hc
          rw [Instr.checkKey];simp only [Sem.run_bind, run_underlying h2, Result.andThen_ok];rw [← Array.forIn_toList];have q := checkFs hty (em := em) (n := n) la hl (fun t i a v w q1 q2 q3 q4 q5 => checkKey_S hty d n t i a v w (by omega) q1 q2 q3 q4 q5) fs.toList 0 m w hm (by omega);simp at q ⊢;rw [q]; rfl
        | _ => simp [kindOf] at h3
      · cases hc
    · cases hc
def keyS (ty : TyTab) (kt : TypeId) (cells : List AV) : Bool :=
  match ty kt with
  | some i => i.eq && i.k.agg && coverT ty 8 kt && cells.length == i.size && cells.all isLit
  | none => false
theorem keyS_spec {kt : TypeId} {cells : List AV} (h : keyS ty kt cells = true) : ∃ i, ty kt = some i ∧ i.eq = true ∧ i.k.agg = true ∧ coverT ty 8 kt = true ∧ cells.length = i.size ∧ cells.all isLit = true := by
  unfold keyS at h;split at h
  · rename_i i hi;simp only [Bool.and_eq_true, beq_iff_eq] at h;obtain ⟨⟨⟨⟨h1, h2⟩, h3⟩, h4⟩, h5⟩ := h;exact ⟨i, hi, h1, h2, h3, h4, h5⟩
  · cases h
theorem findKey_ask (hty : TyOk P ty) {kt : TypeId} {cells : List AV} (h : keyS ty kt cells = true) (l : List MapEntry) (w : World) :
    (Instr.findKey kt (keyVal cells) l).run P w = (Instr.findAsking kt (keyVal cells) l 0).run P w := by
  obtain ⟨i, hi, _, hk, hc, _, _⟩ := keyS_spec h;obtain ⟨info, ds, z, h1, h2, h3, _⟩ := hty.facts hi;simp only [Instr.findKey, Sem.run_bind, run_underlying h2, Result.andThen_ok];cases l with
  | nil => rfl
  | cons e es =>
    have : Instr.sameNow ds (keyVal cells) e.key = none := by
      unfold keyVal;cases ds <;> first | rfl | skip
    simp only [Instr.findNow, this]
theorem checkKey_key (hty : TyOk P ty) {kt : TypeId} {cells : List AV} (h : keyS ty kt cells = true) (em : Bool) (w : World) : (Instr.checkKey em 10000 kt (keyVal cells)).run P w = .ok () w := by
  obtain ⟨i, hi, _, hk, hc, hn, hl⟩ := keyS_spec h;exact checkKey_S hty 8 10000 kt i cells _ w (by omega) hi hc hn hl (valAt_key hk hl)
theorem stays_key {kt : TypeId} {cells : List AV} (h : keyS ty kt cells = true) (w : World) : (Instr.keyThatStays (keyVal cells) (keyVal cells)).run P w = .ok (keyVal cells) w := by
  obtain ⟨i, hi, _, hk, hc, hn, hl⟩ := keyS_spec h
  have : Instr.sameBits 10000 (keyVal cells) (keyVal cells) = true := by
    show Instr.sameBits (9999 + 1) (.agg _) (.agg _) = true;simp only [Instr.sameBits, beq_self_eq_true, Bool.true_and, List.all_eq_true];intro p hp;obtain ⟨j, hj, e⟩ := List.getElem_of_mem hp;rw [List.getElem_zip] at e;rw [← e];simp only [List.getElem_map];exact isLit_bits (List.all_eq_true.1 hl _ (List.getElem_mem _)) 9999
  simp [Instr.keyThatStays, this]
theorem equal_key (hty : TyOk P ty) {kt : TypeId} {a b : List AV} (ha : keyS ty kt a = true) (hb : keyS ty kt b = true) {p : Bool} (h : eqT ty 8 kt a b = some p) (w : World) : (Op.equal kt (keyVal a) (keyVal b)).run P w = .ok p w := by
  obtain ⟨i, hi, he, hk, hc, hn, hl⟩ := keyS_spec ha;obtain ⟨i', hi', _, _, _, hn', hl'⟩ := keyS_spec hb;rw [hi] at hi'; cases hi';have q := hty.eqk hi he;exact eqT_run hty 8 100 10000 kt i a b p _ _ w (by omega) hi h q.1 (valAt_key hk hl) (valAt_key hk hl')
theorem eqT_key {kt : TypeId} {a b : List AV} (ha : keyS ty kt a = true) (hb : keyS ty kt b = true) {p : Bool} (h : eqT ty 8 kt a b = some p) : p = true ↔ keyVal b = keyVal a := by
  obtain ⟨i, hi, he, hk, hc, hn, hl⟩ := keyS_spec ha;obtain ⟨i', hi', _, _, _, hn', hl'⟩ := keyS_spec hb;rw [hi] at hi'; cases hi';constructor
  · rintro rfl;rw [eqT_eq 8 kt i a b hi hc hn hn' h]
  · intro e;exact eqT_refl' 8 kt a b p (keyVal_inj hl hl' e.symm) h
def hasS (ty : TyTab) (kt : TypeId) (k : List AV) : List (AV × AV) → Option Bool
  | [] => some false
  | (.agg c, _) :: r => if keyS ty kt c = true then match eqT ty 8 kt k c, hasS ty kt k r with
    | some b, some e => some (pickB b true e)
    | _, _ => none
    else none
  | _ :: _ => none
def getS (ty : TyTab) (kt : TypeId) (k : List AV) (z : AV) : List (AV × AV) → AV
  | [] => z
  | (a, v) :: r => match a with
    | .agg c => if eqT ty 8 kt k c = some true then v else getS ty kt k z r
    | _ => getS ty kt k z r
def setS (ty : TyTab) (kt : TypeId) (k : List AV) (v : AV) : List (AV × AV) → List (AV × AV)
  | [] => [(.agg k, v)]
  | (a, u) :: r => match a with
    | .agg c => if eqT ty 8 kt k c = some true then (.agg k, v) :: r else (a, u) :: setS ty kt k v r
    | _ => (a, u) :: setS ty kt k v r
def delS (ty : TyTab) (kt : TypeId) (k : List AV) : List (AV × AV) → List (AV × AV)
  | [] => []
  | (a, u) :: r => match a with
    | .agg c => if eqT ty 8 kt k c = some true then r else (a, u) :: delS ty kt k r
    | _ => (a, u) :: delS ty kt k r
theorem find_ask (hty : TyOk P ty) {kt : TypeId} {k : List AV} (hk : keyS ty kt k = true) {g : G} {es : List (AV × AV)} {l : List MapEntry} (hr : EntR g es l) : ∀ (i : Nat) {b : Bool}, hasS ty kt k es = some b →
    (b = false ∧ (∀ w, (Instr.findAsking kt (keyVal k) l i).run P w = .ok none w) ∧ (∀ x ∈ l, x.key ≠ keyVal k) ∧ (∀ v, setS ty kt k v es = es ++ [(.agg k, v)]) ∧ delS ty kt k es = es ∧ ∀ z, getS ty kt k z es = z) ∨
    (b = true ∧ ∃ j e, (∀ w, (Instr.findAsking kt (keyVal k) l i).run P w = .ok (some (i + j, e.val)) w) ∧ l[j]? = some e ∧ e.key = keyVal k ∧ (∀ z, R g (getS ty kt k z es) e.val) ∧ (∀ v, setS ty kt k v es = es.set j (.agg k, v)) ∧ delS ty kt k es = es.eraseIdx j) := by
  induction hr with
  | nil =>
    intro i b h;simp only [hasS, Option.some.injEq] at h;subst h;exact .inl ⟨rfl, fun w => by simp [Instr.findAsking], by simp, fun v => rfl, rfl, fun z => rfl⟩
  | @cons a v es e l hka hva r ih =>
    intro i b h;cases a <;> simp only [hasS, reduceCtorEq] at h;rename_i c;split at h
    · rename_i hc;obtain ⟨_, _, _, _, _, _, hl⟩ := keyS_spec hc;have hek : e.key = keyVal c := hka.keyVal hl;cases hs : eqT ty 8 kt k c with
      | none => simp [hs] at h
      | some p =>
        cases hh : hasS ty kt k es with
        | none => simp [hs, hh] at h
        | some c' =>
          simp only [hs, hh, Option.some.injEq] at h;have s1 := fun w => equal_key (P := P) hty hk hc hs w;have s3 := eqT_key hk hc hs;have ih' := ih (i + 1) hh;cases p with
          | true =>
            have hkk := s3.1 rfl;refine .inr ⟨by rw [← h]; rfl, 0, e, fun w => ?_, rfl, hek.trans hkk, fun z => ?_, fun u => ?_, ?_⟩
            · simp [Instr.findAsking, hek, s1]
            · simpa [getS, hs] using hva
            · simp [setS, hs]
            · simp [delS, hs]
          | false =>
            have hb : b = c' := by rw [← h]; rfl
            subst hb;have hne : keyVal c ≠ keyVal k := fun q => by have := s3.2 q; cases this
            rcases ih' with ⟨q1, q2, q3, q4, q5, q6⟩ | ⟨q1, j, e', q2, q3, q4, q5, q6, q7⟩
            · refine .inl ⟨q1, fun w => by simp [Instr.findAsking, hek, s1, q2], fun x hx => ?_, fun u => by simp [setS, hs, q4], by simp [delS, hs, q5], fun z => by simp [getS, hs, q6]⟩;cases hx with
              | head => rw [hek]; exact hne
              | tail _ hx => exact q3 x hx
            · exact .inr ⟨q1, j + 1, e', fun w => by simp [Instr.findAsking, hek, s1, q2, Nat.add_assoc, Nat.add_comm 1 j], by simpa using q3, q4, fun z => by simpa [getS, hs] using q5 z, fun u => by simp [setS, hs, q6], by simp [delS, hs, q7]⟩
    · cases h
theorem find_S (hty : TyOk P ty) {kt : TypeId} {k : List AV} (hk : keyS ty kt k = true) {g : G} {es : List (AV × AV)} {l : List MapEntry} (hr : EntR g es l) {b : Bool} (h : hasS ty kt k es = some b) :
    (b = false ∧ (∀ w, (Instr.findKey kt (keyVal k) l).run P w = .ok none w) ∧ (∀ x ∈ l, x.key ≠ keyVal k) ∧ (∀ v, setS ty kt k v es = es ++ [(.agg k, v)]) ∧ delS ty kt k es = es ∧ ∀ z, getS ty kt k z es = z) ∨
    (b = true ∧ ∃ j e, (∀ w, (Instr.findKey kt (keyVal k) l).run P w = .ok (some (j, e.val)) w) ∧ l[j]? = some e ∧ e.key = keyVal k ∧ (∀ z, R g (getS ty kt k z es) e.val) ∧ (∀ v, setS ty kt k v es = es.set j (.agg k, v)) ∧ delS ty kt k es = es.eraseIdx j) := by
  rcases find_ask (P := P) hty hk hr 0 h with ⟨q1, q2, q3⟩ | ⟨q1, j, e', q2, q3⟩
  · exact .inl ⟨q1, fun w => by rw [findKey_ask hty hk, q2], q3⟩
  · exact .inr ⟨q1, j, e', fun w => by rw [findKey_ask hty hk, q2, Nat.zero_add], q3⟩
def lookupSOut (ty : TyTab) (kt : TypeId) (ie : TyI) (M : List AObj) (x : AV) (k : List AV) (ok : Bool) : Option Out :=
  match x with
  | .mp i => match M[i]? with
    | some (.mapo es) => if keyS ty kt k = true then (hasS ty kt k es).map fun b => { av := if ok then .tup [getS ty kt k (zeroAV ie) es, .lit (.bool b)] else getS ty kt k (zeroAV ie) es } else none
    | _ => none
  | _ => none
theorem lookupSOut_runs (hty : TyOk P ty) {T kt et : TypeId} {i ie : TyI} (hi : ty T = some i) (hk : i.k = .map kt et) (het : ty et = some ie)
    {g : G} {x : AV} {k : List AV} {a b : Value} {ok : Bool} {o : Out} (h : lookupSOut ty kt ie g.M x k ok = some o) (sm : Sim g) (hx : R g x a) (hkk : R g (.agg k) b) : Runs P (Instr.lookup T a b ok) g o := by
  obtain ⟨_, d, _, _, u1, k1, _⟩ := hty.facts hi;have := kind_map (k1.trans hk); subst this;unfold lookupSOut at h;split at h
  · rename_i j;split at h
    · rename_i es hM;split at h
      · rename_i hko;cases hx with
        | mp _ hj =>
        obtain ⟨_, _, _, _, _, _, hl⟩ := keyS_spec hko;have := hkk.keyVal hl; subst this;obtain ⟨c, hc, rfl⟩ := Option.map_eq_some_iff.1 h;obtain ⟨ents, clock, hb, hst, he⟩ := map_at sm hM;have hck : (Instr.checkKey ents.isEmpty 10000 kt (keyVal k)).run P g.w = .ok () g.w := checkKey_key hty hko _ _;rcases find_S (P := P) hty hko he hc with ⟨rfl, q2, q3, q4, q5, q6⟩ | ⟨rfl, j', e', q2, q3, q4, q5, q6, q7⟩
        · obtain ⟨z, hz, hzr⟩ := zeroAV_runs hty het g;refine ⟨if ok then .tuple #[z, .bool false] else z, g.w, ?_, Post.same rfl sm ?_⟩
          · simp [Instr.lookup, run_underlying u1, MapKept.run_getObj_map hb, hck, q2, hz]
          · rw [q6];cases ok with
            | true =>
              refine .tup _ _ rfl fun j hj => ?_
              match j, hj with
              | 0, _ => exact hzr
              | 1, _ => exact .lit _
            | false => exact hzr
        · refine ⟨if ok then .tuple #[e'.val, .bool true] else e'.val, g.w, ?_, Post.same rfl sm ?_⟩
          · simp [Instr.lookup, run_underlying u1, MapKept.run_getObj_map hb, hck, q2]
          · cases ok with
            | true =>
              refine .tup _ _ rfl fun j hj => ?_
              match j, hj with
              | 0, _ => exact q5 _
              | 1, _ => exact .lit _
            | false => exact q5 _
      · cases h
    · cases h
  · cases h
def mapSetSOut (ty : TyTab) (kt : TypeId) (M : List AObj) (x : AV) (k : List AV) (v : AV) : Option Out :=
  match x with
  | .mp i => match M[i]? with
    | some (.mapo es) => if keyS ty kt k = true then (hasS ty kt k es).map fun _ => { av := .lit undef, M := some (M.set i (.mapo (setS ty kt k (mTok v) es))) } else none
    | _ => none
  | _ => none
theorem mapSetSOut_runs (hty : TyOk P ty) {T kt et : TypeId} {i : TyI} (hi : ty T = some i) (hk : i.k = .map kt et)
    {g : G} {x v : AV} {k : List AV} {a b u : Value} {o : Out} (h : mapSetSOut ty kt g.M x k v = some o) (sm : Sim g) (hx : R g x a) (hkk : R g (.agg k) b) (hv : R g v u) :
    ∃ w', (Instr.mapUpdate T a b u).run P g.w = .ok () w' ∧ Post g o undef w' := by
  obtain ⟨_, d, _, _, u1, k1, _⟩ := hty.facts hi;have := kind_map (k1.trans hk); subst this;unfold mapSetSOut at h;split at h
  · rename_i j;split at h
    · rename_i es hM;split at h
      · rename_i hko;cases hx with
        | mp _ hj =>
        obtain ⟨_, _, _, _, _, _, hl⟩ := keyS_spec hko;have := hkk.keyVal hl; subst this;obtain ⟨c, hc, rfl⟩ := Option.map_eq_some_iff.1 h;obtain ⟨ents, clock, hb, hst, he⟩ := map_at sm hM;have hck : (Instr.checkKey false 10000 kt (keyVal k)).run P g.w = .ok () g.w := checkKey_key hty hko _ _;rcases find_S (P := P) hty hko he hc with ⟨rfl, q2, q3, q4, q5, q6⟩ | ⟨rfl, j', e', q2, q3, q4, q5, q6, q7⟩
        · have hrel : MapRel g (setS ty kt k (mTok v) es) (.map (ents.push { key := keyVal k, val := u, born := clock }) (clock + 1)) := by
            rw [q4];refine EntR.rel ?_ (MapKept.stamped_push hst q3);rw [Array.toList_push];exact he.push (R.ofKey hl) hv.mTok
          refine ⟨{ g.w with heap := g.w.heap.setIfInBounds (g.β j) (.map (ents.push { key := keyVal k, val := u, born := clock }) (clock + 1)) }, ?_, Post.of rfl (sim_map hM sm hrel) (.lit _) (keep_map sm hM)⟩;simp [Instr.mapUpdate, run_underlying u1, MapKept.run_getObj_map hb, hck, q2, MapKept.run_setObj_map _ hb]
        · have hj' : ents[j']? = some e' := by simpa using q3
          have hkeep : ∀ e'' ∈ ents.toList, ents[j']? = some e'' → ({ e'' with key := keyVal k, val := u } : MapEntry).key = e''.key := fun e'' _ h'' => by rw [hj'] at h''; cases h''; exact q4.symm
          have hrel : MapRel g (setS ty kt k (mTok v) es) (.map (ents.modify j' fun e => { e with key := keyVal k, val := u }) clock) := by
            rw [q6];refine EntR.rel ?_ (MapKept.stamped_modify hst _ _ (fun _ _ => rfl) hkeep)
            have hl2 : (ents.modify j' fun e => { e with key := keyVal k, val := u }).toList = ents.toList.set j' { e' with key := keyVal k, val := u } := by
              apply List.ext_getElem?;intro n;simp only [Array.getElem?_toList, Array.getElem?_modify, List.getElem?_set];by_cases hn : j' = n
              · subst hn;obtain ⟨h1, h2⟩ := Array.getElem?_eq_some_iff.1 hj';simp [h1, h2]
              · simp [hn]
            rw [hl2];exact he.set (e := { e' with key := keyVal k, val := u }) (R.ofKey hl) hv.mTok j'
          refine ⟨{ g.w with heap := g.w.heap.setIfInBounds (g.β j) (.map (ents.modify j' fun e => { e with key := keyVal k, val := u }) clock) }, ?_, Post.of rfl (sim_map hM sm hrel) (.lit _) (keep_map sm hM)⟩;simp [Instr.mapUpdate, run_underlying u1, MapKept.run_getObj_map hb, hck, q2, hj', q4, stays_key hko, MapKept.run_setObj_map _ hb]
      · cases h
    · cases h
  · cases h
def mapDelSOut (ty : TyTab) (kt : TypeId) (M : List AObj) (x : AV) (k : List AV) : Option Out :=
  match x with
  | .mp i => match M[i]? with
    | some (.mapo es) => if keyS ty kt k = true then (hasS ty kt k es).map fun _ => { av := .tup [], M := some (M.set i (.mapo (delS ty kt k es))) } else none
    | some (.mapr es vis cur t) => if keyS ty kt k = true then (hasS ty kt k es).map fun _ => { av := .tup [], M := some (M.set i (.mapr (delS ty kt k es) vis cur t)) } else none
    | _ => none
  | _ => none
theorem erase_list {ents : Array MapEntry} {j : Nat} {e : MapEntry} (h : ents.toList[j]? = some e) : (ents.eraseIdxIfInBounds j).toList = ents.toList.eraseIdx j := by
  have := (List.getElem?_eq_some_iff.1 h).1;simp only [Array.length_toList] at this;unfold Array.eraseIdxIfInBounds;simp [this]
theorem mapDelSOut_runs (hty : TyOk P ty) {T T2 kt et rt : TypeId} {i : TyI} (hi : ty T = some i) (hk : i.k = .map kt et)
    {g : G} {x : AV} {k : List AV} {a b : Value} {o : Out} (h : mapDelSOut ty kt g.M x k = some o) (sm : Sim g) (hx : R g x a) (hkk : R g (.agg k) b) :
    Runs P (Builtin.delete_ #[T, T2] rt #[a, b]) g o := by
  obtain ⟨_, d, _, _, u1, k1, _⟩ := hty.facts hi;have := kind_map (k1.trans hk); subst this;unfold mapDelSOut at h;split at h
  · rename_i j;split at h
    · rename_i es hM;split at h
      · rename_i hko;cases hx with
        | mp _ hj =>
        obtain ⟨_, _, _, _, _, _, hl⟩ := keyS_spec hko;have := hkk.keyVal hl; subst this;obtain ⟨c, hc, rfl⟩ := Option.map_eq_some_iff.1 h;obtain ⟨ents, clock, hb, hst, he⟩ := map_at sm hM;have hck : (Instr.checkKey ents.isEmpty 10000 kt (keyVal k)).run P g.w = .ok () g.w := checkKey_key hty hko _ _;rcases find_S (P := P) hty hko he hc with ⟨rfl, q2, q3, q4, q5, q6⟩ | ⟨rfl, j', e', q2, q3, q4, q5, q6, q7⟩
        · have hrel : MapRel g (delS ty kt k es) (.map ents clock) := by rw [q5]; exact EntR.rel he hst
          refine ⟨.tuple #[], { g.w with heap := g.w.heap.setIfInBounds (g.β j) (.map ents clock) }, ?_, Post.of rfl (sim_map hM sm hrel) (.tup _ _ rfl fun j hj => by simp at hj) (keep_map sm hM)⟩;simp [Builtin.delete_, run_underlying u1, MapKept.run_getObj_map hb, hck, q2, MapKept.run_setObj_map _ hb]
        · have hrel : MapRel g (delS ty kt k es) (.map (ents.eraseIdxIfInBounds j') clock) := by
            rw [q7];refine EntR.rel ?_ (MapKept.stamped_erase hst j');rw [erase_list q3];exact he.erase j'
          refine ⟨.tuple #[], { g.w with heap := g.w.heap.setIfInBounds (g.β j) (.map (ents.eraseIdxIfInBounds j') clock) }, ?_, Post.of rfl (sim_map hM sm hrel) (.tup _ _ rfl fun j hj => by simp at hj) (keep_map sm hM)⟩;simp [Builtin.delete_, run_underlying u1, MapKept.run_getObj_map hb, hck, q2, MapKept.run_setObj_map _ hb]
      · cases h
    · rename_i es vis cur t hM;split at h
      · rename_i hko;cases hx with
        | mp _ hj =>
        obtain ⟨_, _, _, _, _, _, hl⟩ := keyS_spec hko;have := hkk.keyVal hl; subst this;obtain ⟨c, hc, rfl⟩ := Option.map_eq_some_iff.1 h;obtain ⟨t1, t2, o1, oi, hb, hbi, ents, clock, seen, rfl, rfl, ⟨ents', clock', hee, hst, hl2, hes⟩, hseen, hcur⟩ := sm.mapr j es vis cur t hM;cases hee;have he : EntR g es ents.toList := .of hl2 hes;have hck : (Instr.checkKey ents.isEmpty 10000 kt (keyVal k)).run P g.w = .ok () g.w := checkKey_key hty hko _ _;have hne : g.β j ≠ (g.ρ j).b := fun h => by rw [h, hbi] at hb; cases hb
        have hlt := whole_lt sm hM (.inl rfl);have hlti := whole_lt sm hM (.inr rfl)
        have go : ∀ ents2 : Array MapEntry, (∀ x ∈ ents2.toList, x ∈ ents.toList) → MapRel g (delS ty kt k es) (.map ents2 clock) →
            (Builtin.delete_ #[T, T2] rt #[.map (some (g.β j)), keyVal k]).run P g.w = .ok (.tuple #[]) { g.w with heap := g.w.heap.setIfInBounds (g.β j) (.map ents2 clock) } →
            Runs P (Builtin.delete_ #[T, T2] rt #[.map (some (g.β j)), keyVal k]) g { av := .tup [], M := some (g.M.set j (.mapr (delS ty kt k es) vis cur t)) } := by
          intro ents2 hsub hrel hrun;have hin : Within g j (.mapr (delS ty kt k es) vis cur t) (g.ρ j) := fun a ha => .inl ⟨_, hM, ha⟩;have hsz : g.w.heap.size ≤ ({ g.w with heap := g.w.heap.setIfInBounds (g.β j) (.map ents2 clock) } : World).heap.size := by simp
          have hoth : ∀ q, q < g.w.heap.size → ¬ (AObj.mapr es vis cur t).whole (g.β j) (g.ρ j) q → ({ g.w with heap := g.w.heap.setIfInBounds (g.β j) (.map ents2 clock) } : World).heap[q]? = g.w.heap[q]? :=
            fun q _ hq => Array.getElem?_setIfInBounds_ne fun h => hq (.inl h.symm)
          have k' := keep_turn (es := delS ty kt k es) (vis := vis) (cur := cur) (t := t) (r := g.ρ j) sm hM (fun _ h => h) hin hsz hoth ⟨rfl, rfl⟩
          have s' := sim_turn (q := .map ents2 clock) (qi := .mapIter (some (g.β j)) clock seen clock) sm hM (fun _ h => h) hin hsz hoth ⟨rfl, rfl⟩ (by simpa using hlti) t1 t2
            (by simp [hlt]) (by show (g.w.heap.setIfInBounds (g.β j) _)[(g.ρ j).b]? = _; rw [Array.getElem?_setIfInBounds_ne hne]; exact hbi)
            ⟨ents2, clock, seen, rfl, rfl, hrel, fun x hx => hseen x (hsub x hx), fun kk hkk => by
              obtain ⟨st, q1, q2⟩ := hcur kk hkk;exact ⟨st, q1, fun x hx => q2 x (hsub x hx)⟩⟩
          exact ⟨_, _, hrun, Post.of rfl s' (.tup _ _ rfl fun j hj => by simp at hj) k'⟩
        rcases find_S (P := P) hty hko he hc with ⟨rfl, q2, q3, q4, q5, q6⟩ | ⟨rfl, j', e', q2, q3, q4, q5, q6, q7⟩
        · refine go ents (fun _ h => h) (by rw [q5]; exact EntR.rel he hst) ?_;simp [Builtin.delete_, run_underlying u1, MapKept.run_getObj_map hb, hck, q2, MapKept.run_setObj_map _ hb]
        · refine go (ents.eraseIdxIfInBounds j') (fun x hx => by rw [erase_list q3] at hx; exact List.mem_of_mem_eraseIdx hx) ?_ ?_
          · rw [q7];refine EntR.rel ?_ (MapKept.stamped_erase hst j');rw [erase_list q3];exact he.erase j'
          · simp [Builtin.delete_, run_underlying u1, MapKept.run_getObj_map hb, hck, q2, MapKept.run_setObj_map _ hb]
      · cases h
    · cases h
  · cases h
end
def builtinOut (ty : TyTab) (M : List AObj) (b : Builtin) (ts : List TypeId) (l : List AV) : Option Out :=
  match b, ts, l with
  | .len, [t], [x] => match ty t with
    | some i => match i.k with
      | .map _ _ => mapLenOut M x
      | k => lenOut k x
    | none => none
  | .delete, t :: _ :: [], [x, k] => match ty t with
    | some i => match i.k with
      | .map kt _ => match ty kt with
        | some ik => match k with
          | .agg c => mapDelSOut ty kt M x c
          | _ => mapDelOut ik.k M x k
        | none => none
      | _ => none
    | none => none
  | .max, _, [x, y] => minmaxOut true x y
  | .min, _, [x, y] => minmaxOut false x y
  | .append, [t, u], [x, .sl els' _] => match ty t, ty u with
    | some i, some j => match i.k, j.k with
      | .slice e, .slice _ => match ty e with
        | some ie => match appendOut ie M x els' with
          | some o => some { av := o.av, M := o.M, obl := o.obl }
          | none => none
        | none => none
      | _, _ => none
    | _, _ => none
  | .copy, [t, _], [.slb i n, .slb j m] => match ty t with
    | some ti => match ti.k with
      | .slice e => match ty e with
        | some ie => copyOut ie M i j n m
        | none => none
      | _ => none
    | none => none
  | _, _, _ => none
def pickOut (A : Env) (vs : List (Nat × Bool)) (c a b : Operand) : Option Out :=
  match c with
  | .tmp t => match getE A vs t, evX A ((t, true) :: vs) a, evX A ((t, false) :: vs) b with
    | some (.lit (.bool p)), some (.lit (.bool x)), some (.lit (.bool y)) => some { av := .lit (.bool (pickB p x y)) }
    | _, _, _ => none
  | _ => none
def ifaceOut (i : TyI) (t : TypeId) (x : AV) : Option Out :=
  match i.k with
  | .iface => none
  | _ => some { av := .iface t x }
def assertOut (ty : TyTab) (i : TyI) (t : TypeId) (x : AV) (ok : Bool) : Option Out :=
  match x with
  | .iface u v => match i.k with
    | .iface => match ty.impl t u, ok with
      | some true, true => some { av := .tup [x, .lit (.bool true)] }
      | some true, false => some { av := x }
      | some false, true => some { av := .tup [zeroAV i, .lit (.bool false)] }
      | _, _ => none
    | _ => if u = t then some { av := if ok then .tup [v, .lit (.bool true)] else v } else if ok then some { av := .tup [zeroAV i, .lit (.bool false)] } else none
  | _ => none
theorem R.iface_inv {g : G} {t : TypeId} {av : AV} {v : Value} (h : R g (.iface t av) v) : ∃ u, v = .iface t u ∧ R g av u := by
  cases h with
  | iface _ _ u h => exact ⟨u, rfl, h⟩
theorem R.pair {g : G} {a : AV} {v : Value} (h : R g a v) (b : Bool) : R g (.tup [a, .lit (.bool b)]) (.tuple #[v, .bool b]) := by
  refine .tup _ _ rfl fun j hj => ?_
  match j, hj with
  | 0, _ => exact h
  | 1, _ => exact .lit _
theorem implOf_spec {P : Program} {a t : TypeId} {b : Bool} (h : implOf P a t = some b) : ∃ want info, P.underlying a = some (.interface want) ∧ P.info? t = some info ∧ (Instr.missingMethod want info.methods).isNone = b := by
  unfold implOf at h;split at h
  · rename_i want info h1 h2; exact ⟨want, info, h1, h2, by simpa using h⟩
  · cases h
theorem run_typeInfo {P : Program} {t : TypeId} {info : TypeInfo} (h : P.info? t = some info) (w : World) : (typeInfo t).run P w = .ok info w := by
  simp [typeInfo, h]
theorem kind_iface {d : TypeDesc} (h : kindOf d = .iface) : ∃ want, d = .interface want := by cases d <;> simp_all [kindOf]
theorem assertOut_runs {P : Program} {ty : TyTab} (hty : TyOk P ty) {t xt : TypeId} {i : TyI} (hi : ty t = some i) {x : AV} {v : Value} {g : G} {ok : Bool} {o : Out}
    (h : assertOut ty i t x ok = some o) (s : Sim g) (hx : R g x v) : Runs P (Instr.typeAssert v xt t ok) g o := by
  obtain ⟨_, d, _, _, u2, k2, _⟩ := hty.facts hi;unfold assertOut at h;split at h
  · rename_i u av;obtain ⟨v, rfl, hv⟩ := hx.iface_inv;split at h
    · rename_i hk;obtain ⟨want, rfl⟩ := kind_iface (k2.trans hk);split at h
      · rename_i hb;cases h;obtain ⟨want', info, q1, q2, q3⟩ := implOf_spec (hty.a _ _ _ hb);rw [u2] at q1; cases q1;refine ⟨_, _, ?_, Post.same rfl s (hx.pair true)⟩;rw [Option.isNone_iff_eq_none] at q3;simp only [Instr.typeAssert, Sem.run_bind, run_underlying u2, Result.andThen_ok, run_typeInfo q2, q3];rfl
      · rename_i hb;cases h;obtain ⟨want', info, q1, q2, q3⟩ := implOf_spec (hty.a _ _ _ hb);rw [u2] at q1; cases q1;refine ⟨_, _, ?_, Post.same rfl s hx⟩;rw [Option.isNone_iff_eq_none] at q3;simp only [Instr.typeAssert, Sem.run_bind, run_underlying u2, Result.andThen_ok, run_typeInfo q2, q3];rfl
      · rename_i hb;cases h;obtain ⟨want', info, q1, q2, q3⟩ := implOf_spec (hty.a _ _ _ hb);rw [u2] at q1; cases q1;obtain ⟨z, hz, hzr⟩ := zeroAV_runs hty hi g;refine ⟨_, _, ?_, Post.same rfl s (hzr.pair false)⟩;cases hm : Instr.missingMethod want info.methods with
        | none => rw [hm] at q3; cases q3
        | some m =>
          simp only [Instr.typeAssert, Sem.run_bind, run_underlying u2, Result.andThen_ok, run_typeInfo q2, hm, if_true, hz];rfl
      · cases h
    · rename_i hk;have hd : ∀ want, d ≠ .interface want := fun want e => by subst e; exact hk k2.symm
      split at h
      · rename_i hut;subst hut;cases ok with
        | true =>
          cases h;refine ⟨_, _, ?_, Post.same rfl s (hv.pair true)⟩;simp only [Instr.typeAssert, Sem.run_bind, run_underlying u2, Result.andThen_ok];cases d <;> first | (simp; done) | (exact absurd rfl (hd _))
        | false =>
          cases h;refine ⟨_, _, ?_, Post.same rfl s hv⟩;simp only [Instr.typeAssert, Sem.run_bind, run_underlying u2, Result.andThen_ok];cases d <;> first | (simp; done) | (exact absurd rfl (hd _))
      · rename_i hut;split at h
        · rename_i hok;subst hok;cases h;obtain ⟨z, hz, hzr⟩ := zeroAV_runs hty hi g;refine ⟨_, _, ?_, Post.same rfl s (hzr.pair false)⟩;simp only [Instr.typeAssert, Sem.run_bind, run_underlying u2, Result.andThen_ok];cases d <;> first | (simp [hut, hz]; done) | (exact absurd rfl (hd _))
        · cases h
  · cases h
theorem methOf_spec {P : Program} {t : TypeId} {n : String} {f : FuncId} (h : methOf P t n = some f) : ∃ info q d, P.info? t = some info ∧ P.underlying t = some d ∧ (∀ e, d ≠ .pointer e) ∧ info.methods.find? (·.name == n) = some q ∧ q.path.toList = [] ∧ q.func = some (f, false) := by
  unfold methOf at h;split at h
  · rename_i info d h1 h2;split at h
    · cases h
    · rename_i hp;split at h
      · rename_i q hf;split at h
        · rename_i f' h3 h4;cases h;exact ⟨info, q, d, h1, h2, fun e he => by subst he; exact hp rfl, hf, h3, h4⟩
        · cases h
      · cases h
  · cases h
theorem callMethod_run {P : Program} {t : TypeId} {n : String} {f : FuncId} (h : methOf P t n = some f) (v : Value) (args : Array Value) (w : World) : (callMethod (.iface t v) n args).run P w = (callFunc f (#[v] ++ args)).run P w := by
  obtain ⟨info, q, d, h1, h2, h3, h4, h5, h6⟩ := methOf_spec h
  have key : ∀ k, (method (k + 1) t v n).run P w = .ok (f, v) w := fun k => by
    simp only [method, Sem.run_bind, run_typeInfo h1, Result.andThen_ok, h4, h5, follow, h6];cases d <;> first | (simp [receiverAt, Sem.run_bind, run_underlying h2, Place.get]; done) | exact absurd rfl (h3 _)
  have hd : 0 < Made.depth := by decide
  obtain ⟨k, hk⟩ : ∃ k, P.types.size + Made.depth = k + 1 := ⟨P.types.size + Made.depth - 1, by omega⟩;have hp : (program).run P w = .ok P w := rfl;unfold callMethod;simp only [Sem.run_bind, hp, Result.andThen_ok];rw [hk, key];rfl
def nilCmpOut (kx : TyK) (op : BinOp) (x : AV) : Option Out :=
  match kx, op, x with
  | .slice _, .eql, .sl _ .nn => some { av := .lit (.bool false) }
  | .slice _, .neq, .sl _ .nn => some { av := .lit (.bool true) }
  | .slice _, .eql, .sl _ .nl => some { av := .lit (.bool true) }
  | .slice _, .eql, .lit (.slice none 0 0) => some { av := .lit (.bool true) }
  | .slice _, .neq, .lit (.slice none 0 0) => some { av := .lit (.bool false) }
  | _, _, _ => none
def isNilS : Operand → Bool
  | .const (.slice none 0 0) => true
  | _ => false
theorem isNilS_spec {y : Operand} (h : isNilS y = true) : y = .const (.slice none 0 0) := by
  unfold isNilS at h;split at h
  · rfl
  · cases h
theorem run_equalIn_slice {P : Program} {t e : TypeId} (h : P.underlying t = some (.slice e)) (d : Nat) (a : Option Addr) (n c : Nat) (w : World) : (Op.equalIn (d + 1) t (.slice a n c) (.slice none 0 0)).run P w = .ok a.isNone w := by
  cases a <;> simp [Op.equalIn, run_underlying h]
theorem run_eqGuard_slice {P : Program} (op : BinOp) (t : TypeId) (x y : Operand) (a b : Option Addr) (n c m d : Nat) (w : World) : (eqGuard op t x y (.slice a n c) (.slice b m d)).run P w = .ok () w := by
  unfold eqGuard; cases op <;> rfl
theorem nilCmpOut_runs {P : Program} {ty : TyTab} (hty : TyOk P ty) {op : BinOp} {t : TypeId} {i : TyI} (hi : ty t = some i) {x : AV} {a : Value} {g : G} {o : Out}
    (h : nilCmpOut i.k op x = some o) (s : Sim g) (hx : R g x a) (X Y : Operand) : Runs P (do eqGuard op t X Y a (.slice none 0 0); binOp op t a (.slice none 0 0)) g o := by
  obtain ⟨info, d, z, h1, h2, h3, _⟩ := hty.facts hi
  have key : ∀ (b : Option Addr) (n c : Nat), i.k = .slice (match i.k with | .slice e => e | _ => 0) → a = .slice b n c →
      (o = { av := .lit (.bool b.isNone) } ∧ op = .eql ∨ o = { av := .lit (.bool (!b.isNone)) } ∧ op = .neq) → Runs P (do eqGuard op t X Y a (.slice none 0 0); binOp op t a (.slice none 0 0)) g o := by
    intro b n c hk ha ho;have := kind_slice (h3.trans hk); subst this;subst ha;have he : (Op.equal t (.slice b n c) (.slice none 0 0)).run P g.w = .ok b.isNone g.w := run_equalIn_slice h2 9999 b n c g.w;rcases ho with ⟨rfl, rfl⟩ | ⟨rfl, rfl⟩
    · exact ⟨.bool b.isNone, g.w, by simp only [Sem.run_bind, run_eqGuard_slice, Result.andThen_ok, binOp, he]; rfl, Post.same rfl s (.lit _)⟩
    · exact ⟨.bool (!b.isNone), g.w, by simp only [Sem.run_bind, run_eqGuard_slice, Result.andThen_ok, binOp, he]; rfl, Post.same rfl s (.lit _)⟩
  unfold nilCmpOut at h;split at h
  · rename_i e els hk;cases h;cases hx with
    | @nil _ base hn => cases base with
      | none => exact absurd rfl hn
      | some b => exact key (some b) _ _ (by rw [hk]) rfl (.inl ⟨rfl, rfl⟩)
    | sl _ _ b off sz cap => exact key (some ⟨b, off, none⟩) _ _ (by rw [hk]) rfl (.inl ⟨rfl, rfl⟩)
  · rename_i e els hk;cases h;cases hx with
    | @nil _ base hn => cases base with
      | none => exact absurd rfl hn
      | some b => exact key (some b) _ _ (by rw [hk]) rfl (.inr ⟨rfl, rfl⟩)
    | sl _ _ b off sz cap => exact key (some ⟨b, off, none⟩) _ _ (by rw [hk]) rfl (.inr ⟨rfl, rfl⟩)
  · rename_i e els hk;cases h;cases hx with
    | @nil _ base hn => cases base with
      | none => exact key none _ _ (by rw [hk]) rfl (.inl ⟨rfl, rfl⟩)
      | some b => exact absurd hn (by simp [TokNil])
    | sl _ _ b off sz cap xs hs c1 c2 c3 c4 ht hc => exact ht.elim
  · rename_i e hk;cases h;exact key none 0 0 (by rw [hk]) hx.lit_inv (.inl ⟨rfl, rfl⟩)
  · rename_i e hk;cases h;exact key none 0 0 (by rw [hk]) hx.lit_inv (.inr ⟨rfl, rfl⟩)
  · cases h
def nilIOut (kx : TyK) (op : BinOp) (x : AV) : Option Out :=
  match kx, op, x with
  | .iface, .eql, .lit .nilIface => some { av := .lit (.bool true) }
  | .iface, .neq, .lit .nilIface => some { av := .lit (.bool false) }
  | _, _, _ => none
def isNilI : Operand → Bool
  | .const .nilIface => true
  | _ => false
theorem isNilI_spec {y : Operand} (h : isNilI y = true) : y = .const .nilIface := by
  unfold isNilI at h;split at h
  · rfl
  · cases h
theorem run_equalIn_iface {P : Program} {t : TypeId} {want : Array (String × TypeId)} (h : P.underlying t = some (.interface want)) (d : Nat) (w : World) : (Op.equalIn (d + 1) t .nilIface .nilIface).run P w = .ok true w := by
  simp [Op.equalIn, run_underlying h]
theorem nilIOut_runs {P : Program} {ty : TyTab} (hty : TyOk P ty) {op : BinOp} {t : TypeId} {i : TyI} (hi : ty t = some i) {x : AV} {a : Value} {g : G} {o : Out}
    (h : nilIOut i.k op x = some o) (s : Sim g) (hx : R g x a) (X : Operand) : Runs P (do eqGuard op t X (.const .nilIface) a .nilIface; binOp op t a .nilIface) g o := by
  obtain ⟨info, d, z, h1, h2, h3, _⟩ := hty.facts hi
  have key : i.k = .iface → a = .nilIface → (o = { av := .lit (.bool true) } ∧ op = .eql ∨ o = { av := .lit (.bool false) } ∧ op = .neq) → Runs P (do eqGuard op t X (.const .nilIface) a .nilIface; binOp op t a .nilIface) g o := by
    intro hk ha ho;obtain ⟨want, rfl⟩ := kind_iface (h3.trans hk);subst ha;have he : (Op.equal t .nilIface .nilIface).run P g.w = .ok true g.w := run_equalIn_iface h2 9999 g.w;rcases ho with ⟨rfl, rfl⟩ | ⟨rfl, rfl⟩
    · have hg : (eqGuard .eql t X (.const .nilIface) .nilIface .nilIface).run P g.w = .ok () g.w := by cases X <;> simp [eqGuard]
      exact ⟨.bool true, g.w, by simp only [Sem.run_bind, hg, Result.andThen_ok, binOp, he]; rfl, Post.same rfl s (.lit _)⟩
    · have hg : (eqGuard .neq t X (.const .nilIface) .nilIface .nilIface).run P g.w = .ok () g.w := by cases X <;> simp [eqGuard]
      exact ⟨.bool false, g.w, by simp only [Sem.run_bind, hg, Result.andThen_ok, binOp, he]; rfl, Post.same rfl s (.lit _)⟩
  unfold nilIOut at h;split at h
  · rename_i hk;cases h;exact key hk hx.lit_inv (.inl ⟨rfl, rfl⟩)
  · rename_i hk;cases h;exact key hk hx.lit_inv (.inr ⟨rfl, rfl⟩)
  · cases h
theorem R.nil_or {g : G} {els : List (List AV)} {tok : Tok} {v : Value} (h : R g (.sl els tok) v) : (els = [] ∧ v = .slice none 0 0) ∨ R g (.sl els .nn) v := by
  cases h with
  | @nil _ base _ => cases base with
    | none => exact .inl ⟨rfl, rfl⟩
    | some b => exact .inr (.nil _ (by simp [TokNil]))
  | sl _ _ b off s cap xs hs c1 c2 c3 c4 ht hc => exact .inr (.sl els .nn b off s cap xs hs c1 c2 c3 c4 trivial hc)
def binOut2 (ty : TyTab) (t : TypeId) (i : TyI) (op : BinOp) (x y : AV) : Option Out :=
  match x, y with
  | .agg xs, .agg ys => if i.eq = true ∧ i.k.agg = true then match op with
      | .eql => (eqT ty 30 t xs ys).map fun p => { av := .lit (.bool p) }
      | .neq => (eqT ty 30 t xs ys).map fun p => { av := .lit (.bool (notB p)) }
      | _ => none
    else none
  | x, y => binOut i.k op x y
theorem agg_val {g : G} {xs : List AV} {a : Value} (h : R g (.agg xs) a) : ∃ arr : Array Value, a = .agg arr ∧ LitsOf xs arr.toList := by
  cases h with
  | agg _ arr hs hj h4 =>
    refine ⟨arr, rfl, fun j l hl => ?_⟩;obtain ⟨hlt, he⟩ := List.getElem?_eq_some_iff.1 hl;have r := hj j hlt;rw [he] at r;have e := r.lit_inv;rw [Array.getElem?_toList];have hj2 : j < arr.size := by omega
    rw [Array.getElem?_eq_getElem hj2];simp only [Array.getD, hj2, dif_pos] at e;exact congrArg some e
theorem binOut2_runs {P : Program} {ty : TyTab} (hty : TyOk P ty) {op : BinOp} {t : TypeId} {i : TyI} (hi : ty t = some i) {x y : AV} {a b : Value} {g : G} {o : Out}
    (h : binOut2 ty t i op x y = some o) (ho : o.obl) (s : Sim g) (hx : R g x a) (hy : R g y b) (X Y : Operand) :
    Runs P (do eqGuard op t X Y a b; binOp op t a b) g o := by
  unfold binOut2 at h;split at h
  · rename_i xs ys;split at h
    · rename_i hc;obtain ⟨k1, k2⟩ := hty.eqk hi hc.1;obtain ⟨arr, rfl, la⟩ := agg_val hx;obtain ⟨brr, rfl, lb⟩ := agg_val hy;have va : ValAt i xs (.agg arr) := by unfold ValAt; rw [if_pos hc.2]; exact ⟨arr, rfl, la⟩
      have vb : ValAt i ys (.agg brr) := by unfold ValAt; rw [if_pos hc.2]; exact ⟨brr, rfl, lb⟩
      have gd : ∀ op, (eqGuard op t X Y (.agg arr) (.agg brr)).run P g.w = .ok () g.w := fun op => by
        cases op <;> simp [eqGuard, k2]
      split at h
      · obtain ⟨p, hp, rfl⟩ := Option.map_eq_some_iff.1 h;have r := eqT_run hty 30 100 Op.maxDepth t i xs ys p _ _ g.w (by decide) hi hp k1 va vb;exact ⟨.bool p, g.w, by simp [gd, binOp, Op.equal, r], Post.same rfl s (.lit _)⟩
      · obtain ⟨p, hp, rfl⟩ := Option.map_eq_some_iff.1 h;have r := eqT_run hty 30 100 Op.maxDepth t i xs ys p _ _ g.w (by decide) hi hp k1 va vb;exact ⟨.bool (notB p), g.w, by simp [gd, binOp, Op.equal, r, notB], Post.same rfl s (.lit _)⟩
      · cases h
    · cases h
  · exact binOut_runs hty hi h ho s hx hy X Y
def lentA : List AV → Option Nat
  | [] => none
  | .asl i _ _ :: _ => some i
  | _ :: r => lentA r
def lentL : List AV → Option Nat
  | [] => none
  | .asl i _ _ :: _ => some i
  | .agg cs :: r => match lentA cs with
    | some i => some i
    | none => lentL r
  | _ :: r => lentL r
def lendA (i : Nat) (els : List (List AV)) : AV → AV
  | .asl j n s => if j = i then .sl els .no else .asl j n s
  | a => a
def lendB (i : Nat) (els : List (List AV)) : AV → AV
  | .agg cs => .agg (cs.map (lendA i els))
  | a => lendA i els a
def lendO (i s : Nat) (els : List (List AV)) : List AV → Prop
  | [] => True
  | .asl j n z :: r => (j = i → z = s ∧ n = lenL els) ∧ lendO i s els r
  | _ :: r => lendO i s els r
def lendP (i s : Nat) (els : List (List AV)) : List AV → Prop
  | [] => True
  | .agg cs :: r => lendO i s els cs ∧ lendP i s els r
  | .asl j n z :: r => (j = i → z = s ∧ n = lenL els) ∧ lendP i s els r
  | _ :: r => lendP i s els r
def litA : AV → Bool
  | .lit _ => true
  | _ => false
def litB : AV → Bool
  | .lit _ => true
  | .tup vs => vs.all litA
  | _ => false
def callOut (Γ : Gam) (f : FuncId) (l : List AV) (M : List AObj) : Option Out :=
  match lentL l with
  | none => Γ f l M
  | some i => match M[i]? with
    | some (.arr s els) => match Γ f (l.map (lendB i els)) [] with
      | some o => match o.M with
        | none => if litB o.av then some { av := o.av, obl := o.obl ∧ belL 0 (l.map (lendB i els)) ∧ lendP i s els l } else none
        | some _ => none
      | none => none
    | _ => none
theorem R.lendA {g : G} (sm : Sim g) {i s : Nat} {els : List (List AV)} (hM : g.M[i]? = some (.arr s els)) {h : G} (hw : h.w = g.w) (hreg : ∀ a, h.reg a → g.reg a) (hno : els ≠ [] → ∀ a, h.reg a → a.block ≠ g.β i)
    (hbe : belLL 0 els) {j z : Nat} {n : Int} {v : Value} (q : R g (.asl j n z) v) (hj : j = i) (hn : n = lenL els) : R h (.sl els .no) v := by
  cases q with
  | asl _ _ _ m cap a _ hm hc hz ha =>
  subst hj;have hlen : els.length = m := by unfold lenL at hn; omega
  subst hlen;by_cases hne : els = []
  · subst hne;rcases hz with rfl | ⟨b, off, rfl⟩
    · exact .nil _ trivial
    · exact .sl [] .no b off 0 cap (fun _ _ => undef) (by simp) (by simp) (by simp) (by simp) (by simp) trivial hc
  · have := ha (List.length_pos_iff.2 hne);subst this;obtain ⟨xs, T, h1, h2, h3⟩ := sm.arr j s els hM hne
    have key : ∀ p q (hp : p < els.length) (hq : q < s), p * s + q < xs.size ∧ R g (els[p][q]'(by rw [h2 _ (List.getElem_mem hp)]; exact hq)) (xs.getD (p * s + q) undef) ∧ (xs.getD (p * s + q) undef).oneCell' = true := fun p q hp hq =>
      h3 p q els[p] _ (List.getElem?_eq_getElem hp) (List.getElem?_eq_getElem _)
    refine .sl els .no _ 0 s cap (fun p q => xs.getD (p * s + q) undef) (fun p hp => h2 _ (List.getElem_mem hp)) (fun p q hp hq => ?_) (fun p q hp hq hr => hno hne _ hr rfl) (fun p q hp hq => ?_) (fun p q hp hq => (key p q hp hq).2.2) trivial hc
    · have := (key p q hp hq).1;rw [hw];simp [World.cell?, h1, Array.getD, this]
    · have hq' : q < s := by rw [← h2 _ (List.getElem_mem hp)]; exact hq
      exact (key p q hp hq').2.1.less hw hreg (belL_iff.1 (belLL_iff.1 hbe _ (List.getElem_mem hp)) _ (List.getElem_mem hq))
theorem RL.lend {g : G} (sm : Sim g) {i s : Nat} {els : List (List AV)} (hM : g.M[i]? = some (.arr s els)) {h : G} (hw : h.w = g.w) (hreg : ∀ a, h.reg a → g.reg a) (hno : els ≠ [] → ∀ a, h.reg a → a.block ≠ g.β i) :
    ∀ {l : List AV} {vs : List Value}, RL g l vs → belL 0 (l.map (lendB i els)) → lendP i s els l → RL h (l.map (lendB i els)) vs := by
  have one : ∀ {a : AV} {v : Value}, R g a v → (lendA i els a).bel 0 → (∀ j n z, a = .asl j n z → j = i → z = s ∧ n = lenL els) → R h (lendA i els a) v := fun {a v} q hb ho => by
    cases a with
    | asl j n z =>
      by_cases hj : j = i
      · have e : lendA i els (.asl j n z) = .sl els .no := by simp [Ab.lendA, hj]
        rw [e] at hb ⊢;exact R.lendA sm hM hw hreg hno hb.1 q hj (ho j n z rfl hj).2
      · have e : lendA i els (.asl j n z) = .asl j n z := by simp [Ab.lendA, hj]
        rw [e] at hb ⊢;exact q.less hw hreg hb
    | _ => exact q.less hw hreg hb
  have many : ∀ {cs : List AV}, lendO i s els cs → ∀ j (hj : j < cs.length), ∀ k n z, cs[j] = .asl k n z → k = i → z = s ∧ n = lenL els := by
    intro cs
    induction cs with
    | nil => intro _ j hj; simp at hj
    | cons c cs ih =>
      intro ho j hj k n z he hk;cases j with
      | zero =>
        simp only [List.getElem_cons_zero] at he;subst he;exact ho.1 hk
      | succ j =>
        refine ih ?_ j (by simpa using hj) k n z (by simpa using he) hk;cases c <;> first | exact ho.2 | exact ho
  intro l vs q
  induction q with
  | nil => intro _ _; exact .nil
  | @cons a l v vs q _ ih =>
    intro hb ho;have hb' : (lendB i els a).bel 0 ∧ belL 0 (l.map (lendB i els)) := hb;cases a with
    | agg cs =>
      refine .cons ?_ (ih hb'.2 ho.2);cases q with
      | agg _ xs hs hx h4 =>
        refine .agg _ xs (by simpa using hs) (fun j hj => ?_) (fun j hj => h4 j (by simpa using hj));have hj' : j < cs.length := by simpa using hj
        have hbj := belL_iff.1 (show belL 0 (cs.map (Ab.lendA i els)) from hb'.1) ((cs.map (Ab.lendA i els))[j]) (List.getElem_mem hj);simp only [List.getElem_map] at hbj ⊢;exact one (hx j hj') hbj fun k n z he hk => many ho.1 j hj' k n z he hk
    | asl j n z => exact .cons (one q hb'.1 fun j' n' z' he hk => by cases he; exact ho.1 hk) (ih hb'.2 ho.2)
    | _ => exact .cons (one q hb'.1 fun j' n' z' he hk => by cases he) (ih hb'.2 ho)
theorem callOut_ok {P : Program} {Γ : Gam} (hΓ : GamOk P Γ) {f : FuncId} {l : List AV} {M : List AObj} {out : Out} (h : callOut Γ f l M = some out) : CallOk P f l M out := by
  unfold callOut at h;split at h
  · exact hΓ.h f l M out h
  rename_i i _;split at h
  · rename_i s els hM;split at h
    · rename_i o ho;split at h
      · rename_i hoM;split at h
        · rename_i hlit;cases h;intro g vs hgM sm hr hob;obtain ⟨hob, hbe, hlp⟩ := hob;subst hgM
          let C : Addr → Prop := fun a => (AObj.arr s els).covers (g.β i) (g.ρ i) a
          let h0 : G := ⟨[], g.β, g.ρ, g.w, fun a => g.reg a ∧ ¬ C a⟩
          have hreg : ∀ a, h0.reg a → g.reg a := by
            rintro a (q | ⟨j, o, hj, _⟩)
            · exact q.1
            · simp [h0] at hj
          have hnC : ∀ a, h0.reg a → ¬ C a := by
            rintro a (q | ⟨j, o, hj, _⟩)
            · exact q.2
            · simp [h0] at hj
          have sh : Sim h0 := by
            refine ⟨Facts.less (g := g) rfl hreg sm.fct, ?_, ?_, ?_, ?_, fun a ha => sm.inb a (hreg a ha), ?_, ?_, ?_, ?_, ?_, ?_⟩
            · intro j cells hj; simp [h0] at hj
            · intro j t pos hj; simp [h0] at hj
            · intro t e ht; simp [h0] at ht
            · intro j j' oj oj' a hj; simp [h0] at hj
            · rintro a _ ⟨j, o, hj, _⟩; simp [h0] at hj
            · intro j es hj; simp [h0] at hj
            · intro j es vis cur t hj; simp [h0] at hj
            · intro j φ hj; simp [h0] at hj
            · intro j P cur hj; simp [h0] at hj
            · intro j z es hj; simp [h0] at hj
          have hl := RL.lend sm hM (h := h0) rfl hreg (fun hne a ha hb => hnC a ha ⟨hne, hb⟩) hr hbe hlp;obtain ⟨c1, c2⟩ := hΓ.h f _ [] o ho h0 vs rfl sh hl hob;refine ⟨c1, c2.mono fun e w' => ?_⟩;rintro ⟨v, rfl, β', ρ', s', r', k'⟩;refine ⟨v, rfl, g.β, g.ρ, ?_⟩;simp only [G.out, hoM, Option.getD_none] at s' r' k' ⊢
          have hlitR : ∀ {h1 h2 : G} {a : AV} {v : Value}, litB a = true → R h1 a v → R h2 a v := fun {h1 h2 a v} hb q => by
            cases a with
            | lit u => cases q; exact .lit _
            | tup vs =>
              cases q with
              | tup _ xs hs hx =>
                refine .tup _ xs hs fun j hj => ?_;have hj2 : litA vs[j] = true := List.all_eq_true.1 hb _ (List.getElem_mem hj);have := hx j hj;generalize vs[j] = c at this hj2;cases c <;> simp only [litA, Bool.false_eq_true] at hj2;cases this; exact .lit _
            | _ => simp [litB] at hb
          have hX : ∀ a, g.reg a → ¬ C a → h0.X a := fun a h1 h2 => ⟨h1, h2⟩;have hCb : ∀ b : Nat, els ≠ [] → b = g.β i → ∀ off, ¬ h0.reg ⟨b, off, none⟩ := fun b hne hb off q => hnC _ q ⟨hne, hb⟩
          have hwh : ∀ (j : Nat) (o : AObj) (b : Nat), g.M[j]? = some o → o.whole (g.β j) (g.ρ j) b → w'.heap[b]? = g.w.heap[b]? := fun j o b hj hb => by
            by_cases hji : j = i
            · subst hji;rw [hM] at hj; cases hj;exact k'.blocks b (whole_lt sm hM hb) (hCb b hb.1 hb.2)
            · refine k'.xblk b (whole_lt sm hj hb) fun off => hX _ (reg_of hj (hb.covers off)) fun q => hji (sm.disj j i o _ _ hj hM (hb.covers off) q)
          have hcell : ∀ a, a.block < g.w.heap.size → g.reg a → ¬ C a → w'.cell? a = g.w.cell? a ∧ w'.frozen? a = g.w.frozen? a := fun a h1 h2 h3 => k'.xcell a h1 (hX a h2 h3)
          have k0 : Keep0 g { g with w := w' } := by
            refine ⟨Nat.le_refl _, fun _ _ => rfl, fun _ _ e h => ⟨e, h, Nat.le_refl _, fun _ => rfl⟩, k'.size, fun a x hx hr => k'.cells a x hx fun q => hr (hreg a q), fun _ _ h => h, fun b hb hr => k'.blocks b hb fun off q => hr off (hreg _ q), k'.io⟩
          refine ⟨sim_same sm k0 hwh fun t e ht n hn => ?_, hlitR hlit r', ⟨k0, fun _ h => h, fun a h1 h2 => hcell a h1 (.inl h2) fun q => sm.xdis a h2 ⟨i, _, hM, q⟩, fun b hb hx => ?_⟩⟩
          · obtain ⟨x, q1, _⟩ := sm.room t e ht n hn;have hcv : (AObj.room e).covers (g.β t) (g.ρ t) ⟨(g.ρ t).b, (g.ρ t).off + n, none⟩ := ⟨rfl, by simp, by simpa using hn⟩;refine hcell _ (cell_lt q1) (reg_of ht hcv) fun q => ?_;have := sm.disj t i _ _ _ ht hM hcv q;subst this;rw [ht] at hM; cases hM
          · exact k'.xblk b hb fun off => hX _ (.inl (hx off)) fun q => sm.xdis _ (hx off) ⟨i, _, hM, q⟩
        · cases h
      · cases h
    · cases h
  · cases h
def nlAt : Option Nat → Option Nat → Operand → Bool
  | some a, some b, .const (.slice none 0 0) => a == b
  | _, _, _ => false
@[simp] theorem nlAt_none (b : Option Nat) (x : Operand) : nlAt none b x = false := rfl
@[simp] theorem nlAt_tmp (a b : Option Nat) (t : Nat) : nlAt a b (.tmp t) = false := by unfold nlAt; split <;> simp_all
@[simp] theorem nlAt_int (a b : Option Nat) (k : IntKind) (n : Int) : nlAt a b (.const (.int k n)) = false := by unfold nlAt; split <;> simp_all
@[simp] theorem nlAt_bool (a b : Option Nat) (n : Bool) : nlAt a b (.const (.bool n)) = false := by unfold nlAt; split <;> simp_all
@[simp] theorem nlAt_nil (a b : Nat) : nlAt (some a) (some b) (.const (.slice none 0 0)) = (a == b) := rfl
theorem nlAt_spec {a b : Option Nat} {x : Operand} (h : nlAt a b x = true) : x = .const (.slice none 0 0) := by
  unfold nlAt at h;split at h
  · rfl
  · cases h
def evOp (ty : TyTab) (Γ : Gam) (A : Env) (vs : List (Nat × Bool)) (M : List AObj) (o : Oper) : Option Out :=
  match o.op with
  | .move x => (evX A vs x).map fun a => { av := a }
  | .assign x => if nlAt ty.nl o.dst x = true then some { av := .sl [] .nl } else (evX A vs x).map fun a => { av := a }
  | .pick c a b => pickOut A vs c a b
  | .alloc t => (ty t).map fun i => allocOut i M
  | .box _ x => (evX A vs x).map fun a => boxOut M a
  | .build t ps => (ty t).bind fun i => (evPs A vs ps.toList).bind fun l => buildOut ty i l
  | .buildSlice t n ps => (ty t).bind fun i => i.k.elem.bind fun e => (ty e).bind fun ie => (evPs A vs ps.toList).bind fun l => match i.k with
    | .slice _ => buildSliceOut ie n l
    | _ => none
  | .load t x => (ty t).bind fun i => (evX A vs x).bind fun a => loadOut i M a
  | .store t x v => (ty t).bind fun i => (evX A vs x).bind fun a => (evX A vs v).bind fun u => storeOut i M a u
  | .nilCheck x => (evX A vs x).bind nilOut
  | .binOp op t x y _ => (ty t).bind fun i => (evX A vs x).bind fun a => if isNilS y then nilCmpOut i.k op a else if isNilI y then nilIOut i.k op a else (evX A vs y).bind fun b => binOut2 ty t i op a b
  | .unOp op _ x => (evX A vs x).bind fun a => unOut op a
  | .convert s d x => (ty s).bind fun is => (ty d).bind fun id => (evX A vs x).bind fun a => convAll ty is.k id.k a
  | .makeInterface t x => (ty t).bind fun i => (evX A vs x).bind fun a => ifaceOut i t a
  | .makeSlice t l c => (ty t).bind fun i => i.k.elem.bind fun e => (ty e).bind fun ie => (evX A vs l).bind fun a => (evX A vs c).bind fun b => match i.k with
    | .slice _ => if sameO l c then makeOutB ie M a b else if zeroO l c then makeOutC ie M a b else makeOut ie a b
    | _ => none
  | .makeFunc fn first cap => match fn, first with
    | .func f, ⟨[]⟩ => (evXs A vs cap.toList).bind fun l => some { av := .clo f l }
    | _, _ => none
  | .slice t x lo hi mx => (ty t).bind fun i => (evX A vs x).bind fun a => (evO A vs lo).bind fun l => (evO A vs hi).bind fun h => (evO A vs mx).bind fun m =>
    match i.k with
    | .slice e => (ty e).bind fun ie => sliceOut i.k ie.size a l h m
    | _ => sliceOut i.k 0 a l h m
  | .fieldAddr s x f => (ty s).bind fun i => (evX A vs x).bind fun a => match i.k with
    | .struct fs => fs[f]?.bind fun q => (ty q.2).bind fun fi => if fi.size = 0 then none else fieldAddrOut q.1 a
    | _ => none
  | .field s x f => (ty s).bind fun i => (evX A vs x).bind fun a => match i.k with
    | .struct fs => fs[f]?.bind fun q => (ty q.2).bind fun fi => fieldOut fi q.1 a
    | _ => none
  | .indexAddr t x ix => (ty t).bind fun i => i.k.elem.bind fun e => (ty e).bind fun ie => (evX A vs x).bind fun a => (evX A vs ix).bind fun b => indexAddrOut i.k ie a b
  | .index t x ix => (ty t).bind fun i => (evX A vs x).bind fun a => (evX A vs ix).bind fun b => indexOut i.k a b
  | .range t x => (ty t).bind fun i => (evX A vs x).bind fun a => rangeOut i.k M a
  | .next x s => if s then (evX A vs x).bind fun a => nextOut M a else none
  | .entry x => (evX A vs x).bind fun a => entry2Out M a
  | .extract x n => (evX A vs x).bind fun a => extractOut a n
  | .makeMap _ r => match r with
    | none => some (makeMapOut M)
    | some _ => none
  | .lookup t x ix ok => (ty t).bind fun i => (evX A vs x).bind fun a => (evX A vs ix).bind fun b => match i.k with
    | .map kt et => (ty kt).bind fun ik => (ty et).bind fun ie => match b with
      | .agg c => lookupSOut ty kt ie M a c ok
      | _ => lookupOut ik.k ie M a b ok
    | _ => none
  | .mapUpdate t x ix v => (ty t).bind fun i => (evX A vs x).bind fun a => (evX A vs ix).bind fun b => (evX A vs v).bind fun u => match i.k with
    | .map kt _ => (ty kt).bind fun ik => match b with
      | .agg c => mapSetSOut ty kt M a c u
      | _ => mapSetOut ik.k M a b u
    | _ => none
  | .call c => match c.callee with
    | .value fx => match evX A vs fx with
      | some (.lit (.func (.func f) ⟨[]⟩ ⟨[]⟩)) => (evXs A vs c.args.toList).bind fun l => callOut Γ f l M
      | some (.clo f cs) => (evXs A vs c.args.toList).bind fun l => callOut Γ f (l ++ cs) M
      | _ => none
    | .builtin b => (evXs A vs c.args.toList).bind fun l => builtinOut ty M b c.argTypes.toList l
    | .invoke r n => match evX A vs r with
      | some (.iface t x) => (ty.meth t n).bind fun f => (evXs A vs c.args.toList).bind fun l => callOut Γ f (x :: l) M
      | _ => none
  | .typeAssert x _ t ok => (ty t).bind fun i => (evX A vs x).bind fun a => assertOut ty i t a ok
  | _ => none
def After (P : Program) (K : Value → World → Prop) : Result Next → Prop
  | .ok (.value v) w' => K v w'
  | .ok .skip w' => K undef w'
  | .ok (.enter f args) w' => Calls P f args w' fun e w'' => ∃ v, e = .returned v ∧ K v w''
  | _ => False
def Does (P : Program) (o : Oper) (a : Act) (w : World) (K : Value → World → Prop) : Prop := After P K ((execOp a.eval o).run P w)
theorem Does.wp {P : Program} {o : Oper} {a : Act} {w : World} {K : Value → World → Prop} (h : Does P o a w K) {next : Act → World → Prop} {Q : Exit → Act → World → Prop} (hn : ∀ v w', K v w' → next (a.put o.dst v) w') : o.wp P a w next Q := by
  unfold Does at h;unfold Oper.wp;generalize (execOp a.eval o).run P w = r at *
  cases r with
  | halt x w' => exact h.elim
  | ok n w' =>
    cases n with
    | value v => exact hn _ _ h
    | skip => exact hn _ _ h
    | enter f args =>
      refine Calls.mono h fun e w'' ⟨v, he, hk⟩ => ?_;subst he;exact hn _ _ hk
    | _ => exact h.elim
theorem After.of_eq {P : Program} {K : Value → World → Prop} {r : Result Next} {v : Value} {w' : World} (h : r = .ok (.value v) w') (hk : K v w') : After P K r := by rw [h]; exact hk
theorem Does.of_runs {P : Program} {o : Oper} {a : Act} {g : G} {out : Out} {s : Sem Value} (h : Runs P s g out) (he : execOp a.eval o = (do pure (.value (← s)))) : Does P o a g.w (Post g out) := by
  obtain ⟨v, w', hr, hp⟩ := h;unfold Does;rw [he, Sem.run_bind, hr];exact hp
theorem RL.toArray1 {g : G} {a : AV} {l : List Value} (h : RL g [a] l) : ∃ v, l = [v] ∧ R g a v := by
  cases h with
  | cons h r => cases r; exact ⟨_, rfl, h⟩
theorem RL.toArray2 {g : G} {a b : AV} {l : List Value} (h : RL g [a, b] l) : ∃ v u, l = [v, u] ∧ R g a v ∧ R g b u := by
  cases h with
  | cons h r =>
    obtain ⟨u, rfl, hu⟩ := r.toArray1;exact ⟨_, _, rfl, h, hu⟩
theorem array_of_toList {α : Type} {x : Array α} {l : List α} (h : x.toList = l) : x = l.toArray := by rw [← h]
theorem RL.app {g : G} {l l' : List AV} {vs vs' : List Value} (h : RL g l vs) (h' : RL g l' vs') : RL g (l ++ l') (vs ++ vs') := by
  induction h with
  | nil => exact h'
  | cons q _ ih => exact .cons q ih
theorem RL.clo {g : G} (f : Nat) {l : List AV} {vs : List Value} (h : RL g l vs) {xs : Array Value} (hx : xs.toList = vs) : R g (.clo f l) (.func (.func f) #[] xs) := by
  have key : ∀ {l : List AV} {vs : List Value}, RL g l vs → vs.length = l.length ∧ ∀ j (h : j < l.length), R g l[j] (vs.getD j undef) := by
    intro l vs h
    induction h with
    | nil => exact ⟨rfl, fun j hj => by simp at hj⟩
    | cons q _ ih =>
      refine ⟨by simp [ih.1], fun j hj => ?_⟩;cases j with
      | zero => simpa using q
      | succ j => simpa using ih.2 j (by simpa using hj)
  obtain ⟨h1, h2⟩ := key h;subst hx;refine .clo f l xs (by simpa using h1) fun j hj => ?_;have := h2 j hj
  have e : xs.toList.getD j undef = xs.getD j undef := by
    have hj' : j < xs.size := by rw [← Array.length_toList, h1]; exact hj
    simp [Array.getD, hj']
  rw [e] at this; exact this
theorem RL.of_clo {g : G} {f : Nat} {l : List AV} {v : Value} (h : R g (.clo f l) v) : ∃ xs, v = .func (.func f) #[] xs ∧ RL g l xs.toList := by
  cases h with
  | clo _ _ xs hs h =>
    refine ⟨xs, rfl, ?_⟩
    have key : ∀ (l : List AV) (vs : List Value), vs.length = l.length → (∀ j (h : j < l.length), R g l[j] (vs.getD j undef)) → RL g l vs := by
      intro l
      induction l with
      | nil => intro vs h _; cases vs with | nil => exact .nil | cons _ _ => simp at h
      | cons a l ih =>
        intro vs h hj;cases vs with
        | nil => simp at h
        | cons v vs => exact .cons (hj 0 (by simp)) (ih vs (by simpa using h) fun j q => hj (j + 1) (by simpa using q))
    refine key l xs.toList (by simpa using hs) fun j hj => ?_
    have e : xs.toList.getD j undef = xs.getD j undef := by
      have hj' : j < xs.size := by omega
      simp [Array.getD, hj']
    rw [e]; exact h j hj
theorem builtinOut_runs {P : Program} {ty : TyTab} (hty : TyOk P ty) {b : Builtin} {ts : Array TypeId} {rt : TypeId} {cs : Array Bool} {l : List AV} {vs : List Value} {g : G} {out : Out}
    (h : builtinOut ty g.M b ts.toList l = some out) (ho : out.obl) (sm : Sim g) (hl : RL g l vs) :
    ∃ v w', (builtin b ts rt cs vs.toArray).run P g.w = .ok (.value v) w' ∧ Post g out v w' := by
  have fin : ∀ {s : Sem Value}, Runs P s g out → builtin b ts rt cs vs.toArray = (do pure (.value (← s))) → ∃ v w', (builtin b ts rt cs vs.toArray).run P g.w = .ok (.value v) w' ∧ Post g out v w' := by
    intro s ⟨v, w', hr, hp⟩ he;exact ⟨v, w', by rw [he, Sem.run_bind, hr]; rfl, hp⟩
  unfold builtinOut at h;split at h
  · rename_i t x hts;split at h
    · rename_i i hi;obtain ⟨v, rfl, hv⟩ := hl.toArray1;have := array_of_toList hts; subst this;split at h
      · rename_i kt et hk;exact fin (mapLenOut_runs (rt := rt) hty hi hk h sm hv) rfl
      · exact fin (lenOut_runs (rt := rt) hty hi h sm hv) rfl
    · cases h
  · rename_i t t2 x k hts;split at h
    · rename_i i hi;split at h
      · rename_i kt et hk;split at h
        · rename_i ik hkt;obtain ⟨v, u, rfl, hv, hu⟩ := hl.toArray2;have := array_of_toList hts; subst this;split at h
          · exact fin (mapDelSOut_runs (rt := rt) hty hi hk h sm hv hu) rfl
          · exact fin (mapDelOut_runs (rt := rt) hty hi hk hkt h ho sm hv hu) rfl
        · cases h
      · cases h
    · cases h
  · rename_i x y;obtain ⟨v, u, rfl, hv, hu⟩ := hl.toArray2;exact fin (maxOut_runs (ts := ts) (rt := rt) h sm hv hu) rfl
  · rename_i x y;obtain ⟨v, u, rfl, hv, hu⟩ := hl.toArray2;exact fin (minOut_runs (ts := ts) (rt := rt) h sm hv hu) rfl
  · rename_i t u x els' tok hts;have := array_of_toList hts; subst this;split at h
    · rename_i i j hi hj;split at h
      · rename_i e e' hk hk';split at h
        · rename_i ie hie;split at h
          · rename_i o ho';cases h;obtain ⟨v, u', rfl, hv, hu⟩ := hl.toArray2;have hobl := ho;obtain ⟨_, d, _, _, u2, k2, _⟩ := hty.facts hj;have := kind_slice (k2.trans hk'); subst this
            have hs' : ∀ q ∈ els', q.length = ie.size := by
              unfold appendOut at ho';split at ho'
              · split at ho'
                · split at ho'
                  · cases ho'; exact hobl.2.1
                  · cases ho'
                · cases ho'
              · split at ho'
                · split at ho'
                  · cases ho'; exact hobl.1
                  · cases ho'
                · cases ho'; exact hobl.2.1
              · cases ho'
            obtain ⟨news, hn⟩ := Appd.of_slice (P := P) u2 hu hs';obtain ⟨v', w', hr, hp⟩ := appendOut_runs (rt := rt) hty hi hk hie ho' ho sm hv hn;exact fin ⟨v', w', hr, hp⟩ rfl
          · cases h
        · cases h
      · cases h
    · cases h
  · rename_i t u i n j m hts;have := array_of_toList hts; subst this;split at h
    · rename_i ti hti;split at h
      · rename_i e hk;split at h
        · rename_i ie hie;obtain ⟨v, u', rfl, hv, hu⟩ := hl.toArray2;exact fin (copyOut_runs (T2 := u) (rt := rt) hty hti hk hie h ho sm hv hu) rfl
        · cases h
      · cases h
    · cases h
  · cases h
theorem evOp_does {P : Program} {ty : TyTab} {Γ : Gam} (hty : TyOk P ty) (hΓ : GamOk P Γ) {A : Env} {vs : List (Nat × Bool)} {g : G} {o : Oper} {out : Out} {a : Act}
    (h : evOp ty Γ A vs g.M o = some out) (ho : out.obl) (sm : Sim g) (hA : EnvRel g A a.tmps) (hv : Tr a.tmps vs) : Does P o a g.w (Post g out) := by
  obtain ⟨dst, op, type, pos, after, guard⟩ := o;cases op <;> simp only [evOp, Option.map_eq_some_iff, Option.bind_eq_some_iff] at h <;> try (cases h; done)
  case move x =>
    obtain ⟨av, h1, rfl⟩ := h;exact Does.of_runs (s := pure (a.eval x)) ⟨_, _, rfl, Post.same rfl sm (hA.ev hv h1)⟩ rfl
  case assign x =>
    split at h
    · rename_i hn;cases h;have hx := nlAt_spec hn;subst hx;exact Does.of_runs (s := pure (a.eval (.const (.slice none 0 0)))) ⟨_, _, rfl, Post.same rfl sm (.nil .nl rfl)⟩ rfl
    · obtain ⟨av, h1, rfl⟩ := Option.map_eq_some_iff.1 h;exact Does.of_runs (s := pure (a.eval x)) ⟨_, _, rfl, Post.same rfl sm (hA.ev hv h1)⟩ rfl
  case pick c x y =>
    unfold pickOut at h;split at h
    · rename_i t;split at h
      · rename_i p bx by_ h1 h2 h3;cases h;have hc : a.eval (.tmp t) = .bool p := (hA.get hv h1).lit_inv;have hc' : a.tmps.getD t undef = .bool p := hc;have hy : yv (a.tmps.getD t undef) = some p := by rw [hc']; rfl
        cases p with
        | true =>
          have e := (hA.ev (vs := (t, true) :: vs) (fun q hq => by rcases List.mem_cons.1 hq with rfl | hq; exact hy; exact hv q hq) h2).lit_inv;refine Does.of_runs (s := do pure (if ← asBool (a.eval (.tmp t)) then a.eval x else a.eval y)) ⟨.bool bx, g.w, ?_, Post.same rfl sm (.lit _)⟩ ?_
          · rw [hc, e]; rfl
          · simp only [execOp, bind_assoc, pure_bind]
        | false =>
          have e := (hA.ev (vs := (t, false) :: vs) (fun q hq => by rcases List.mem_cons.1 hq with rfl | hq; exact hy; exact hv q hq) h3).lit_inv;refine Does.of_runs (s := do pure (if ← asBool (a.eval (.tmp t)) then a.eval x else a.eval y)) ⟨.bool by_, g.w, ?_, Post.same rfl sm (.lit _)⟩ ?_
          · rw [hc, e]; rfl
          · simp only [execOp, bind_assoc, pure_bind]
      · cases h
    · cases h
  case alloc t =>
    obtain ⟨i, h1, rfl⟩ := h;exact Does.of_runs (allocOut_runs hty h1 sm) rfl
  case box t x =>
    obtain ⟨av, h1, rfl⟩ := h;exact Does.of_runs (boxOut_runs (T := t) ho sm (hA.ev hv h1)) rfl
  case build t ps =>
    obtain ⟨i, h1, l, h2, h3⟩ := h;refine Does.of_runs (s := Instr.build t (ps.map fun (i, x) => (i, a.eval x))) (buildOut_runs hty h1 h3 ho sm ?_) rfl;have := hA.evPs hv h2;simpa using this
  case buildSlice t n ps =>
    obtain ⟨i, h1, e, he, ie, h2, l, h3, h4⟩ := h;split at h4
    · rename_i e' hk;rw [hk] at he; cases he
      have hp : PL g l (ps.map fun (i, x) => (i, a.eval x)).toList := by
        have := hA.evPs hv h3;simpa using this
      have hr := buildSliceOut_runs (T := t) hty h1 hk h2 h4 ho sm hp;exact Does.of_runs hr rfl
    · cases h4
  case load t x =>
    obtain ⟨i, h1, av, h2, h3⟩ := h;exact Does.of_runs (loadOut_runs hty h1 h3 ho sm (hA.ev hv h2)) rfl
  case store t x v =>
    obtain ⟨i, h1, av, h2, u, h3, h4⟩ := h;obtain ⟨w', hr, hp⟩ := storeOut_runs hty h1 h4 ho sm (hA.ev hv h2) (hA.ev hv h3);unfold Does;simp only [execOp, Sem.run_bind, hr, Result.andThen_ok, Sem.run_pure];exact hp
  case nilCheck x =>
    obtain ⟨av, h1, h2⟩ := h;have r := hA.ev hv h1;unfold nilOut at h2;split at h2
    · cases h2;generalize hv' : a.eval x = v at r;cases r with
      | ptr _ _ hi =>
        unfold Does;simp only [execOp, hv', Sem.run_pure];exact Post.same rfl sm (.ptr _ _ hi)
    · cases h2;generalize hv' : a.eval x = v at r;cases r with
      | cptr _ b off xs q1 q2 q3 q4 =>
        unfold Does;simp only [execOp, hv', Sem.run_pure];exact Post.same rfl sm (.cptr _ b off xs q1 q2 q3 q4)
    · cases h2;have := r.lit_inv;unfold Does;simp only [execOp, this, Sem.run_pure];exact Post.same rfl sm (.lit _)
    · cases h2
  case binOp op t x y ty' =>
    obtain ⟨i, h1, av, h2, h3⟩ := h;split at h3
    · rename_i hn;have hy := isNilS_spec hn;subst hy;exact Does.of_runs (nilCmpOut_runs hty h1 h3 sm (hA.ev hv h2) x _) rfl
    split at h3
    · rename_i hn;have hy := isNilI_spec hn;subst hy;exact Does.of_runs (nilIOut_runs hty h1 h3 sm (hA.ev hv h2) x) rfl
    · obtain ⟨u, h3, h4⟩ := Option.bind_eq_some_iff.1 h3;exact Does.of_runs (binOut2_runs hty h1 h4 ho sm (hA.ev hv h2) (hA.ev hv h3) x y) rfl
  case unOp op t x =>
    obtain ⟨av, h2, h4⟩ := h;exact Does.of_runs (unOut_runs h4 sm (hA.ev hv h2)) rfl
  case convert s d x =>
    obtain ⟨is, h1, id, h2, av, h3, h4⟩ := h;exact Does.of_runs (convAll_runs hty h1 h2 h4 ho sm (hA.ev hv h3)) rfl
  case makeInterface t x =>
    obtain ⟨i, h1, av, h2, h3⟩ := h;obtain ⟨_, d, _, _, u2, k2, _⟩ := hty.facts h1;unfold ifaceOut at h3;split at h3
    · cases h3
    · rename_i hk;cases h3;refine Does.of_runs (s := Instr.makeInterface t (a.eval x)) ⟨.iface t (a.eval x), g.w, ?_, Post.same rfl sm (.iface _ _ _ (hA.ev hv h2))⟩ rfl;simp only [Instr.makeInterface, Sem.run_bind, run_underlying u2, Result.andThen_ok];cases d <;> first | rfl | (exact absurd k2.symm hk)
  case makeSlice t l c =>
    obtain ⟨i, h1, e, he, ie, h2, av, h3, u, h4, h5⟩ := h;split at h5
    · rename_i e' hk;rw [hk] at he; cases he;split at h5
      · exact Does.of_runs (makeOutB_runs hty h1 hk h2 h5 ho sm (hA.ev hv h3) (hA.ev hv h4)) rfl
      split at h5
      · exact Does.of_runs (makeOutC_runs hty h1 hk h2 h5 ho sm (hA.ev hv h3) (hA.ev hv h4)) rfl
      · exact Does.of_runs (makeOut_runs hty h1 hk h2 h5 ho sm (hA.ev hv h3) (hA.ev hv h4)) rfl
    · cases h5
  case makeFunc fn first cap =>
    split at h
    · rename_i f;obtain ⟨l, h2, h3⟩ := Option.bind_eq_some_iff.1 h;cases h3;have hl := hA.evs hv h2;refine Does.of_runs (s := pure (.func (.func f) ((⟨[]⟩ : Array Operand).map a.eval) (cap.map a.eval))) ⟨_, _, rfl, Post.same rfl sm ?_⟩ rfl;have e : ((⟨[]⟩ : Array Operand).map a.eval) = #[] := by simp
      rw [e];exact RL.clo f hl (by simp)
    · cases h
  case slice t x lo hi mx =>
    obtain ⟨i, h1, av, h2, l, h3, hh, h4, m, h5, h6⟩ := h;split at h6
    · rename_i e hk;simp only [Option.bind_eq_some_iff] at h6;obtain ⟨ie, h7, h8⟩ := h6;exact Does.of_runs (sliceOut_runs hty h1 (fun e' he' => by rw [hk] at he'; cases he'; exact ⟨ie, h7, rfl⟩) h8 ho sm (hA.ev hv h2) (hA.evO hv h3) (hA.evO hv h4) (hA.evO hv h5)) rfl
    · rename_i hk;exact Does.of_runs (sliceOut_runs hty h1 (fun e' he' => absurd he' (hk e')) h6 ho sm (hA.ev hv h2) (hA.evO hv h3) (hA.evO hv h4) (hA.evO hv h5)) rfl
  case fieldAddr s x f =>
    obtain ⟨i, h1, av, h2, h3⟩ := h;split at h3
    · rename_i fs hk;simp only [Option.bind_eq_some_iff] at h3;obtain ⟨⟨off, ft⟩, h4, fi, h5, h6⟩ := h3;split at h6
      · cases h6
      · rename_i hz;exact Does.of_runs (fieldAddrOut_runs hty h1 hk h4 h5 hz h6 sm (hA.ev hv h2)) rfl
    · cases h3
  case field s x f =>
    obtain ⟨i, h1, av, h2, h3⟩ := h;split at h3
    · rename_i fs hk;simp only [Option.bind_eq_some_iff] at h3;obtain ⟨⟨off, ft⟩, h4, fi, h5, h6⟩ := h3;exact Does.of_runs (fieldOut_runs hty h1 hk h4 h5 h6 ho sm (hA.ev hv h2)) rfl
    · cases h3
  case indexAddr t x ix =>
    obtain ⟨i, h1, e, he, ie, h2, av, h3, u, h4, h5⟩ := h;exact Does.of_runs (indexAddrOut_runs hty h1 he h2 h5 ho sm (hA.ev hv h3) (hA.ev hv h4)) rfl
  case index t x ix =>
    obtain ⟨i, h1, av, h3, u, h4, h5⟩ := h;exact Does.of_runs (indexOut_runs hty h1 h5 ho sm (hA.ev hv h3) (hA.ev hv h4)) rfl
  case range t x =>
    obtain ⟨i, h1, av, h2, h3⟩ := h;exact Does.of_runs (rangeOut_runs hty h1 h3 sm (hA.ev hv h2)) rfl
  case next x s =>
    split at h
    · rename_i hs;simp only [Option.bind_eq_some_iff] at h;obtain ⟨av, h2, h3⟩ := h;subst hs;exact Does.of_runs (nextOut_runs (rt := type) h3 sm (hA.ev hv h2)) rfl
    · cases h
  case entry x =>
    obtain ⟨av, h2, h3⟩ := h;exact Does.of_runs (entry2Out_runs h3 sm (hA.ev hv h2)) rfl
  case extract x n =>
    obtain ⟨av, h2, h3⟩ := h;exact Does.of_runs (extractOut_runs h3 sm (hA.ev hv h2)) rfl
  case makeMap t r =>
    cases r with
    | none =>
      simp only [Option.some.injEq] at h;subst h;exact Does.of_runs (makeMapOut_runs (t := t) sm) rfl
    | some _ => cases h
  case lookup t x ix ok =>
    obtain ⟨i, h1, av, h2, u, h3, h4⟩ := h;split at h4
    · rename_i kt et hk;simp only [Option.bind_eq_some_iff] at h4;obtain ⟨ik, h5, ie, h6, h7⟩ := h4;split at h7
      · exact Does.of_runs (lookupSOut_runs hty h1 hk h6 h7 sm (hA.ev hv h2) (hA.ev hv h3)) rfl
      · exact Does.of_runs (lookupOut_runs hty h1 hk h5 h6 h7 ho sm (hA.ev hv h2) (hA.ev hv h3)) rfl
    · cases h4
  case mapUpdate t x ix v =>
    obtain ⟨i, h1, av, h2, u, h3, uv, h3', h4⟩ := h;split at h4
    · rename_i kt et hk;simp only [Option.bind_eq_some_iff] at h4;obtain ⟨ik, h5, h7⟩ := h4;split at h7
      · obtain ⟨w', hr, hp⟩ := mapSetSOut_runs hty h1 hk h7 sm (hA.ev hv h2) (hA.ev hv h3) (hA.ev hv h3');unfold Does;simp only [execOp, Sem.run_bind, hr, Result.andThen_ok, Sem.run_pure];exact hp
      · obtain ⟨w', hr, hp⟩ := mapSetOut_runs hty h1 hk h5 h7 ho sm (hA.ev hv h2) (hA.ev hv h3) (hA.ev hv h3');unfold Does;simp only [execOp, Sem.run_bind, hr, Result.andThen_ok, Sem.run_pure];exact hp
    · cases h4
  case call c =>
    obtain ⟨callee, args, argTypes⟩ := c;simp only at h;split at h
    · rename_i fx;split at h
      · rename_i f h1;obtain ⟨l, h2, h3⟩ := Option.bind_eq_some_iff.1 h;have hf := (hA.ev hv h1).lit_inv;have hl := hA.evs hv h2;obtain ⟨hr, hc⟩ := callOut_ok hΓ h3 g _ rfl sm hl ho;have he : (args.toList.map a.eval).toArray = args.map a.eval := by apply Array.ext'; simp
        rw [he] at hr hc;unfold Does;simp only [execOp, resolve, hf, Deferred.ofValue, pure_bind, invoke];have e2 : ((⟨[]⟩ : Array Value) ++ Array.map a.eval args) ++ (⟨[]⟩ : Array Value) = args.map a.eval := by simp
        rw [e2, hr];exact hc
      · rename_i f cs h1;obtain ⟨l, h2, h3⟩ := Option.bind_eq_some_iff.1 h;have hl := hA.evs hv h2;obtain ⟨xs, hf, hx⟩ := RL.of_clo (hA.ev hv h1);obtain ⟨hr, hc⟩ := callOut_ok hΓ h3 g _ rfl sm (hl.app hx) ho;have he : (args.toList.map a.eval ++ xs.toList).toArray = args.map a.eval ++ xs := by apply Array.ext'; simp
        rw [he] at hr hc;unfold Does;simp only [execOp, resolve, hf, Deferred.ofValue, pure_bind, invoke];have e2 : ((#[] : Array Value) ++ Array.map a.eval args) ++ xs = args.map a.eval ++ xs := by simp
        rw [e2, hr];exact hc
      · cases h
    · rename_i b;obtain ⟨l, h2, h3⟩ := Option.bind_eq_some_iff.1 h;have hl := hA.evs hv h2;have he : (args.toList.map a.eval).toArray = args.map a.eval := by apply Array.ext'; simp
      have key : ∀ cs, After P (Post g out) ((builtin b argTypes type cs (args.map a.eval)).run P g.w) := fun cs => by
        obtain ⟨v, w', hr, hp⟩ := builtinOut_runs (rt := type) (cs := cs) hty h3 ho sm hl;rw [he] at hr;exact After.of_eq hr hp
      unfold Does;simp only [execOp, resolve, pure_bind, invoke];exact key _
    · rename_i r n;split at h
      · rename_i t x h1;obtain ⟨f, hm, h⟩ := Option.bind_eq_some_iff.1 h;obtain ⟨l, h2, h3⟩ := Option.bind_eq_some_iff.1 h;obtain ⟨v, hv1, hv2⟩ := (hA.ev hv h1).iface_inv;have hl := hA.evs hv h2;obtain ⟨hr, hc⟩ := callOut_ok hΓ h3 g _ rfl sm (.cons hv2 hl) ho;have he : (v :: args.toList.map a.eval).toArray = #[v] ++ args.map a.eval := by apply Array.ext'; simp
        rw [he] at hr hc;unfold Does;simp only [execOp, resolve, pure_bind, invoke, hv1];have e1 : (#[Value.iface t v] ++ Array.map a.eval args)[0]? = some (Value.iface t v) := by rw [Array.getElem?_append]; rfl
        have e2 : (#[Value.iface t v] ++ Array.map a.eval args).extract 1 (#[Value.iface t v] ++ Array.map a.eval args).size = args.map a.eval := by
          rw [Array.extract_append]; simp
        rw [e1];simp only [e2];rw [callMethod_run (hty.m _ _ _ hm), hr];exact hc
      · cases h
  case typeAssert x xt t ok =>
    obtain ⟨i, h1, av, h2, h3⟩ := h;exact Does.of_runs (assertOut_runs hty h1 h3 sm (hA.ev hv h2)) rfl
end Go.Ab
