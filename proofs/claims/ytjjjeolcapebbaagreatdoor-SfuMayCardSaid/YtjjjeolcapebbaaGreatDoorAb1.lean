/- A layer of abstract values over the model: what an abstract value says of a value, what an abstract memory says of a world, and that both last. No condition: definitions and lemmas over any program. -/
import Derived.WalkKit
import Derived.Test.YtjjjeolcapebbaaGreatDoorM01
import Derived.MapKept
namespace Go.Ab
inductive Tok where
  | no
  | nn
  | nl
  | full
  | own (t ep s : Nat)

inductive AV where
  | lit (v : Value)
  | ptr (i off : Nat)
  | cptr (cells : List AV)
  | sl (els : List (List AV)) (tok : Tok)
  | agg (cells : List AV)
  | tup (vs : List AV)
  | iface (t : TypeId) (v : AV)
  | mp (i : Nat)
  | it (i : Nat)
  | fn (f : Nat) (caps : List AV)
  | bag (els : List (List AV))
  | clo (f : Nat) (caps : List AV)
  | slb (i : Nat) (n : Int)
  | asl (i : Nat) (n : Int) (s : Nat)
  | aptr (i idx off s : Nat)

instance : Inhabited AV := ⟨.lit default⟩

structure Room where
  b : Nat
  off : Nat
  cnt : Nat
  bs : Nat → Prop
def nobs : Nat → Prop := fun _ => False

/-- The outside world, and what was printed, are as they were. -/
def SameIO (w w' : World) : Prop := w'.os = w.os ∧ w'.output = w.output

/-- From a world, of which C is covered, to a later one: what nothing covers lasts, and so do the blocks bs. -/
structure HK (w : World) (C : Addr → Prop) (w' : World) (C' : Addr → Prop) (bs : Nat → Prop) : Prop where
  size : w.heap.size ≤ w'.heap.size
  cells : ∀ a x, w.cell? a = some x → ¬ C a → w'.cell? a = some x
  regs : ∀ a, a.block < w.heap.size → ¬ C a → ¬ C' a
  blocks : ∀ b, b < w.heap.size → (∀ off, ¬ C ⟨b, off, none⟩) → w'.heap[b]? = w.heap[b]?
  io : SameIO w w'
  own : ∀ b, bs b → w'.heap[b]? = w.heap[b]?
  inC : ∀ a, bs a.block → C a
  inC' : ∀ a, bs a.block → C' a
  inb' : ∀ a, C' a → a.block < w'.heap.size

/-- What is said of a map's entries, whose values own the blocks bs. -/
structure Own where
  key : Value → Prop
  data : List (AV × AV)
  rel : World → (Addr → Prop) → (Nat → Prop) → List (Value × Value) → Prop
  keep : ∀ {w : World} {C : Addr → Prop} {w' : World} {C' : Addr → Prop} {bs : Nat → Prop} {l : List (Value × Value)}, HK w C w' C' bs → rel w C bs l → rel w' C' bs l

/-- The block of a Writer (type T) and that of its bytes (type E). -/
def WrB (T E : TypeId) (bs : List Int) (b rb : Nat) (o1 o2 : Option Obj) : Prop :=
  ∃ p v, o1 = some (.cells #[p, v] T (0, 0)) ∧ (p = .pointer none ∨ p = .pointer (some ⟨b, 0, none⟩)) ∧
    ((v = .slice none 0 0 ∧ bs = [] ∧ rb = b) ∨
     ∃ cap cur, v = .slice (some ⟨rb, 0, none⟩) bs.length cap ∧ rb ≠ b ∧ o2 = some (.cells cur E (0, 0)) ∧ bs.length ≤ cap ∧ cap ≤ maxLen ∧ cur.size = cap ∧ cur.toList.take bs.length = bs.map (Value.int .u8))
/-- A Writer: its bytes; the types of its two blocks; none: what is left of one. -/
structure Opq where
  bs : List Int
  k : Option (TypeId × TypeId)
def Opq.rel (q : Opq) (bs : List Int) (b rb : Nat) (o1 o2 : Option Obj) : Prop := match q.k with
  | none => True
  | some (T, E) => WrB T E bs b rb o1 o2
instance : CoeFun Opq fun _ => Nat → Nat → Option Obj → Option Obj → Prop := ⟨fun q => q.rel q.bs⟩

inductive AObj where
  | blk (cells : List AV)
  | room (ep : Nat)
  | iter (s : ByteArray) (pos : Nat)
  | mapo (es : List (AV × AV))
  | mapr (es : List (AV × AV)) (vis : List Value) (cur : Option Value) (t : Nat)
  | opq (φ : Opq)
  | own (P : Own) (cur : Option (Value × Option AV))
  | arr (s : Nat) (els : List (List AV))
  | dead

def AObj.covers (o : AObj) (b : Nat) (r : Room) (a : Addr) : Prop :=
  match o with
  | .blk _ => a.block = b
  | .iter _ _ => a.block = b
  | .mapo _ => a.block = b
  | .mapr _ _ _ _ => a.block = b ∨ a.block = r.b
  | .opq _ => a.block = b ∨ a.block = r.b
  | .own _ _ => a.block = b ∨ r.bs a.block
  | .arr _ els => els ≠ [] ∧ a.block = b
  | .room _ => a.block = r.b ∧ r.off ≤ a.off ∧ a.off < r.off + r.cnt
  | .dead => False

/-- The blocks that an object has for itself. -/
def AObj.whole (o : AObj) (b : Nat) (r : Room) (b' : Nat) : Prop :=
  match o with
  | .blk _ => b' = b
  | .iter _ _ => b' = b
  | .mapo _ => b' = b
  | .mapr _ _ _ _ => b' = b ∨ b' = r.b
  | .opq _ => b' = b ∨ b' = r.b
  | .own _ _ => b' = b ∨ r.bs b'
  | .arr _ els => els ≠ [] ∧ b' = b
  | .room _ => False
  | .dead => False
theorem AObj.whole.covers {o : AObj} {b b' : Nat} {r : Room} (h : o.whole b r b') (off : Nat := 0) : o.covers b r ⟨b', off, none⟩ := by
  cases o <;> first | exact h | exact h.elim

structure G where
  M : List AObj
  β : Nat → Nat
  ρ : Nat → Room
  w : World
  X : Addr → Prop

/-- What the objects cover. -/
def G.regM (g : G) (a : Addr) : Prop := ∃ (i : Nat) (o : AObj), g.M[i]? = some o ∧ o.covers (g.β i) (g.ρ i) a
/-- And what is set aside. -/
def G.reg (g : G) (a : Addr) : Prop := g.X a ∨ g.regM a
theorem reg_of {g : G} {a : Addr} {i : Nat} {o : AObj} (h : g.M[i]? = some o) (hc : o.covers (g.β i) (g.ρ i) a) : g.reg a := .inr ⟨i, o, h, hc⟩

def TokOk (g : G) (tok : Tok) (b off n cap s : Nat) : Prop :=
  match tok with
  | .no => True
  | .nn => True
  | .nl => False
  | .full => cap = n
  | .own t ep s' => s' = s ∧ t < g.M.length ∧ ∀ e, g.M[t]? = some (.room e) → ep ≤ e ∧ (ep = e → g.ρ t = ⟨b, off + n * s, (cap - n) * s, nobs⟩)

def TokNil (g : G) (tok : Tok) (a : Option Addr) : Prop :=
  match tok with
  | .own t ep _ => t < g.M.length ∧ ∀ e, g.M[t]? = some (.room e) → ep ≤ e ∧ (ep = e → (g.ρ t).cnt = 0)
  | .nn => a ≠ none
  | .nl => a = none
  | _ => True

inductive R (g : G) : AV → Value → Prop
  | lit (v : Value) : R g (.lit v) v
  | ptr (i off : Nat) (h : i < g.M.length) : R g (.ptr i off) (.pointer (some ⟨g.β i, off, none⟩))
  | cptr (cells : List AV) (b off : Nat) (xs : Nat → Value)
      (h1 : ∀ j, j < cells.length → g.w.cell? ⟨b, off + j, none⟩ = some (xs j))
      (h2 : ∀ j, j < cells.length → ¬ g.reg ⟨b, off + j, none⟩)
      (h3 : ∀ j (h : j < cells.length), R g cells[j] (xs j)) (h4 : ∀ j, j < cells.length → (xs j).oneCell' = true) : R g (.cptr cells) (.pointer (some ⟨b, off, none⟩))
  | nil (tok : Tok) {a : Option Addr} (h : TokNil g tok a) : R g (.sl [] tok) (.slice a 0 0)
  | sl (els : List (List AV)) (tok : Tok) (b off s cap : Nat) (xs : Nat → Nat → Value)
      (hs : ∀ i (h : i < els.length), els[i].length = s)
      (h1 : ∀ i j, i < els.length → j < s → g.w.cell? ⟨b, off + i * s + j, none⟩ = some (xs i j))
      (h2 : ∀ i j, i < els.length → j < s → ¬ g.reg ⟨b, off + i * s + j, none⟩)
      (h3 : ∀ i j (hi : i < els.length) (hj : j < els[i].length), R g els[i][j] (xs i j)) (h4 : ∀ i j, i < els.length → j < s → (xs i j).oneCell' = true)
      (ht : TokOk g tok b off els.length cap s) (hc : els.length ≤ cap) : R g (.sl els tok) (.slice (some ⟨b, off, none⟩) els.length cap)
  | agg (cells : List AV) (xs : Array Value) (hs : xs.size = cells.length)
      (h : ∀ j (h : j < cells.length), R g cells[j] (xs.getD j undef)) (h4 : ∀ j, j < cells.length → (xs.getD j undef).oneCell' = true) : R g (.agg cells) (.agg xs)
  | tup (cells : List AV) (xs : Array Value) (hs : xs.size = cells.length)
      (h : ∀ j (h : j < cells.length), R g cells[j] (xs.getD j undef)) : R g (.tup cells) (.tuple xs)
  | iface (t : TypeId) (av : AV) (v : Value) (h : R g av v) : R g (.iface t av) (.iface t v)
  | it (i : Nat) (h : i < g.M.length) : R g (.it i) (.pointer (some ⟨g.β i, 0, none⟩))
  | mp (i : Nat) (h : i < g.M.length) : R g (.mp i) (.map (some (g.β i)))
  | fn (f : Nat) (caps : List AV) (bs : Nat → Nat) (us : Nat → Value)
      (h1 : ∀ j, j < caps.length → g.w.cell? ⟨bs j, 0, none⟩ = some (us j))
      (h2 : ∀ j, j < caps.length → ¬ g.reg ⟨bs j, 0, none⟩)
      (h3 : ∀ j (h : j < caps.length), R g caps[j] (us j)) : R g (.fn f caps) (.func (.func f) #[] ((List.range caps.length).map fun j => Value.pointer (some ⟨bs j, 0, none⟩)).toArray)
  | bag (els els' : List (List AV)) (v : Value) (hp : els'.Perm els) (h : R g (.sl els' .no) v) : R g (.bag els) v
  | clo (f : Nat) (caps : List AV) (xs : Array Value) (hs : xs.size = caps.length) (h : ∀ j (h : j < caps.length), R g caps[j] (xs.getD j undef)) : R g (.clo f caps) (.func (.func f) #[] xs)
  | slb (i : Nat) (n : Int) (m : Nat) (h : i < g.M.length) (hn : (m : Int) = n) : R g (.slb i n) (.slice (some ⟨g.β i, 0, none⟩) m m)
  | asl (i : Nat) (n : Int) (s m cap : Nat) (a : Option Addr) (h : i < g.M.length) (hn : (m : Int) = n) (hc : m ≤ cap) (hz : cap = 0 ∨ ∃ b off, a = some ⟨b, off, none⟩) (ha : 0 < m → a = some ⟨g.β i, 0, none⟩) : R g (.asl i n s) (.slice a m cap)
  | aptr (i idx off s : Nat) (h : i < g.M.length) : R g (.aptr i idx off s) (.pointer (some ⟨g.β i, idx * s + off, none⟩))

/-- The entries of a map. -/
def MapRel (g : G) (es : List (AV × AV)) (o : Obj) : Prop :=
  ∃ (ents : Array MapEntry) (clock : Nat), o = .map ents clock ∧ MapKept.Stamped ents clock ∧ ents.toList.length = es.length ∧
    ∀ j (h : j < es.length), R g es[j].1 (ents.toList.getD j default).key ∧ R g es[j].2 (ents.toList.getD j default).val

/-- The entries of a map, and how far a range over it has come. -/
def MaprRel (g : G) (es : List (AV × AV)) (vis : List Value) (cur : Option Value) (b : Nat) (o oi : Obj) : Prop :=
  ∃ (ents : Array MapEntry) (clock : Nat) (seen : Array Nat), o = .map ents clock ∧ oi = .mapIter (some b) clock seen clock ∧ MapRel g es o ∧
    (∀ x ∈ ents.toList, seen.contains x.born = true ↔ x.key ∈ vis) ∧ ∀ k, cur = some k → ∃ st, seen.back? = some st ∧ ∀ x ∈ ents.toList, x.key = k → x.born = st

/-- A map's entries, as pairs. -/
def pairsOf (ents : Array MapEntry) : List (Value × Value) := ents.toList.map fun e => (e.key, e.val)
/-- A map that owns what its values point to; 'cur': the key at which it stands open, and what is there. -/
def OwnRel (g : G) (P : Own) (cur : Option (Value × Option AV)) (b : Nat) (bs : Nat → Prop) : Prop :=
  ∃ (ents : Array MapEntry) (clock : Nat), g.w.heap[b]? = some (.map ents clock) ∧ MapKept.Stamped ents clock ∧ (∀ e ∈ ents.toList, P.key e.key) ∧ ¬ bs b ∧ P.rel g.w g.reg bs (pairsOf ents) ∧
    ∀ k v, cur = some (k, v) → match v with
      | none => ∀ e ∈ ents.toList, e.key ≠ k
      | some av => ∃ e ∈ ents.toList, e.key = k ∧ R g av e.val

/-- The elements of a block of one's own. -/
def ArrRel (g : G) (s : Nat) (els : List (List AV)) (b : Nat) : Prop :=
  els ≠ [] → ∃ xs T, g.w.heap[b]? = some (.cells xs T (0, 0)) ∧ (∀ r ∈ els, r.length = s) ∧
    ∀ (p q : Nat) (r : List AV) (a : AV), els[p]? = some r → r[q]? = some a → p * s + q < xs.size ∧ R g a (xs.getD (p * s + q) undef) ∧ (xs.getD (p * s + q) undef).oneCell' = true

structure Keep0 (g g' : G) : Prop where
  len : g.M.length ≤ g'.M.length
  ptr : ∀ i, i < g.M.length → g'.β i = g.β i
  rooms : ∀ t, t < g.M.length → ∀ e', g'.M[t]? = some (.room e') → ∃ e, g.M[t]? = some (.room e) ∧ e ≤ e' ∧ (e = e' → g'.ρ t = g.ρ t)
  size : g.w.heap.size ≤ g'.w.heap.size
  cells : ∀ a x, g.w.cell? a = some x → ¬ g.reg a → g'.w.cell? a = some x
  regs : ∀ a, a.block < g.w.heap.size → ¬ g.reg a → ¬ g'.reg a
  blocks : ∀ b, b < g.w.heap.size → (∀ off, ¬ g.reg ⟨b, off, none⟩) → g'.w.heap[b]? = g.w.heap[b]?
  io : SameIO g.w g'.w

structure Keep (g g' : G) : Prop extends Keep0 g g' where
  xs : ∀ a, g.X a → g'.X a
  xcell : ∀ a, a.block < g.w.heap.size → g.X a → g'.w.cell? a = g.w.cell? a ∧ g'.w.frozen? a = g.w.frozen? a
  xblk : ∀ b, b < g.w.heap.size → (∀ off, g.X ⟨b, off, none⟩) → g'.w.heap[b]? = g.w.heap[b]?

theorem Keep.refl (g : G) : Keep g g :=
  ⟨⟨Nat.le_refl _, fun _ _ => rfl, fun _ _ e h => ⟨e, h, Nat.le_refl _, fun _ => rfl⟩, Nat.le_refl _, fun _ _ h _ => h, fun _ _ h => h, fun _ _ _ => rfl, ⟨rfl, rfl⟩⟩, fun _ h => h, fun _ _ _ => ⟨rfl, rfl⟩, fun _ _ _ => rfl⟩

theorem cell_lt {w : World} {a : Addr} {x : Value} (h : w.cell? a = some x) : a.block < w.heap.size := by
  unfold World.cell? at h
  rcases Nat.lt_or_ge a.block w.heap.size with h' | h'
  · exact h'
  · simp [Array.getElem?_eq_none h'] at h

theorem Keep.trans {g g' g'' : G} (h : Keep g g') (h' : Keep g' g'') : Keep g g'' where
  len := Nat.le_trans h.len h'.len
  ptr i hi := (h'.ptr i (Nat.lt_of_lt_of_le hi h.len)).trans (h.ptr i hi)
  rooms t ht e'' he'' := by
    obtain ⟨e', h1, h2, h3⟩ := h'.rooms t (Nat.lt_of_lt_of_le ht h.len) e'' he''
    obtain ⟨e, k1, k2, k3⟩ := h.rooms t ht e' h1
    refine ⟨e, k1, Nat.le_trans k2 h2, fun he => ?_⟩
    have : e = e' := by omega
    rw [h3 (by omega), k3 this]
  size := Nat.le_trans h.size h'.size
  cells a x hx hr := h'.cells a x (h.cells a x hx hr) (h.regs a (cell_lt hx) hr)
  regs a ha hr := h'.regs a (Nat.lt_of_lt_of_le ha h.size) (h.regs a ha hr)
  blocks b hb hr := (h'.blocks b (Nat.lt_of_lt_of_le hb h.size) fun off => h.regs _ hb (hr off)).trans (h.blocks b hb hr)
  io := ⟨h'.io.1.trans h.io.1, h'.io.2.trans h.io.2⟩
  xs a ha := h'.xs a (h.xs a ha)
  xcell a ha hx := by
    have h1 := h.xcell a ha hx
    have h2 := h'.xcell a (Nat.lt_of_lt_of_le ha h.size) (h.xs a hx)
    exact ⟨h2.1.trans h1.1, h2.2.trans h1.2⟩
  xblk b hb hx := (h'.xblk b (Nat.lt_of_lt_of_le hb h.size) fun off => h.xs _ (hx off)).trans (h.xblk b hb hx)

theorem TokOk.keep {g g' : G} (k : Keep0 g g') {tok : Tok} {b off n cap s : Nat} (h : TokOk g tok b off n cap s) : TokOk g' tok b off n cap s := by
  cases tok with
  | no => trivial
  | nn => trivial
  | nl => exact h
  | full => exact h
  | own t ep s' =>
    obtain ⟨h0, h1, h2⟩ := h
    refine ⟨h0, Nat.lt_of_lt_of_le h1 k.len, fun e' he' => ?_⟩
    obtain ⟨e, k1, k2, k3⟩ := k.rooms t h1 e' he'
    obtain ⟨j1, j2⟩ := h2 e k1
    refine ⟨by omega, fun he => ?_⟩
    have : e = e' := by omega
    rw [k3 this, j2 (by omega)]

theorem TokNil.keep {g g' : G} (k : Keep0 g g') {tok : Tok} {a : Option Addr} (h : TokNil g tok a) : TokNil g' tok a := by
  cases tok with
  | no => trivial
  | nn => exact h
  | nl => exact h
  | full => trivial
  | own t ep s' =>
    obtain ⟨h1, h2⟩ := h
    refine ⟨Nat.lt_of_lt_of_le h1 k.len, fun e' he' => ?_⟩
    obtain ⟨e, k1, k2, k3⟩ := k.rooms t h1 e' he'
    obtain ⟨j1, j2⟩ := h2 e k1
    refine ⟨by omega, fun he => ?_⟩
    have : e = e' := by omega
    rw [k3 this, j2 (by omega)]

theorem R.keep0 {g g' : G} (k : Keep0 g g') {av : AV} {v : Value} (h : R g av v) : R g' av v := by
  induction h with
  | lit v => exact .lit v
  | ptr i off h =>
    have := k.ptr i h
    rw [← this]; exact .ptr i off (Nat.lt_of_lt_of_le h k.len)
  | cptr cells b off xs h1 h2 _ h4 ih =>
    exact .cptr cells b off xs (fun j hj => k.cells _ _ (h1 j hj) (h2 j hj)) (fun j hj => k.regs _ (cell_lt (h1 j hj)) (h2 j hj)) ih h4
  | nil tok h => exact .nil tok (h.keep k)
  | sl els tok b off s cap xs hs h1 h2 _ h4 ht hc ih =>
    exact .sl els tok b off s cap xs hs (fun i j hi hj => k.cells _ _ (h1 i j hi hj) (h2 i j hi hj))
      (fun i j hi hj => k.regs _ (cell_lt (h1 i j hi hj)) (h2 i j hi hj)) ih h4 (ht.keep k) hc
  | agg cells xs hs _ h4 ih => exact .agg cells xs hs ih h4
  | tup cells xs hs _ ih => exact .tup cells xs hs ih
  | iface t av v _ ih => exact .iface t av v ih
  | it i h =>
    have := k.ptr i h
    rw [← this]; exact .it i (Nat.lt_of_lt_of_le h k.len)
  | mp i h =>
    have := k.ptr i h
    rw [← this]; exact .mp i (Nat.lt_of_lt_of_le h k.len)
  | fn f caps bs us h1 h2 _ ih =>
    exact .fn f caps bs us (fun j hj => k.cells _ _ (h1 j hj) (h2 j hj)) (fun j hj => k.regs _ (cell_lt (h1 j hj)) (h2 j hj)) ih
  | bag els els' v hp _ ih => exact .bag els els' v hp ih
  | clo f caps xs hs _ ih => exact .clo f caps xs hs ih
  | slb i n m h hn =>
    have := k.ptr i h
    rw [← this]; exact .slb i n m (Nat.lt_of_lt_of_le h k.len) hn
  | asl i n s m cap a h hn hc hz ha => exact .asl i n s m cap a (Nat.lt_of_lt_of_le h k.len) hn hc hz fun h0 => by rw [k.ptr i h]; exact ha h0
  | aptr i idx off s h =>
    have := k.ptr i h
    rw [← this]; exact .aptr i idx off s (Nat.lt_of_lt_of_le h k.len)

theorem R.keep {g g' : G} (k : Keep g g') {av : AV} {v : Value} (h : R g av v) : R g' av v := h.keep0 k.toKeep0
theorem MapRel.keep0 {g g' : G} (k : Keep0 g g') {es : List (AV × AV)} {o : Obj} (h : MapRel g es o) : MapRel g' es o := by
  obtain ⟨ents, clock, h1, hs, h2, h3⟩ := h
  exact ⟨ents, clock, h1, hs, h2, fun j hj => ⟨(h3 j hj).1.keep0 k, (h3 j hj).2.keep0 k⟩⟩
theorem MaprRel.keep0 {g g' : G} (k : Keep0 g g') {es : List (AV × AV)} {vis : List Value} {cur : Option Value} {b : Nat} {o oi : Obj} (h : MaprRel g es vis cur b o oi) : MaprRel g' es vis cur b o oi := by
  obtain ⟨ents, clock, seen, h1, h2, h3, h4⟩ := h
  exact ⟨ents, clock, seen, h1, h2, h3.keep0 k, h4⟩
theorem MaprRel.keep {g g' : G} (k : Keep g g') {es : List (AV × AV)} {vis : List Value} {cur : Option Value} {b : Nat} {o oi : Obj} (h : MaprRel g es vis cur b o oi) : MaprRel g' es vis cur b o oi := h.keep0 k.toKeep0
theorem MapRel.keep {g g' : G} (k : Keep g g') {es : List (AV × AV)} {o : Obj} (h : MapRel g es o) : MapRel g' es o := h.keep0 k.toKeep0

theorem HK.of {g g' : G} (k : Keep0 g g') {bs : Nat → Prop} (h1 : ∀ b, bs b → g'.w.heap[b]? = g.w.heap[b]?) (h2 : ∀ a : Addr, bs a.block → g.reg a) (h3 : ∀ a : Addr, bs a.block → g'.reg a)
    (h4 : ∀ a, g'.reg a → a.block < g'.w.heap.size) : HK g.w g.reg g'.w g'.reg bs :=
  ⟨k.size, k.cells, k.regs, k.blocks, k.io, h1, h2, h3, h4⟩
theorem OwnRel.keep0 {g g' : G} (k : Keep0 g g') {P : Own} {cur : Option (Value × Option AV)} {b : Nat} {bs : Nat → Prop} (h : OwnRel g P cur b bs) (hb : g'.w.heap[b]? = g.w.heap[b]?)
    (hk : HK g.w g.reg g'.w g'.reg bs) : OwnRel g' P cur b bs := by
  obtain ⟨ents, clock, h1, h2, h3, h4, h5, h6⟩ := h
  refine ⟨ents, clock, hb.trans h1, h2, h3, h4, P.keep hk h5, fun c v hc => ?_⟩
  have q := h6 c v hc
  cases v with
  | none => exact q
  | some av =>
    obtain ⟨e, q1, q2, q3⟩ := q
    exact ⟨e, q1, q2, q3.keep0 k⟩

theorem ArrRel.keep0 {g g' : G} (k : Keep0 g g') {s : Nat} {els : List (List AV)} {b : Nat} (h : ArrRel g s els b) (hb : els ≠ [] → g'.w.heap[b]? = g.w.heap[b]?) : ArrRel g' s els b := fun hne => by
  obtain ⟨xs, T, h1, h2, h3⟩ := h hne
  exact ⟨xs, T, (hb hne).trans h1, h2, fun p q r a hp hq => ⟨(h3 p q r a hp hq).1, (h3 p q r a hp hq).2.1.keep0 k, (h3 p q r a hp hq).2.2⟩⟩

/-- What is known of the world lies in blocks that nothing covers. -/
def Facts (g : G) : Prop :=
  ∃ B : Nat → Prop, (∀ b, B b → b < g.w.heap.size ∧ ∀ off, ¬ g.reg ⟨b, off, none⟩) ∧ ∀ w' : World, (∀ b, B b → w'.heap[b]? = g.w.heap[b]?) → fctF w'
theorem Facts.here {g : G} (h : Facts g) : fctF g.w := by
  obtain ⟨_, _, h2⟩ := h
  exact h2 _ fun _ _ => rfl
theorem Facts.keep0 {g g' : G} (h : Facts g) (k : Keep0 g g') : Facts g' := by
  obtain ⟨B, h1, h2⟩ := h
  refine ⟨B, fun b hb => ⟨Nat.lt_of_lt_of_le (h1 b hb).1 k.size, fun off => k.regs ⟨b, off, none⟩ (h1 b hb).1 ((h1 b hb).2 off)⟩, fun w' hw => h2 w' fun b hb => ?_⟩
  exact (hw b hb).trans (k.blocks b (h1 b hb).1 (h1 b hb).2)
theorem Facts.keep {g g' : G} (h : Facts g) (k : Keep g g') : Facts g' := h.keep0 k.toKeep0
theorem Facts.less {g g' : G} (hw : g'.w.heap = g.w.heap) (hr : ∀ a, g'.reg a → g.reg a) (h : Facts g) : Facts g' := by
  obtain ⟨B, h1, h2⟩ := h
  refine ⟨B, fun b hb => ⟨by rw [hw]; exact (h1 b hb).1, fun off q => (h1 b hb).2 off (hr _ q)⟩, fun w' hw' => h2 w' fun b hb => ?_⟩
  rw [hw' b hb, hw]

structure Sim (g : G) : Prop where
  fct : Facts g
  blk : ∀ i cells, g.M[i]? = some (.blk cells) → ∃ xs T, g.w.heap[g.β i]? = some (.cells xs T (0, 0)) ∧ xs.size = cells.length ∧
    (∀ j (h : j < cells.length), R g cells[j] (xs.getD j undef)) ∧ ∀ j, j < cells.length → (xs.getD j undef).oneCell' = true
  iter : ∀ i s pos, g.M[i]? = some (.iter s pos) → g.w.heap[g.β i]? = some (.stringIter s pos)
  room : ∀ t e, g.M[t]? = some (.room e) → ∀ k, k < (g.ρ t).cnt → ∃ x, g.w.cell? ⟨(g.ρ t).b, (g.ρ t).off + k, none⟩ = some x ∧ g.w.frozen? ⟨(g.ρ t).b, (g.ρ t).off + k, none⟩ = false
  disj : ∀ (i j : Nat) (oi oj : AObj) (a : Addr), g.M[i]? = some oi → g.M[j]? = some oj → oi.covers (g.β i) (g.ρ i) a → oj.covers (g.β j) (g.ρ j) a → i = j
  inb : ∀ a, g.reg a → a.block < g.w.heap.size
  xdis : ∀ a, g.X a → ¬ g.regM a
  mapo : ∀ i es, g.M[i]? = some (.mapo es) → ∃ o, g.w.heap[g.β i]? = some o ∧ MapRel g es o
  mapr : ∀ i es vis cur t, g.M[i]? = some (.mapr es vis cur t) → t < g.M.length ∧ (g.ρ i).b = g.β t ∧ ∃ o oi, g.w.heap[g.β i]? = some o ∧ g.w.heap[(g.ρ i).b]? = some oi ∧ MaprRel g es vis cur (g.β i) o oi
  opq : ∀ (i : Nat) (φ : Opq), g.M[i]? = some (AObj.opq φ) → φ (g.β i) (g.ρ i).b (g.w.heap[g.β i]?) (g.w.heap[(g.ρ i).b]?)
  own : ∀ i P cur, g.M[i]? = some (.own P cur) → OwnRel g P cur (g.β i) (g.ρ i).bs
  arr : ∀ i s els, g.M[i]? = some (.arr s els) → ArrRel g s els (g.β i)

/-- An object's relation lasts where its blocks do. -/
theorem Sim.ownKeep {g g' : G} (s : Sim g) (k : Keep0 g g') (hin : ∀ a, g'.reg a → a.block < g'.w.heap.size) {i j : Nat} {P : Own} {cur : Option (Value × Option AV)} (hi : g.M[i]? = some (.own P cur)) (hj : g'.M[j]? = some (.own P cur))
    (hβ : g'.β j = g.β i) (hρ : (g'.ρ j).bs = (g.ρ i).bs) (hb : ∀ b, (AObj.own P cur).whole (g.β i) (g.ρ i) b → g'.w.heap[b]? = g.w.heap[b]?) : OwnRel g' P cur (g'.β j) (g'.ρ j).bs := by
  have q := s.own i P cur hi
  rw [hβ, hρ]
  refine q.keep0 k (hb _ (.inl rfl)) (HK.of k (fun b h => hb b (.inr h)) (fun a h => reg_of hi (.inr h)) (fun a h => reg_of hj (.inr (by rw [hρ]; exact h))) hin)

def upd {α : Type} (f : Nat → α) (i : Nat) (x : α) : Nat → α := fun j => if j = i then x else f j
@[simp] theorem upd_same {α : Type} (f : Nat → α) (i : Nat) (x : α) : upd f i x i = x := by simp [upd]
theorem upd_other {α : Type} (f : Nat → α) {i j : Nat} (x : α) (h : j ≠ i) : upd f i x j = f j := by simp [upd, h]

theorem cell_heap {w w' : World} (h : w'.heap = w.heap) (a : Addr) : w'.cell? a = w.cell? a := by simp [World.cell?, h]
theorem frozen_heap {w w' : World} (h : w'.heap = w.heap) (a : Addr) : w'.frozen? a = w.frozen? a := by simp [World.frozen?, h]

theorem heap_push {w w' : World} {o : Obj} (h : w'.heap = w.heap.push o) {b : Nat} (hb : b < w.heap.size) : w'.heap[b]? = w.heap[b]? := by
  rw [h, Array.getElem?_push]; simp; omega
theorem cell_push {w w' : World} {o : Obj} (h : w'.heap = w.heap.push o) {a : Addr} (hb : a.block < w.heap.size) : w'.cell? a = w.cell? a := by
  simp [World.cell?, heap_push h hb]
theorem frozen_push {w w' : World} {o : Obj} (h : w'.heap = w.heap.push o) {a : Addr} (hb : a.block < w.heap.size) : w'.frozen? a = w.frozen? a := by
  simp [World.frozen?, heap_push h hb]
theorem heap_push_new {w w' : World} {o : Obj} (h : w'.heap = w.heap.push o) : w'.heap[w.heap.size]? = some o := by
  rw [h]; simp

/-- The world alone, at the same memory. -/
theorem keep_heap {g : G} {w' : World} (h : w'.heap = g.w.heap) (io : SameIO g.w w' := by exact ⟨rfl, rfl⟩) : Keep g { g with w := w' } where
  len := Nat.le_refl _
  ptr _ _ := rfl
  rooms _ _ e h := ⟨e, h, Nat.le_refl _, fun _ => rfl⟩
  size := by simp [h]
  cells a x hx _ := by rw [← hx]; exact cell_heap h a
  regs _ _ h := h
  blocks b _ _ := by simp [h]
  io := io
  xs _ h := h
  xcell a _ _ := ⟨cell_heap h a, frozen_heap h a⟩
  xblk b _ _ := by simp [h]

theorem sim_heap {g : G} {w' : World} (h : w'.heap = g.w.heap) (s : Sim g) (io : SameIO g.w w' := by exact ⟨rfl, rfl⟩) : Sim { g with w := w' } where
  fct := s.fct.keep (keep_heap h io)
  blk i cells hi := by
    obtain ⟨xs, T, h1, h2, h3, h4⟩ := s.blk i cells hi
    exact ⟨xs, T, by simpa [h] using h1, h2, fun j hj => (h3 j hj).keep (keep_heap h io), h4⟩
  iter i t pos hi := by simpa [h] using s.iter i t pos hi
  room t e ht k hk := by
    obtain ⟨x, h1, h2⟩ := s.room t e ht k hk
    exact ⟨x, (cell_heap h _).trans h1, (frozen_heap h _).trans h2⟩
  disj := s.disj
  inb a ha := by
    have := s.inb a ha
    simpa [h] using this
  xdis := s.xdis
  mapo i es hi := by
    obtain ⟨o, h1, h2⟩ := s.mapo i es hi
    exact ⟨o, by simpa [h] using h1, h2.keep (keep_heap h io)⟩
  opq i φ hi := by simpa [h] using s.opq i φ hi
  own i P cur hi := s.ownKeep (keep_heap h io).toKeep0 (fun a ha => by have := s.inb a ha; simpa [h] using this) hi hi rfl rfl fun b _ => by simp [h]
  arr i z els hi := (s.arr i z els hi).keep0 (keep_heap h io).toKeep0 fun _ => by simp [h]
  mapr i es vis cur t hi := by
    obtain ⟨t1, t2, o, oi, h1, h2, h3⟩ := s.mapr i es vis cur t hi
    exact ⟨t1, t2, o, oi, by simpa [h] using h1, by simpa [h] using h2, h3.keep (keep_heap h io)⟩

/-- A block more, of which the abstract memory does not speak. -/
theorem keep_push {g : G} {w' : World} {o : Obj} (h : w'.heap = g.w.heap.push o) (io : SameIO g.w w' := by exact ⟨rfl, rfl⟩) : Keep g { g with w := w' } where
  len := Nat.le_refl _
  ptr _ _ := rfl
  rooms _ _ e h := ⟨e, h, Nat.le_refl _, fun _ => rfl⟩
  size := by simp [h]
  cells a x hx _ := by rw [← hx]; exact cell_push h (cell_lt hx)
  regs _ _ h := h
  blocks b hb _ := heap_push h hb
  io := io
  xs _ h := h
  xcell a ha _ := ⟨cell_push h ha, frozen_push h ha⟩
  xblk b hb _ := heap_push h hb

theorem blk_lt {g : G} (s : Sim g) {i : Nat} {cells : List AV} (h : g.M[i]? = some (.blk cells)) : g.β i < g.w.heap.size :=
  s.inb ⟨g.β i, 0, none⟩ (reg_of h rfl)
theorem mapo_lt {g : G} (s : Sim g) {i : Nat} {es : List (AV × AV)} (h : g.M[i]? = some (.mapo es)) : g.β i < g.w.heap.size :=
  s.inb ⟨g.β i, 0, none⟩ (reg_of h rfl)
theorem whole_lt {g : G} (s : Sim g) {i b : Nat} {o : AObj} (h : g.M[i]? = some o) (hb : o.whole (g.β i) (g.ρ i) b) : b < g.w.heap.size :=
  s.inb ⟨b, 0, none⟩ (reg_of h hb.covers)
theorem iter_lt {g : G} (s : Sim g) {i : Nat} {t : ByteArray} {pos : Nat} (h : g.M[i]? = some (.iter t pos)) : g.β i < g.w.heap.size :=
  s.inb ⟨g.β i, 0, none⟩ (reg_of h rfl)

theorem sim_push {g : G} {w' : World} {o : Obj} (h : w'.heap = g.w.heap.push o) (s : Sim g) (io : SameIO g.w w' := by exact ⟨rfl, rfl⟩) : Sim { g with w := w' } where
  fct := s.fct.keep (keep_push h io)
  blk i cells hi := by
    obtain ⟨xs, T, h1, h2, h3, h4⟩ := s.blk i cells hi
    exact ⟨xs, T, (heap_push h (blk_lt s hi)).trans h1, h2, fun j hj => (h3 j hj).keep (keep_push h io), h4⟩
  iter i t pos hi := (heap_push h (iter_lt s hi)).trans (s.iter i t pos hi)
  room t e ht k hk := by
    obtain ⟨x, h1, h2⟩ := s.room t e ht k hk
    exact ⟨x, (cell_push h (cell_lt h1)).trans h1, (frozen_push h (cell_lt h1)).trans h2⟩
  disj := s.disj
  inb a ha := by
    have := s.inb a ha
    simp only [h, Array.size_push]; omega
  xdis := s.xdis
  mapo i es hi := by
    obtain ⟨o', h1, h2⟩ := s.mapo i es hi
    exact ⟨o', (heap_push h (mapo_lt s hi)).trans h1, h2.keep (keep_push h io)⟩
  opq i φ hi := by
    have e1 := heap_push h (whole_lt s hi (.inl rfl))
    have e2 := heap_push h (whole_lt s hi (.inr rfl))
    show φ _ _ (w'.heap[g.β i]?) (w'.heap[(g.ρ i).b]?)
    rw [e1, e2]; exact s.opq i φ hi
  own i P cur hi := s.ownKeep (keep_push h io).toKeep0 (fun a ha => by have := s.inb a ha; simp only [h, Array.size_push]; omega) hi hi rfl rfl fun b hb => heap_push h (whole_lt s hi hb)
  arr i z els hi := (s.arr i z els hi).keep0 (keep_push h io).toKeep0 fun hne => heap_push h (whole_lt s hi ⟨hne, rfl⟩)
  mapr i es vis cur t hi := by
    obtain ⟨t1, t2, o', oi, h1, h2, h3⟩ := s.mapr i es vis cur t hi
    exact ⟨t1, t2, o', oi, (heap_push h (whole_lt s hi (.inl rfl))).trans h1, (heap_push h (whole_lt s hi (.inr rfl))).trans h2, h3.keep (keep_push h io)⟩

/-- The state with one object more, in a block of its own. -/
def G.add (g : G) (ao : AObj) (r : Room) (w' : World) : G := ⟨g.M ++ [ao], upd g.β g.M.length g.w.heap.size, upd g.ρ g.M.length r, w', g.X⟩

theorem add_get {M : List AObj} {ao x : AObj} {i : Nat} (h : (M ++ [ao])[i]? = some x) : (i < M.length ∧ M[i]? = some x) ∨ (i = M.length ∧ x = ao) := by
  rcases Nat.lt_trichotomy i M.length with h' | h' | h'
  · left; exact ⟨h', by rwa [List.getElem?_append_left h'] at h⟩
  · right; subst h'; simp at h; exact ⟨rfl, h.symm⟩
  · simp [List.getElem?_append_right (Nat.le_of_lt h')] at h
    rcases hk : i - M.length with _ | k
    · omega
    · simp [hk] at h

theorem add_reg {g : G} {ao : AObj} {r : Room} {w' : World} (hc : ∀ a, ao.covers g.w.heap.size r a → a.block = g.w.heap.size) {a : Addr}
    (ha : (g.add ao r w').reg a) : g.reg a ∨ a.block = g.w.heap.size := by
  rcases ha with ha | ⟨i, o, hi, hcov⟩
  · exact .inl (.inl ha)
  rcases add_get hi with ⟨hlt, hi'⟩ | ⟨rfl, rfl⟩
  · left
    refine reg_of (i := i) hi' ?_
    simpa [G.add, upd_other _ _ (Nat.ne_of_lt hlt)] using hcov
  · right
    exact hc a (by simpa [G.add] using hcov)

theorem keep_add {g : G} {ao : AObj} {r : Room} {w' : World} {o : Obj} (h : w'.heap = g.w.heap.push o)
    (hc : ∀ a, ao.covers g.w.heap.size r a → a.block = g.w.heap.size) (io : SameIO g.w w' := by exact ⟨rfl, rfl⟩) : Keep g (g.add ao r w') where
  len := by simp [G.add]
  ptr i hi := upd_other _ _ (Nat.ne_of_lt hi)
  rooms t ht e' he' := by
    rcases add_get he' with ⟨_, h'⟩ | ⟨h', _⟩
    · exact ⟨e', h', Nat.le_refl _, fun _ => upd_other _ _ (Nat.ne_of_lt ht)⟩
    · omega
  size := by simp [G.add, h]
  cells a x hx _ := by
    have := cell_push h (cell_lt hx)
    exact this.trans hx
  regs a ha hr hr' := by
    rcases add_reg hc hr' with h' | h'
    · exact hr h'
    · omega
  blocks b hb _ := heap_push h hb
  io := io
  xs _ h := h
  xcell a ha _ := ⟨cell_push h ha, frozen_push h ha⟩
  xblk b hb _ := heap_push h hb

theorem sim_add {g : G} {ao : AObj} {r : Room} {w' : World} {o : Obj} (h : w'.heap = g.w.heap.push o)
    (hc : ∀ a, ao.covers g.w.heap.size r a → a.block = g.w.heap.size) (s : Sim g)
    (hblk : ∀ cells, ao = .blk cells → ∃ xs T, o = .cells xs T (0, 0) ∧ xs.size = cells.length ∧ (∀ j (h : j < cells.length), R g cells[j] (xs.getD j undef)) ∧ ∀ j, j < cells.length → (xs.getD j undef).oneCell' = true)
    (hiter : ∀ t pos, ao = .iter t pos → o = .stringIter t pos)
    (hroom : ∀ e, ao = .room e → ∀ k, k < r.cnt → ∃ x, w'.cell? ⟨r.b, r.off + k, none⟩ = some x ∧ w'.frozen? ⟨r.b, r.off + k, none⟩ = false) (io : SameIO g.w w' := by exact ⟨rfl, rfl⟩)
    (hmap : ∀ es, ao = .mapo es → MapRel g es o := by intro _ h; cases h) (hmr : ∀ es vis cur t, ao ≠ .mapr es vis cur t := by intro _ _ _ _ h; cases h)
    (hopq : ∀ φ, ao = .opq φ → φ g.w.heap.size r.b (w'.heap[g.w.heap.size]?) (w'.heap[r.b]?) := by intro _ h; cases h)
    (hown : ∀ P cur, ao ≠ .own P cur := by intro _ _ h; cases h)
    (harr : ∀ z els, ao = .arr z els → ArrRel g z els g.w.heap.size ∨ ∃ xs T, o = .cells xs T (0, 0) ∧ (∀ r ∈ els, r.length = z) ∧
      ∀ (p q : Nat) (r : List AV) (a : AV), els[p]? = some r → r[q]? = some a → p * z + q < xs.size ∧ R g a (xs.getD (p * z + q) undef) ∧ (xs.getD (p * z + q) undef).oneCell' = true := by intro _ _ h; cases h) :
    Sim (g.add ao r w') where
  fct := s.fct.keep (keep_add h hc io)
  blk i cells hi := by
    rcases add_get hi with ⟨hlt, hi'⟩ | ⟨rfl, hx⟩
    · obtain ⟨xs, T, h1, h2, h3, h4⟩ := s.blk i cells hi'
      refine ⟨xs, T, ?_, h2, fun j hj => (h3 j hj).keep (keep_add h hc io), h4⟩
      simp only [G.add, upd_other _ _ (Nat.ne_of_lt hlt)]
      exact (heap_push h (blk_lt s hi')).trans h1
    · obtain ⟨xs, T, h1, h2, h3, h4⟩ := hblk cells hx.symm
      refine ⟨xs, T, ?_, h2, fun j hj => (h3 j hj).keep (keep_add h hc io), h4⟩
      simp only [G.add, upd_same]
      rw [heap_push_new h, h1]
  iter i t pos hi := by
    rcases add_get hi with ⟨hlt, hi'⟩ | ⟨rfl, hx⟩
    · simp only [G.add, upd_other _ _ (Nat.ne_of_lt hlt)]
      exact (heap_push h (iter_lt s hi')).trans (s.iter i t pos hi')
    · simp only [G.add, upd_same]
      rw [heap_push_new h, hiter t pos hx.symm]
  room t e ht k hk := by
    rcases add_get ht with ⟨hlt, hi'⟩ | ⟨rfl, hx⟩
    · simp only [G.add, upd_other _ _ (Nat.ne_of_lt hlt)] at hk ⊢
      obtain ⟨x, h1, h2⟩ := s.room t e hi' k hk
      exact ⟨x, (cell_push h (cell_lt h1)).trans h1, (frozen_push h (cell_lt h1)).trans h2⟩
    · simp only [G.add, upd_same] at hk ⊢
      exact hroom e hx.symm k hk
  disj i j oi oj a hi hj hci hcj := by
    rcases add_get hi with ⟨hlt, hi'⟩ | ⟨rfl, hx⟩ <;> rcases add_get hj with ⟨hlt', hj'⟩ | ⟨rfl, hx'⟩
    · simp only [G.add, upd_other _ _ (Nat.ne_of_lt hlt)] at hci
      simp only [G.add, upd_other _ _ (Nat.ne_of_lt hlt')] at hcj
      exact s.disj i j oi oj a hi' hj' hci hcj
    · simp only [G.add, upd_other _ _ (Nat.ne_of_lt hlt)] at hci
      simp only [G.add, upd_same, hx'] at hcj
      have h1 := s.inb a (reg_of hi' hci)
      have h2 := hc a hcj
      omega
    · simp only [G.add, upd_other _ _ (Nat.ne_of_lt hlt')] at hcj
      simp only [G.add, upd_same, hx] at hci
      have h1 := s.inb a (reg_of hj' hcj)
      have h2 := hc a hci
      omega
    · rfl
  inb a ha := by
    have hsz : (g.add ao r w').w.heap.size = g.w.heap.size + 1 := by simp [G.add, h]
    rcases add_reg hc ha with h' | h'
    · have := s.inb a h'; omega
    · omega
  xdis a ha := by
    rintro ⟨i, o, hi, hcov⟩
    have hlt := s.inb a (.inl ha)
    rcases add_get hi with ⟨hl, hi'⟩ | ⟨rfl, rfl⟩
    · exact s.xdis a ha ⟨i, o, hi', by simpa [G.add, upd_other _ _ (Nat.ne_of_lt hl)] using hcov⟩
    · have := hc a (by simpa [G.add] using hcov)
      omega
  mapo i es hi := by
    rcases add_get hi with ⟨hlt, hi'⟩ | ⟨rfl, hx⟩
    · obtain ⟨o', h1, h2⟩ := s.mapo i es hi'
      exact ⟨o', by simp only [G.add, upd_other _ _ (Nat.ne_of_lt hlt)]; exact (heap_push h (mapo_lt s hi')).trans h1, h2.keep (keep_add h hc io)⟩
    · exact ⟨o, by simp only [G.add, upd_same]; exact heap_push_new h, (hmap es hx.symm).keep (keep_add h hc io)⟩
  opq i φ hi := by
    rcases add_get hi with ⟨hlt, hi'⟩ | ⟨rfl, hx⟩
    · have e1 := heap_push h (whole_lt s hi' (.inl rfl))
      have e2 := heap_push h (whole_lt s hi' (.inr rfl))
      simp only [G.add, upd_other _ _ (Nat.ne_of_lt hlt)]
      rw [e1, e2]; exact s.opq i φ hi'
    · simp only [G.add, upd_same]
      exact hopq φ hx.symm
  own i P cur hi := by
    rcases add_get hi with ⟨hlt, hi'⟩ | ⟨rfl, hx⟩
    · exact s.ownKeep (keep_add h hc io).toKeep0 (fun a ha => by
        have hsz : (g.add ao r w').w.heap.size = g.w.heap.size + 1 := by simp [G.add, h]
        rcases add_reg hc ha with h' | h'
        · have := s.inb a h'; omega
        · omega) hi' hi (upd_other _ _ (Nat.ne_of_lt hlt)) (by simp only [G.add, upd_other _ _ (Nat.ne_of_lt hlt)]) fun b hb => heap_push h (whole_lt s hi' hb)
    · exact absurd hx.symm (hown P cur)
  arr i z els hi := by
    rcases add_get hi with ⟨hlt, hi'⟩ | ⟨rfl, hx⟩
    · have q := (s.arr i z els hi').keep0 (keep_add h hc io).toKeep0 fun hne => heap_push h (whole_lt s hi' ⟨hne, rfl⟩)
      show ArrRel _ z els (upd g.β g.M.length g.w.heap.size i)
      rw [upd_other _ _ (Nat.ne_of_lt hlt)]; exact q
    · show ArrRel _ z els (upd g.β g.M.length g.w.heap.size g.M.length)
      rw [upd_same]
      intro hne
      rcases harr z els hx.symm with h' | ⟨xs, T, h1, h2, h3⟩
      · obtain ⟨xs, T, h1, _⟩ := h' hne
        simp at h1
      · exact ⟨xs, T, by show w'.heap[g.w.heap.size]? = _; rw [heap_push_new h, h1], h2, fun p q r a hp hq => ⟨(h3 p q r a hp hq).1, (h3 p q r a hp hq).2.1.keep (keep_add h hc io), (h3 p q r a hp hq).2.2⟩⟩
  mapr i es vis cur t hi := by
    rcases add_get hi with ⟨hlt, hi'⟩ | ⟨rfl, hx⟩
    · obtain ⟨t1, t2, o', oi, h1, h2, h3⟩ := s.mapr i es vis cur t hi'
      simp only [G.add, upd_other _ _ (Nat.ne_of_lt hlt), upd_other _ _ (Nat.ne_of_lt t1)]
      exact ⟨by simp only [List.length_append]; omega, t2, o', oi, (heap_push h (whole_lt s hi' (.inl rfl))).trans h1, (heap_push h (whole_lt s hi' (.inr rfl))).trans h2, h3.keep (keep_add h hc io)⟩
    · exact absurd hx.symm (hmr es vis cur t)

/-- An object anew in the place of another one: the same place of memory, or less of it. -/
def G.put (g : G) (t : Nat) (ao : AObj) (r : Room) (w' : World) : G := ⟨g.M.set t ao, g.β, upd g.ρ t r, w', g.X⟩

theorem put_get {M : List AObj} {ao x : AObj} {t i : Nat} (h : (M.set t ao)[i]? = some x) : (i ≠ t ∧ M[i]? = some x) ∨ (i = t ∧ x = ao) := by
  by_cases hi : i = t
  · subst hi
    right
    rw [List.getElem?_set_self'] at h
    cases hM : M[i]? <;> simp [hM] at h
    exact ⟨rfl, h.symm⟩
  · left; exact ⟨hi, by rwa [List.getElem?_set_ne (Ne.symm hi)] at h⟩

theorem put_reg {g : G} {t : Nat} {ao : AObj} {r : Room} {w' : World} (hc : ∀ a, ao.covers (g.β t) r a → g.reg a ∨ g.w.heap.size ≤ a.block) {a : Addr}
    (ha : (g.put t ao r w').reg a) : g.reg a ∨ g.w.heap.size ≤ a.block := by
  rcases ha with ha | ⟨i, o, hi, hcov⟩
  · exact .inl (.inl ha)
  rcases put_get hi with ⟨hne, hi'⟩ | ⟨rfl, rfl⟩
  · left
    refine reg_of (i := i) hi' ?_
    simpa [G.put, upd_other _ _ hne] using hcov
  · exact hc a (by simpa [G.put] using hcov)

/-- What the new object covers is the old one's, or new. -/
def Within (g : G) (t : Nat) (ao : AObj) (r : Room) : Prop :=
  ∀ a, ao.covers (g.β t) r a → (∃ o, g.M[t]? = some o ∧ o.covers (g.β t) (g.ρ t) a) ∨ g.w.heap.size ≤ a.block

theorem Within.reg {g : G} {t : Nat} {ao : AObj} {r : Room} (h : Within g t ao r) : ∀ a, ao.covers (g.β t) r a → g.reg a ∨ g.w.heap.size ≤ a.block :=
  fun a ha => (h a ha).imp (fun ⟨_, h1, h2⟩ => reg_of h1 h2) id

theorem keep_put {g : G} {t : Nat} {ao : AObj} {r : Room} {w' : World} (hc : Within g t ao r)
    (hrooms : ∀ e', ao = .room e' → ∃ e, g.M[t]? = some (.room e) ∧ e ≤ e' ∧ (e = e' → r = g.ρ t))
    (hsize : g.w.heap.size ≤ w'.heap.size)
    (hcells : ∀ a x, g.w.cell? a = some x → ¬ g.reg a → w'.cell? a = some x)
    (hblocks : ∀ b, b < g.w.heap.size → (∀ off, ¬ g.reg ⟨b, off, none⟩) → w'.heap[b]? = g.w.heap[b]?) (io : SameIO g.w w')
    (hxc : ∀ a, a.block < g.w.heap.size → g.X a → w'.cell? a = g.w.cell? a ∧ w'.frozen? a = g.w.frozen? a)
    (hxb : ∀ b, b < g.w.heap.size → (∀ off, g.X ⟨b, off, none⟩) → w'.heap[b]? = g.w.heap[b]?) : Keep g (g.put t ao r w') where
  len := by simp [G.put]
  ptr _ _ := rfl
  rooms i hi e' he' := by
    rcases put_get he' with ⟨hne, h'⟩ | ⟨rfl, h'⟩
    · exact ⟨e', h', Nat.le_refl _, fun _ => upd_other _ _ hne⟩
    · obtain ⟨e, h1, h2, h3⟩ := hrooms e' h'.symm
      exact ⟨e, h1, h2, fun he => by simp [G.put, h3 he]⟩
  size := hsize
  cells := hcells
  regs a ha hr hr' := by
    rcases put_reg hc.reg hr' with h' | h'
    · exact hr h'
    · omega
  blocks := hblocks
  io := io
  xs _ h := h
  xcell := hxc
  xblk := hxb

theorem sim_put {g : G} {t : Nat} {ao : AObj} {r : Room} {w' : World} (hc : Within g t ao r) (s : Sim g) (k : Keep g (g.put t ao r w'))
    (hblk : ∀ i o b, i ≠ t → g.M[i]? = some o → o.whole (g.β i) (g.ρ i) b → w'.heap[b]? = g.w.heap[b]?)
    (hroom : ∀ i e, i ≠ t → g.M[i]? = some (.room e) → ∀ k, k < (g.ρ i).cnt → ∃ x, w'.cell? ⟨(g.ρ i).b, (g.ρ i).off + k, none⟩ = some x ∧ w'.frozen? ⟨(g.ρ i).b, (g.ρ i).off + k, none⟩ = false)
    (hin : ∀ a, g.reg a → a.block < w'.heap.size) (hin' : ∀ a, ao.covers (g.β t) r a → a.block < w'.heap.size)
    (nblk : ∀ cells, ao = .blk cells → ∃ xs T, w'.heap[g.β t]? = some (.cells xs T (0, 0)) ∧ xs.size = cells.length ∧ (∀ j (h : j < cells.length), R (g.put t ao r w') cells[j] (xs.getD j undef)) ∧ ∀ j, j < cells.length → (xs.getD j undef).oneCell' = true)
    (niter : ∀ u pos, ao = .iter u pos → w'.heap[g.β t]? = some (.stringIter u pos))
    (nroom : ∀ e, ao = .room e → ∀ k, k < r.cnt → ∃ x, w'.cell? ⟨r.b, r.off + k, none⟩ = some x ∧ w'.frozen? ⟨r.b, r.off + k, none⟩ = false)
    (nmap : ∀ es, ao = .mapo es → ∃ o, w'.heap[g.β t]? = some o ∧ MapRel (g.put t ao r w') es o := by intro _ h; cases h)
    (nmapr : ∀ es vis cur u, ao = .mapr es vis cur u → u < g.M.length ∧ r.b = g.β u ∧ ∃ o oi, w'.heap[g.β t]? = some o ∧ w'.heap[r.b]? = some oi ∧ MaprRel (g.put t ao r w') es vis cur (g.β t) o oi := by intro _ _ _ _ h; cases h)
    (nopq : ∀ φ, ao = .opq φ → φ (g.β t) r.b (w'.heap[g.β t]?) (w'.heap[r.b]?) := by intro _ h; cases h)
    (nown : ∀ P cur, ao = .own P cur → OwnRel (g.put t ao r w') P cur (g.β t) r.bs := by intro _ _ h; cases h)
    (narr : ∀ z els, ao = .arr z els → ArrRel (g.put t ao r w') z els (g.β t) := by intro _ _ h; cases h) :
    Sim (g.put t ao r w') where
  fct := s.fct.keep k
  blk i cells hi := by
    rcases put_get hi with ⟨hne, hi'⟩ | ⟨rfl, hx⟩
    · obtain ⟨xs, T, h1, h2, h3, h4⟩ := s.blk i cells hi'
      exact ⟨xs, T, (hblk i _ _ hne hi' rfl).trans h1, h2, fun j hj => (h3 j hj).keep k, h4⟩
    · exact nblk cells hx.symm
  iter i u pos hi := by
    rcases put_get hi with ⟨hne, hi'⟩ | ⟨rfl, hx⟩
    · exact (hblk i _ _ hne hi' rfl).trans (s.iter i u pos hi')
    · exact niter u pos hx.symm
  room i e hi := by
    rcases put_get hi with ⟨hne, hi'⟩ | ⟨rfl, hx⟩
    · simpa only [G.put, upd_other _ _ hne] using hroom i e hne hi'
    · simpa only [G.put, upd_same] using nroom e hx.symm
  disj i j oi oj a hi hj hci hcj := by
    rcases put_get hi with ⟨hne, hi'⟩ | ⟨rfl, hx⟩ <;> rcases put_get hj with ⟨hne', hj'⟩ | ⟨rfl, hx'⟩
    · simp only [G.put, upd_other _ _ hne] at hci
      simp only [G.put, upd_other _ _ hne'] at hcj
      exact s.disj i j oi oj a hi' hj' hci hcj
    · simp only [G.put, upd_other _ _ hne] at hci
      simp only [G.put, upd_same, hx'] at hcj
      rcases hc a hcj with ⟨o, h1, h2⟩ | h1
      · exact s.disj i j oi o a hi' h1 hci h2
      · have := s.inb a (reg_of hi' hci)
        omega
    · simp only [G.put, upd_other _ _ hne'] at hcj
      simp only [G.put, upd_same, hx] at hci
      rcases hc a hci with ⟨o, h1, h2⟩ | h1
      · exact s.disj i j o oj a h1 hj' h2 hcj
      · have := s.inb a (reg_of hj' hcj)
        omega
    · rfl
  inb a ha := by
    rcases ha with ha | ⟨i, o, hi, hcov⟩
    · exact hin a (.inl ha)
    rcases put_get hi with ⟨hne, hi'⟩ | ⟨rfl, rfl⟩
    · exact hin a (reg_of hi' (by simpa [G.put, upd_other _ _ hne] using hcov))
    · exact hin' a (by simpa [G.put] using hcov)
  xdis a ha := by
    rintro ⟨i, o, hi, hcov⟩
    have hlt := s.inb a (.inl ha)
    rcases put_get hi with ⟨hne, hi'⟩ | ⟨rfl, rfl⟩
    · exact s.xdis a ha ⟨i, o, hi', by simpa [G.put, upd_other _ _ hne] using hcov⟩
    · rcases hc a (by simpa [G.put] using hcov) with ⟨o', h1, h2⟩ | h1
      · exact s.xdis a ha ⟨i, o', h1, h2⟩
      · omega
  mapo i es hi := by
    rcases put_get hi with ⟨hne, hi'⟩ | ⟨rfl, hx⟩
    · obtain ⟨o, h1, h2⟩ := s.mapo i es hi'
      exact ⟨o, (hblk i _ _ hne hi' rfl).trans h1, h2.keep k⟩
    · exact nmap es hx.symm
  opq i φ hi := by
    rcases put_get hi with ⟨hne, hi'⟩ | ⟨rfl, hx⟩
    · have e1 := hblk i _ _ hne hi' (.inl rfl)
      have e2 := hblk i _ _ hne hi' (.inr rfl)
      simp only [G.put, upd_other _ _ hne]
      rw [e1, e2]; exact s.opq i φ hi'
    · simp only [G.put, upd_same]
      exact nopq φ hx.symm
  own i P cur hi := by
    rcases put_get hi with ⟨hne, hi'⟩ | ⟨rfl, hx⟩
    · refine s.ownKeep k.toKeep0 (fun a ha => ?_) hi' hi rfl (by simp only [G.put, upd_other _ _ hne]) fun b hb => hblk i _ b hne hi' hb
      rcases ha with ha | ⟨j, o, hj, hcov⟩
      · exact hin a (.inl ha)
      rcases put_get hj with ⟨hne', hj'⟩ | ⟨rfl, rfl⟩
      · exact hin a (reg_of hj' (by simpa [G.put, upd_other _ _ hne'] using hcov))
      · exact hin' a (by simpa [G.put] using hcov)
    · have q := nown P cur hx.symm
      show OwnRel _ P cur (g.β i) (upd g.ρ i r i).bs
      rw [upd_same]; exact q
  arr i z els hi := by
    rcases put_get hi with ⟨hne, hi'⟩ | ⟨rfl, hx⟩
    · exact (s.arr i z els hi').keep0 k.toKeep0 fun hn => hblk i _ _ hne hi' ⟨hn, rfl⟩
    · exact narr z els hx.symm
  mapr i es vis cur u hi := by
    rcases put_get hi with ⟨hne, hi'⟩ | ⟨rfl, hx⟩
    · obtain ⟨t1, t2, o, oi, h1, h2, h3⟩ := s.mapr i es vis cur u hi'
      simp only [G.put, upd_other _ _ hne]
      exact ⟨by rw [List.length_set]; exact t1, t2, o, oi, (hblk i _ _ hne hi' (.inl rfl)).trans h1, (hblk i _ _ hne hi' (.inr rfl)).trans h2, h3.keep k⟩
    · simp only [G.put, upd_same]
      obtain ⟨t1, t2, h3⟩ := nmapr es vis cur u hx.symm
      exact ⟨by rw [List.length_set]; exact t1, t2, h3⟩

/-! ### A store into one's own block -/
/-- What 'w'' is behind a write into block b: its cells are xs. -/
structure Rowed (w w' : World) (b : Nat) (xs : Array Value) (T : TypeId) : Prop where
  here : w'.heap[b]? = some (.cells xs T (0, 0))
  other : ∀ b', b' ≠ b → w'.heap[b']? = w.heap[b']?
  size : w'.heap.size = w.heap.size
  io : SameIO w w'

theorem Rowed.cell {w w' : World} {b : Nat} {xs : Array Value} {T : TypeId} (h : Rowed w w' b xs T) {p : Addr} (hp : p.block ≠ b) : w'.cell? p = w.cell? p := by
  simp only [World.cell?, h.other _ hp]
theorem Rowed.frozen {w w' : World} {b : Nat} {xs : Array Value} {T : TypeId} (h : Rowed w w' b xs T) {p : Addr} (hp : p.block ≠ b) : w'.frozen? p = w.frozen? p := by
  simp only [World.frozen?, h.other _ hp]

theorem stored_within {g : G} {i : Nat} {cells cells' : List AV} (hi : g.M[i]? = some (.blk cells)) : Within g i (.blk cells') (g.ρ i) :=
  fun _ ha => .inl ⟨_, hi, ha⟩

theorem keep_stored {g : G} {i : Nat} {cells cells' : List AV} {w' : World} {xs : Array Value} {T : TypeId} (s : Sim g) (hi : g.M[i]? = some (.blk cells)) (hw : Rowed g.w w' (g.β i) xs T) :
    Keep g (g.put i (.blk cells') (g.ρ i) w') := by
  have hreg : ∀ a : Addr, a.block = g.β i → g.reg a := fun a ha => reg_of hi ha
  have hxn : ∀ a : Addr, g.X a → a.block ≠ g.β i := fun a ha h => s.xdis a ha ⟨i, _, hi, h⟩
  refine keep_put (stored_within hi) (fun _ h => by cases h) (by rw [hw.size]; exact Nat.le_refl _) (fun a y hy hr => ?_) (fun b _ hr => ?_) hw.io
    (fun a _ ha => ⟨hw.cell (hxn a ha), hw.frozen (hxn a ha)⟩) (fun b _ hb => hw.other _ (hxn ⟨b, 0, none⟩ (hb 0)))
  · rw [hw.cell]; exact hy
    intro h; exact hr (hreg a h)
  · refine hw.other _ fun h => ?_
    exact hr 0 (hreg _ h)

theorem sim_stored {g : G} {i : Nat} {cells cells' : List AV} {w' : World} {xs : Array Value} {T : TypeId} (s : Sim g) (hi : g.M[i]? = some (.blk cells)) (hw : Rowed g.w w' (g.β i) xs T)
    (hl : xs.size = cells'.length) (hx : ∀ j (h : j < cells'.length), R g cells'[j] (xs.getD j undef)) (h1 : ∀ j, j < cells'.length → (xs.getD j undef).oneCell' = true) :
    Sim (g.put i (.blk cells') (g.ρ i) w') := by
  have hne : ∀ j o, j ≠ i → g.M[j]? = some o → (∀ a, o.covers (g.β j) (g.ρ j) a → a.block ≠ g.β i) := fun j o hj ho a ha h =>
    hj (s.disj j i o (.blk cells) a ho hi ha h)
  have k : Keep g (g.put i (.blk cells') (g.ρ i) w') := keep_stored s hi hw
  refine sim_put (stored_within hi) s k (fun j o b hj ho hb => ?_) (fun j e hj ho n hn => ?_) (fun a ha => by rw [hw.size]; exact s.inb a ha)
    (fun a ha => ?_) (fun cs hcs => ?_) (fun _ _ h => by cases h) (fun _ h => by cases h)
  · exact hw.other _ fun h => hne j _ hj ho ⟨b, 0, none⟩ hb.covers h
  · obtain ⟨y, h1, h2⟩ := s.room j e ho n hn
    have hb : (g.ρ j).b ≠ g.β i := hne j _ hj ho ⟨(g.ρ j).b, (g.ρ j).off + n, none⟩ ⟨rfl, by simp, by simpa using hn⟩
    exact ⟨y, (hw.cell hb).trans h1, (hw.frozen hb).trans h2⟩
  · have ha' : a.block = g.β i := ha
    rw [hw.size, ha']; exact blk_lt s hi
  · cases hcs
    exact ⟨_, T, hw.here, hl, fun j hj => (hx j hj).keep k, h1⟩

/-! ### A store into an element -/
theorem arr_lt {g : G} (s : Sim g) {i z : Nat} {els : List (List AV)} (h : g.M[i]? = some (.arr z els)) (hne : els ≠ []) : g.β i < g.w.heap.size :=
  s.inb ⟨g.β i, 0, none⟩ (reg_of h ⟨hne, rfl⟩)
theorem arr_stored {g : G} {i z : Nat} {els els' : List (List AV)} {w' : World} {xs : Array Value} {T : TypeId} (s : Sim g) (hi : g.M[i]? = some (.arr z els)) (hne : els ≠ []) (hw : Rowed g.w w' (g.β i) xs T)
    (hl : ∀ r ∈ els', r.length = z) (hx : ∀ (p q : Nat) (r : List AV) (a : AV), els'[p]? = some r → r[q]? = some a → p * z + q < xs.size ∧ R g a (xs.getD (p * z + q) undef) ∧ (xs.getD (p * z + q) undef).oneCell' = true) :
    Sim (g.put i (.arr z els') (g.ρ i) w') ∧ Keep g (g.put i (.arr z els') (g.ρ i) w') := by
  have hcov : ∀ a : Addr, a.block = g.β i → (AObj.arr z els).covers (g.β i) (g.ρ i) a := fun a ha => ⟨hne, ha⟩
  have hin : Within g i (.arr z els') (g.ρ i) := fun a ha => .inl ⟨_, hi, hcov a ha.2⟩
  have hreg : ∀ a : Addr, a.block = g.β i → g.reg a := fun a ha => reg_of hi (hcov a ha)
  have hxn : ∀ a : Addr, g.X a → a.block ≠ g.β i := fun a ha h => s.xdis a ha ⟨i, _, hi, hcov a h⟩
  have k : Keep g (g.put i (.arr z els') (g.ρ i) w') := by
    refine keep_put hin (fun _ h => by cases h) (by rw [hw.size]; exact Nat.le_refl _) (fun a y hy hr => ?_) (fun b _ hr => ?_) hw.io
      (fun a _ ha => ⟨hw.cell (hxn a ha), hw.frozen (hxn a ha)⟩) (fun b _ hb => hw.other _ (hxn ⟨b, 0, none⟩ (hb 0)))
    · rw [hw.cell]; exact hy
      intro h; exact hr (hreg a h)
    · refine hw.other _ fun h => ?_
      exact hr 0 (hreg _ h)
  have hno : ∀ j o, j ≠ i → g.M[j]? = some o → (∀ a, o.covers (g.β j) (g.ρ j) a → a.block ≠ g.β i) := fun j o hj ho a ha h =>
    hj (s.disj j i o (.arr z els) a ho hi ha (hcov a h))
  refine ⟨?_, k⟩
  refine sim_put hin s k (fun j o b hj ho hb => ?_) (fun j e hj ho n hn => ?_) (fun a ha => by rw [hw.size]; exact s.inb a ha)
    (fun a ha => ?_) (fun cs hcs => by cases hcs) (fun _ _ h => by cases h) (fun _ h => by cases h) (narr := fun z' e' h => ?_)
  · exact hw.other _ fun h => hno j _ hj ho ⟨b, 0, none⟩ hb.covers h
  · obtain ⟨y, h1, h2⟩ := s.room j e ho n hn
    have hb : (g.ρ j).b ≠ g.β i := hno j _ hj ho ⟨(g.ρ j).b, (g.ρ j).off + n, none⟩ ⟨rfl, by simp, by simpa using hn⟩
    exact ⟨y, (hw.cell hb).trans h1, (hw.frozen hb).trans h2⟩
  · rw [hw.size, ha.2]; exact arr_lt s hi hne
  · simp only [AObj.arr.injEq] at h
    obtain ⟨rfl, rfl⟩ := h
    intro _
    exact ⟨xs, T, hw.here, hl, fun p q r a hp hq => ⟨(hx p q r a hp hq).1, (hx p q r a hp hq).2.1.keep k, (hx p q r a hp hq).2.2⟩⟩

/-! ### A token for a slice that has no spare place -/
def G.equip (g : G) (r : Room) (ep : Nat := 0) : G := ⟨g.M ++ [.room ep], g.β, upd g.ρ g.M.length r, g.w, g.X⟩

theorem equip_reg {g : G} {r : Room} {ep : Nat} (hr : r.cnt = 0) {a : Addr} (ha : (g.equip r ep).reg a) : g.reg a := by
  rcases ha with ha | ⟨i, o, hi, hcov⟩
  · exact .inl ha
  rcases add_get hi with ⟨hlt, hi'⟩ | ⟨rfl, rfl⟩
  · exact reg_of hi' (by simpa [G.equip, upd_other _ _ (Nat.ne_of_lt hlt)] using hcov)
  · simp only [G.equip, upd_same, AObj.covers] at hcov
    omega

theorem keep_equip {g : G} {r : Room} {ep : Nat} (hr : r.cnt = 0) : Keep g (g.equip r ep) where
  len := by simp [G.equip]
  ptr i hi := rfl
  rooms t ht e' he' := by
    rcases add_get he' with ⟨_, h'⟩ | ⟨h', _⟩
    · exact ⟨e', h', Nat.le_refl _, fun _ => upd_other _ _ (Nat.ne_of_lt ht)⟩
    · omega
  size := Nat.le_refl _
  cells _ _ hx _ := hx
  regs a _ h h' := h (equip_reg hr h')
  blocks _ _ _ := rfl
  io := ⟨rfl, rfl⟩
  xs _ h := h
  xcell _ _ _ := ⟨rfl, rfl⟩
  xblk _ _ _ := rfl

theorem sim_equip {g : G} {r : Room} {ep : Nat} (hr : r.cnt = 0) (s : Sim g) : Sim (g.equip r ep) where
  fct := s.fct.keep (keep_equip hr)
  blk i cells hi := by
    rcases add_get hi with ⟨hlt, hi'⟩ | ⟨_, hx⟩
    · obtain ⟨xs, T, h1, h2, h3, h4⟩ := s.blk i cells hi'
      exact ⟨xs, T, h1, h2, fun j hj => (h3 j hj).keep (keep_equip hr), h4⟩
    · cases hx
  iter i t pos hi := by
    rcases add_get hi with ⟨hlt, hi'⟩ | ⟨_, hx⟩
    · exact s.iter i t pos hi'
    · cases hx
  room t e ht k hk := by
    rcases add_get ht with ⟨hlt, hi'⟩ | ⟨rfl, _⟩
    · simp only [G.equip, upd_other _ _ (Nat.ne_of_lt hlt)] at hk ⊢
      exact s.room t e hi' k hk
    · simp only [G.equip, upd_same] at hk
      omega
  disj i j oi oj a hi hj hci hcj := by
    rcases add_get hi with ⟨hlt, hi'⟩ | ⟨rfl, hx⟩ <;> rcases add_get hj with ⟨hlt', hj'⟩ | ⟨rfl, hx'⟩
    · simp only [G.equip, upd_other _ _ (Nat.ne_of_lt hlt)] at hci
      simp only [G.equip, upd_other _ _ (Nat.ne_of_lt hlt')] at hcj
      exact s.disj i j oi oj a hi' hj' hci hcj
    · subst hx'; simp only [G.equip, upd_same, AObj.covers] at hcj; omega
    · subst hx; simp only [G.equip, upd_same, AObj.covers] at hci; omega
    · rfl
  inb a ha := s.inb a (equip_reg hr ha)
  xdis a ha := by
    rintro ⟨i, o, hi, hcov⟩
    rcases add_get hi with ⟨hlt, hi'⟩ | ⟨rfl, rfl⟩
    · exact s.xdis a ha ⟨i, o, hi', by simpa [G.equip, upd_other _ _ (Nat.ne_of_lt hlt)] using hcov⟩
    · simp only [G.equip, upd_same, AObj.covers] at hcov
      omega
  mapo i es hi := by
    rcases add_get hi with ⟨hlt, hi'⟩ | ⟨_, hx⟩
    · obtain ⟨o, h1, h2⟩ := s.mapo i es hi'
      exact ⟨o, h1, h2.keep (keep_equip hr)⟩
    · cases hx
  opq i φ hi := by
    rcases add_get hi with ⟨hlt, hi'⟩ | ⟨_, hx⟩
    · simp only [G.equip, upd_other _ _ (Nat.ne_of_lt hlt)]
      exact s.opq i φ hi'
    · cases hx
  own i P cur hi := by
    rcases add_get hi with ⟨hlt, hi'⟩ | ⟨_, hx⟩
    · exact s.ownKeep (keep_equip hr).toKeep0 (fun a ha => s.inb a (equip_reg hr ha)) hi' hi rfl (by simp only [G.equip, upd_other _ _ (Nat.ne_of_lt hlt)]) fun b hb => rfl
    · cases hx
  arr i z els hi := by
    rcases add_get hi with ⟨hlt, hi'⟩ | ⟨_, hx⟩
    · exact (s.arr i z els hi').keep0 (keep_equip hr).toKeep0 fun _ => rfl
    · cases hx
  mapr i es vis cur t hi := by
    rcases add_get hi with ⟨hlt, hi'⟩ | ⟨_, hx⟩
    · obtain ⟨t1, t2, o, oi, h1, h2, h3⟩ := s.mapr i es vis cur t hi'
      simp only [G.equip, upd_other _ _ (Nat.ne_of_lt hlt)]
      exact ⟨by simp only [List.length_append]; omega, t2, o, oi, h1, h2, h3.keep (keep_equip hr)⟩
    · cases hx

/-! ### An append: in place, or into a new block -/
/-- What 'w'' is behind a write of the values 'ys' at block b from 'o' on. -/
structure Wrote (w w' : World) (b o : Nat) (ys : List Value) : Prop where
  here : ∀ j (h : j < ys.length), w'.cell? ⟨b, o + j, none⟩ = some ys[j]
  cells : ∀ a : Addr, ¬ (a.block = b ∧ o ≤ a.off ∧ a.off < o + ys.length) → w'.cell? a = w.cell? a
  frozen : ∀ a : Addr, w'.frozen? a = w.frozen? a
  blocks : ∀ b', b' ≠ b ∨ ys = [] → w'.heap[b']? = w.heap[b']?
  size : w'.heap.size = w.heap.size
  io : SameIO w w'

theorem keep_inplace {g : G} {t ep b o m : Nat} {q : Nat → Prop} {w' : World} {ys : List Value} (s : Sim g) (ht : g.M[t]? = some (.room ep)) (hr : g.ρ t = ⟨b, o, m, q⟩)
    (hl : ys.length ≤ m) (hw : Wrote g.w w' b o ys) : Keep g (g.put t (.room (ep + 1)) ⟨b, o + ys.length, m - ys.length, q⟩ w') := by
  have hreg : ∀ a : Addr, a.block = b → o ≤ a.off → a.off < o + m → g.reg a := fun a h1 h2 h3 => reg_of ht (by rw [hr]; exact ⟨h1, h2, h3⟩)
  have hxn : ∀ a : Addr, g.X a → ¬ (a.block = b ∧ o ≤ a.off ∧ a.off < o + ys.length) := fun a ha ⟨h1, h2, h3⟩ =>
    s.xdis a ha ⟨t, _, ht, by rw [hr]; exact ⟨h1, h2, by simp only; omega⟩⟩
  refine keep_put (fun a ha => .inl ⟨_, ht, ?_⟩) (fun e' he' => ⟨ep, ht, ?_, fun h => ?_⟩) (by rw [hw.size]; exact Nat.le_refl _) (fun a x hx hn => ?_) (fun b' _ hn => ?_) hw.io
    (fun a _ ha => ⟨hw.cells a (hxn a ha), hw.frozen a⟩) (fun b' _ hb => ?_)
  · obtain ⟨h1, h2, h3⟩ := ha
    rw [hr]
    simp only at h1 h2 h3
    exact ⟨h1, by simp only; omega, by simp only; omega⟩
  · cases he'; omega
  · cases he'; omega
  · rw [hw.cells a (fun ⟨h1, h2, h3⟩ => hn (hreg a h1 h2 (by omega)))]; exact hx
  · by_cases hy : ys = []
    · exact hw.blocks b' (.inr hy)
    · refine hw.blocks b' (.inl fun h => ?_)
      have : 0 < ys.length := List.length_pos_iff.2 hy
      exact hn o (hreg ⟨b', o, none⟩ h (Nat.le_refl _) (by simp only; omega))
  · by_cases hy : ys = []
    · exact hw.blocks b' (.inr hy)
    · refine hw.blocks b' (.inl fun h => ?_)
      have : 0 < ys.length := List.length_pos_iff.2 hy
      exact hxn ⟨b', o, none⟩ (hb o) ⟨h, Nat.le_refl _, by simp only; omega⟩

theorem sim_inplace {g : G} {t ep b o m : Nat} {q : Nat → Prop} {w' : World} {ys : List Value} (ht : g.M[t]? = some (.room ep)) (hr : g.ρ t = ⟨b, o, m, q⟩)
    (hl : ys.length ≤ m) (hw : Wrote g.w w' b o ys) (s : Sim g) : Sim (g.put t (.room (ep + 1)) ⟨b, o + ys.length, m - ys.length, q⟩ w') := by
  have k := keep_inplace s ht hr hl hw
  have hne : ∀ i o', i ≠ t → g.M[i]? = some o' → ∀ a : Addr, o'.covers (g.β i) (g.ρ i) a → ¬ (a.block = b ∧ o ≤ a.off ∧ a.off < o + ys.length) := fun i o' hi ho a ha ⟨h1, h2, h3⟩ =>
    hi (s.disj i t o' _ a ho ht ha (by rw [hr]; exact ⟨h1, h2, by simp only; omega⟩))
  refine sim_put (fun a ha => .inl ⟨_, ht, ?_⟩) s k (fun i o' b' hi ho hb' => ?_) (fun i e hi ho n hn => ?_) (fun a ha => by rw [hw.size]; exact s.inb a ha)
    (fun a ha => ?_) (fun _ h => by cases h) (fun _ _ h => by cases h) (fun e he n hn => ?_)
  · obtain ⟨h1, h2, h3⟩ := ha
    rw [hr]
    simp only at h1 h2 h3
    exact ⟨h1, by simp only; omega, by simp only; omega⟩
  · by_cases hy : ys = []
    · exact hw.blocks _ (.inr hy)
    · refine hw.blocks _ (.inl fun h => ?_)
      have h0 : 0 < ys.length := List.length_pos_iff.2 hy
      subst h
      exact hne i o' hi ho _ (hb'.covers o) ⟨rfl, Nat.le_refl _, by simp only; omega⟩
  · obtain ⟨x, h1, h2⟩ := s.room i e ho n hn
    refine ⟨x, ?_, (hw.frozen _).trans h2⟩
    rw [hw.cells _ (hne i _ hi ho ⟨(g.ρ i).b, (g.ρ i).off + n, none⟩ ⟨rfl, by simp, by simpa using hn⟩)]
    exact h1
  · obtain ⟨h1, h2, h3⟩ := ha
    simp only at h1 h2 h3
    rw [hw.size]
    exact s.inb a (reg_of ht (by rw [hr]; exact ⟨h1, by simp only; omega, by simp only; omega⟩))
  · simp only at hn
    obtain ⟨x, h1, h2⟩ := s.room t ep ht (ys.length + n) (by rw [hr]; simp only; omega)
    rw [hr] at h1 h2
    simp only at h1 h2
    refine ⟨x, ?_, ?_⟩
    · rw [hw.cells _ (by simp only; omega)]
      simpa [Nat.add_assoc] using h1
    · rw [hw.frozen]; simpa [Nat.add_assoc] using h2

theorem keep_moved {g : G} {t ep b off m : Nat} {w' : World} {o : Obj} (ht : g.M[t]? = some (.room ep)) (hb : b = g.w.heap.size)
    (h : w'.heap = g.w.heap.push o) (io : SameIO g.w w' := by exact ⟨rfl, rfl⟩) : Keep g (g.put t (.room (ep + 1)) ⟨b, off, m, nobs⟩ w') := by
  refine keep_put (fun a ha => .inr ?_) (fun e' he' => ⟨ep, ht, ?_, fun h => ?_⟩) (by simp [h]) (fun a x hx _ => ?_) (fun b' hb' _ => heap_push h hb') io
    (fun a ha _ => ⟨cell_push h ha, frozen_push h ha⟩) (fun b' hb' _ => heap_push h hb')
  · obtain ⟨h1, _⟩ := ha
    simp only at h1; omega
  · cases he'; omega
  · cases he'; omega
  · exact (cell_push h (cell_lt hx)).trans hx

theorem sim_moved {g : G} {t ep b off m : Nat} {w' : World} {o : Obj} (ht : g.M[t]? = some (.room ep)) (hb : b = g.w.heap.size)
    (h : w'.heap = g.w.heap.push o) (s : Sim g) (hroom : ∀ k, k < m → ∃ x, w'.cell? ⟨b, off + k, none⟩ = some x ∧ w'.frozen? ⟨b, off + k, none⟩ = false) (io : SameIO g.w w' := by exact ⟨rfl, rfl⟩) :
    Sim (g.put t (.room (ep + 1)) ⟨b, off, m, nobs⟩ w') := by
  have hsz : w'.heap.size = g.w.heap.size + 1 := by simp [h]
  refine sim_put (fun a ha => .inr ?_) s (keep_moved ht hb h io) (fun i o' b' hi ho hb' => ?_) (fun i e hi ho n hn => ?_) (fun a ha => ?_)
    (fun a ha => ?_) (fun _ h => by cases h) (fun _ _ h => by cases h) (fun e he n hn => hroom n hn)
  · obtain ⟨h1, _⟩ := ha
    simp only at h1; omega
  · exact heap_push h (whole_lt s ho hb')
  · obtain ⟨x, h1, h2⟩ := s.room i e ho n hn
    exact ⟨x, (cell_push h (cell_lt h1)).trans h1, (frozen_push h (cell_lt h1)).trans h2⟩
  · have := s.inb a ha; omega
  · obtain ⟨h1, _⟩ := ha
    simp only at h1; omega

/-! ### An iterator that goes on -/
theorem keep_iter {g : G} {i : Nat} {s : ByteArray} {pos pos' : Nat} (sm : Sim g) (hi : g.M[i]? = some (.iter s pos)) :
    Keep g (g.put i (.iter s pos') (g.ρ i) { g.w with heap := g.w.heap.setIfInBounds (g.β i) (.stringIter s pos') }) := by
  refine keep_put (fun a ha => .inl ⟨_, hi, ha⟩) (fun _ h => by cases h) (by simp) (fun a x hx hr => ?_) (fun b _ hr => ?_) ⟨rfl, rfl⟩ (fun a _ ha => ?_) (fun b _ hb => ?_)
  · have hb : g.β i ≠ a.block := fun h => hr (reg_of hi h.symm)
    simp only [World.cell?] at hx ⊢
    rw [Array.getElem?_setIfInBounds_ne hb]; exact hx
  · have hb : g.β i ≠ b := fun h => hr 0 (reg_of hi h.symm)
    simp only
    rw [Array.getElem?_setIfInBounds_ne hb]
  · have hb : g.β i ≠ a.block := fun h => sm.xdis a ha ⟨i, _, hi, h.symm⟩
    simp only [World.cell?, World.frozen?]
    rw [Array.getElem?_setIfInBounds_ne hb]
    exact ⟨rfl, rfl⟩
  · have hb' : g.β i ≠ b := fun h => sm.xdis ⟨b, 0, none⟩ (hb 0) ⟨i, _, hi, h.symm⟩
    simp only
    rw [Array.getElem?_setIfInBounds_ne hb']

theorem sim_iter {g : G} {i : Nat} {s : ByteArray} {pos pos' : Nat} (hi : g.M[i]? = some (.iter s pos)) (sm : Sim g) :
    Sim (g.put i (.iter s pos') (g.ρ i) { g.w with heap := g.w.heap.setIfInBounds (g.β i) (.stringIter s pos') }) := by
  have hne : ∀ j o, j ≠ i → g.M[j]? = some o → (∀ a, o.covers (g.β j) (g.ρ j) a → a.block ≠ g.β i) := fun j o hj ho a ha h =>
    hj (sm.disj j i o _ a ho hi ha h)
  refine sim_put (fun a ha => .inl ⟨_, hi, ha⟩) sm (keep_iter sm hi) (fun j o b hj ho hb => ?_) (fun j e hj ho n hn => ?_) (fun a ha => by simpa using sm.inb a ha)
    (fun a ha => ?_) (fun _ h => by cases h) (fun u p h => ?_) (fun _ h => by cases h)
  · simp only
    exact Array.getElem?_setIfInBounds_ne fun h => hne j _ hj ho ⟨b, 0, none⟩ hb.covers h.symm
  · obtain ⟨y, h1, h2⟩ := sm.room j e ho n hn
    have hb : g.β i ≠ (g.ρ j).b := fun h => hne j _ hj ho ⟨(g.ρ j).b, (g.ρ j).off + n, none⟩ ⟨rfl, by simp, by simpa using hn⟩ h.symm
    refine ⟨y, ?_, ?_⟩
    · simp only [World.cell?] at h1 ⊢; rw [Array.getElem?_setIfInBounds_ne hb]; exact h1
    · simp only [World.frozen?] at h2 ⊢; rw [Array.getElem?_setIfInBounds_ne hb]; exact h2
  · have ha' : a.block = g.β i := ha
    simp only [Array.size_setIfInBounds, ha']
    exact iter_lt sm hi
  · cases h
    simp [iter_lt sm hi]

/-! ### A map that turns -/
theorem keep_map {g : G} {i : Nat} {es es' : List (AV × AV)} {o : Obj} (sm : Sim g) (hi : g.M[i]? = some (.mapo es)) :
    Keep g (g.put i (.mapo es') (g.ρ i) { g.w with heap := g.w.heap.setIfInBounds (g.β i) o }) := by
  refine keep_put (fun a ha => .inl ⟨_, hi, ha⟩) (fun _ h => by cases h) (by simp) (fun a x hx hr => ?_) (fun b _ hr => ?_) ⟨rfl, rfl⟩ (fun a _ ha => ?_) (fun b _ hb => ?_)
  · have hb : g.β i ≠ a.block := fun h => hr (reg_of hi h.symm)
    simp only [World.cell?] at hx ⊢
    rw [Array.getElem?_setIfInBounds_ne hb]; exact hx
  · have hb : g.β i ≠ b := fun h => hr 0 (reg_of hi h.symm)
    simp only
    rw [Array.getElem?_setIfInBounds_ne hb]
  · have hb : g.β i ≠ a.block := fun h => sm.xdis a ha ⟨i, _, hi, h.symm⟩
    simp only [World.cell?, World.frozen?]
    rw [Array.getElem?_setIfInBounds_ne hb]
    exact ⟨rfl, rfl⟩
  · have hb' : g.β i ≠ b := fun h => sm.xdis ⟨b, 0, none⟩ (hb 0) ⟨i, _, hi, h.symm⟩
    simp only
    rw [Array.getElem?_setIfInBounds_ne hb']

theorem sim_map {g : G} {i : Nat} {es es' : List (AV × AV)} {o : Obj} (hi : g.M[i]? = some (.mapo es)) (sm : Sim g) (ho : MapRel g es' o) :
    Sim (g.put i (.mapo es') (g.ρ i) { g.w with heap := g.w.heap.setIfInBounds (g.β i) o }) := by
  have hne : ∀ j o, j ≠ i → g.M[j]? = some o → (∀ a, o.covers (g.β j) (g.ρ j) a → a.block ≠ g.β i) := fun j o hj ho a ha h =>
    hj (sm.disj j i o _ a ho hi ha h)
  refine sim_put (fun a ha => .inl ⟨_, hi, ha⟩) sm (keep_map sm hi) (fun j o b hj ho hb => ?_) (fun j e hj ho n hn => ?_) (fun a ha => by simpa using sm.inb a ha)
    (fun a ha => ?_) (fun _ h => by cases h) (fun u p h => by cases h) (fun _ h => by cases h)
    (fun u h => by cases h; exact ⟨o, by simp [mapo_lt sm hi], ho.keep (keep_map sm hi)⟩)
  · simp only
    exact Array.getElem?_setIfInBounds_ne fun h => hne j _ hj ho ⟨b, 0, none⟩ hb.covers h.symm
  · obtain ⟨y, h1, h2⟩ := sm.room j e ho n hn
    have hb : g.β i ≠ (g.ρ j).b := fun h => hne j _ hj ho ⟨(g.ρ j).b, (g.ρ j).off + n, none⟩ ⟨rfl, by simp, by simpa using hn⟩ h.symm
    refine ⟨y, ?_, ?_⟩
    · simp only [World.cell?] at h1 ⊢; rw [Array.getElem?_setIfInBounds_ne hb]; exact h1
    · simp only [World.frozen?] at h2 ⊢; rw [Array.getElem?_setIfInBounds_ne hb]; exact h2
  · have ha' : a.block = g.β i := ha
    simp only [Array.size_setIfInBounds, ha']
    exact mapo_lt sm hi

/-! ### A map that owns what its values point to turns -/
theorem own_lt {g : G} (s : Sim g) {i : Nat} {P : Own} {cur : Option (Value × Option AV)} (h : g.M[i]? = some (.own P cur)) : g.β i < g.w.heap.size :=
  s.inb ⟨g.β i, 0, none⟩ (reg_of h (.inl rfl))
theorem keep_own {g : G} {i : Nat} {P P' : Own} {cur cur' : Option (Value × Option AV)} {o : Obj} (sm : Sim g) (hi : g.M[i]? = some (.own P cur)) :
    Keep g (g.put i (.own P' cur') (g.ρ i) { g.w with heap := g.w.heap.setIfInBounds (g.β i) o }) := by
  refine keep_put (fun a ha => .inl ⟨_, hi, ha⟩) (fun _ h => by cases h) (by simp) (fun a x hx hr => ?_) (fun b _ hr => ?_) ⟨rfl, rfl⟩ (fun a _ ha => ?_) (fun b _ hb => ?_)
  · have hb : g.β i ≠ a.block := fun h => hr (reg_of hi (.inl h.symm))
    simp only [World.cell?] at hx ⊢
    rw [Array.getElem?_setIfInBounds_ne hb]; exact hx
  · have hb : g.β i ≠ b := fun h => hr 0 (reg_of hi (.inl h.symm))
    simp only
    rw [Array.getElem?_setIfInBounds_ne hb]
  · have hb : g.β i ≠ a.block := fun h => sm.xdis a ha ⟨i, _, hi, .inl h.symm⟩
    simp only [World.cell?, World.frozen?]
    rw [Array.getElem?_setIfInBounds_ne hb]
    exact ⟨rfl, rfl⟩
  · have hb' : g.β i ≠ b := fun h => sm.xdis ⟨b, 0, none⟩ (hb 0) ⟨i, _, hi, .inl h.symm⟩
    simp only
    rw [Array.getElem?_setIfInBounds_ne hb']

theorem sim_own {g : G} {i : Nat} {P P' : Own} {cur cur' : Option (Value × Option AV)} {ents ents' : Array MapEntry} {clock' : Nat} (hi : g.M[i]? = some (.own P cur)) (sm : Sim g)
    (hst : MapKept.Stamped ents' clock') (hk : ∀ e ∈ ents'.toList, P'.key e.key) (h5 : P.rel g.w g.reg (g.ρ i).bs (pairsOf ents)) (hrel : ∀ w C bs, P.rel w C bs (pairsOf ents) → P'.rel w C bs (pairsOf ents'))
    (hcur : ∀ k v, cur' = some (k, v) → match v with
      | none => ∀ e ∈ ents'.toList, e.key ≠ k
      | some av => ∃ e ∈ ents'.toList, e.key = k ∧ R g av e.val) :
    Sim (g.put i (.own P' cur') (g.ρ i) { g.w with heap := g.w.heap.setIfInBounds (g.β i) (.map ents' clock') }) := by
  have hne : ∀ j o, j ≠ i → g.M[j]? = some o → (∀ a, o.covers (g.β j) (g.ρ j) a → a.block ≠ g.β i) := fun j o hj ho a ha h =>
    hj (sm.disj j i o _ a ho hi ha (.inl h))
  have k := keep_own (P' := P') (cur' := cur') (o := .map ents' clock') sm hi
  have hbs : ¬ (g.ρ i).bs (g.β i) := by
    obtain ⟨_, _, _, _, _, h, _⟩ := sm.own i P cur hi
    exact h
  have hreg : ∀ a, (g.put i (.own P' cur') (g.ρ i) { g.w with heap := g.w.heap.setIfInBounds (g.β i) (.map ents' clock') }).reg a → g.reg a := by
    rintro a (h | ⟨j, o, hj, hc⟩)
    · exact .inl h
    · rcases put_get hj with ⟨q1, q2⟩ | ⟨rfl, rfl⟩
      · exact reg_of q2 (by simpa [G.put, upd_other _ _ q1] using hc)
      · have hc' : (AObj.own P' cur').covers (g.β j) (g.ρ j) a := by simpa only [G.put, upd_same] using hc
        exact reg_of hi (show (AObj.own P cur).covers (g.β j) (g.ρ j) a from hc')
  have hgi : (g.M.set i (.own P' cur'))[i]? = some (.own P' cur') := by
    have : i < g.M.length := by
      rcases Nat.lt_or_ge i g.M.length with h | h
      · exact h
      · rw [List.getElem?_eq_none h] at hi; cases hi
    simp [this]
  refine sim_put (fun a ha => .inl ⟨_, hi, ha⟩) sm k (fun j o b hj ho hb => ?_) (fun j e hj ho n hn => ?_) (fun a ha => by simpa using sm.inb a ha)
    (fun a ha => ?_) (fun _ h => by cases h) (fun u p h => by cases h) (fun _ h => by cases h) (nown := fun Q cu h => ?_)
  · simp only
    exact Array.getElem?_setIfInBounds_ne fun h => hne j _ hj ho ⟨b, 0, none⟩ hb.covers h.symm
  · obtain ⟨y, h1, h2⟩ := sm.room j e ho n hn
    have hb : g.β i ≠ (g.ρ j).b := fun h => hne j _ hj ho ⟨(g.ρ j).b, (g.ρ j).off + n, none⟩ ⟨rfl, by simp, by simpa using hn⟩ h.symm
    refine ⟨y, ?_, ?_⟩
    · simp only [World.cell?] at h1 ⊢; rw [Array.getElem?_setIfInBounds_ne hb]; exact h1
    · simp only [World.frozen?] at h2 ⊢; rw [Array.getElem?_setIfInBounds_ne hb]; exact h2
  · have := sm.inb a (reg_of hi ha)
    simpa using this
  · simp only [AObj.own.injEq] at h
    obtain ⟨rfl, rfl⟩ := h
    refine ⟨ents', clock', by simp [G.put, own_lt sm hi], hst, hk, hbs, ?_, fun c v hc => ?_⟩
    · refine hrel _ _ _ (P.keep (HK.of k.toKeep0 (fun b hb => ?_) (fun a h => reg_of hi (.inr h)) (fun a h => reg_of (g := g.put i (.own P' cur') (g.ρ i) _) hgi (.inr (by simpa [G.put] using h))) fun a ha => by have := sm.inb a (hreg a ha); show a.block < (g.w.heap.setIfInBounds (g.β i) (.map ents' clock')).size; simpa using this) h5)
      simp only [G.put]
      exact Array.getElem?_setIfInBounds_ne fun (h : g.β i = b) => hbs (by rw [h]; exact hb)
    · have q := hcur c v hc
      cases v with
      | none => exact q
      | some av =>
        obtain ⟨e, q1, q2, q3⟩ := q
        exact ⟨e, q1, q2, q3.keep k⟩

/-! ### A map that is ranged over -/
/-- A mark for a block that nothing covers. -/
def G.hole (g : G) (b : Nat) : G := ⟨g.M ++ [.dead], upd g.β g.M.length b, g.ρ, g.w, g.X⟩

theorem hole_reg {g : G} {b : Nat} {a : Addr} (ha : (g.hole b).reg a) : g.reg a := by
  rcases ha with ha | ⟨i, o, hi, hcov⟩
  · exact .inl ha
  rcases add_get hi with ⟨hlt, hi'⟩ | ⟨rfl, rfl⟩
  · exact reg_of hi' (by simpa [G.hole, upd_other _ _ (Nat.ne_of_lt hlt)] using hcov)
  · exact hcov.elim

theorem keep_hole {g : G} {b : Nat} : Keep g (g.hole b) where
  len := by simp [G.hole]
  ptr i hi := upd_other _ _ (Nat.ne_of_lt hi)
  rooms t ht e' he' := by
    rcases add_get he' with ⟨_, h'⟩ | ⟨h', _⟩
    · exact ⟨e', h', Nat.le_refl _, fun _ => rfl⟩
    · omega
  size := Nat.le_refl _
  cells _ _ hx _ := hx
  regs a _ h h' := h (hole_reg h')
  blocks _ _ _ := rfl
  io := ⟨rfl, rfl⟩
  xs _ h := h
  xcell _ _ _ := ⟨rfl, rfl⟩
  xblk _ _ _ := rfl

theorem sim_hole {g : G} {b : Nat} (s : Sim g) : Sim (g.hole b) where
  fct := s.fct.keep keep_hole
  blk i cells hi := by
    rcases add_get hi with ⟨hlt, hi'⟩ | ⟨_, hx⟩
    · obtain ⟨xs, T, h1, h2, h3, h4⟩ := s.blk i cells hi'
      exact ⟨xs, T, by simpa [G.hole, upd_other _ _ (Nat.ne_of_lt hlt)] using h1, h2, fun j hj => (h3 j hj).keep keep_hole, h4⟩
    · cases hx
  iter i t pos hi := by
    rcases add_get hi with ⟨hlt, hi'⟩ | ⟨_, hx⟩
    · simpa [G.hole, upd_other _ _ (Nat.ne_of_lt hlt)] using s.iter i t pos hi'
    · cases hx
  room t e ht k hk := by
    rcases add_get ht with ⟨hlt, hi'⟩ | ⟨_, hx⟩
    · exact s.room t e hi' k hk
    · cases hx
  disj i j oi oj a hi hj hci hcj := by
    rcases add_get hi with ⟨hlt, hi'⟩ | ⟨rfl, hx⟩ <;> rcases add_get hj with ⟨hlt', hj'⟩ | ⟨rfl, hx'⟩
    · simp only [G.hole, upd_other _ _ (Nat.ne_of_lt hlt)] at hci
      simp only [G.hole, upd_other _ _ (Nat.ne_of_lt hlt')] at hcj
      exact s.disj i j oi oj a hi' hj' hci hcj
    · subst hx'; exact hcj.elim
    · subst hx; exact hci.elim
    · rfl
  inb a ha := s.inb a (hole_reg ha)
  xdis a ha := by
    rintro ⟨i, o, hi, hcov⟩
    rcases add_get hi with ⟨hlt, hi'⟩ | ⟨rfl, rfl⟩
    · exact s.xdis a ha ⟨i, o, hi', by simpa [G.hole, upd_other _ _ (Nat.ne_of_lt hlt)] using hcov⟩
    · exact hcov.elim
  mapo i es hi := by
    rcases add_get hi with ⟨hlt, hi'⟩ | ⟨_, hx⟩
    · obtain ⟨o, h1, h2⟩ := s.mapo i es hi'
      exact ⟨o, by simpa [G.hole, upd_other _ _ (Nat.ne_of_lt hlt)] using h1, h2.keep keep_hole⟩
    · cases hx
  opq i φ hi := by
    rcases add_get hi with ⟨hlt, hi'⟩ | ⟨_, hx⟩
    · simp only [G.hole, upd_other _ _ (Nat.ne_of_lt hlt)]
      exact s.opq i φ hi'
    · cases hx
  own i P cur hi := by
    rcases add_get hi with ⟨hlt, hi'⟩ | ⟨_, hx⟩
    · exact s.ownKeep (keep_hole (g := g) (b := b)).toKeep0 (fun a ha => s.inb a (hole_reg ha)) hi' hi (upd_other _ _ (Nat.ne_of_lt hlt)) rfl fun b hb => rfl
    · cases hx
  arr i z els hi := by
    rcases add_get hi with ⟨hlt, hi'⟩ | ⟨_, hx⟩
    · have q := (s.arr i z els hi').keep0 (keep_hole (g := g) (b := b)).toKeep0 fun _ => rfl
      show ArrRel _ z els (upd g.β g.M.length b i)
      rw [upd_other _ _ (Nat.ne_of_lt hlt)]; exact q
    · cases hx
  mapr i es vis cur t hi := by
    rcases add_get hi with ⟨hlt, hi'⟩ | ⟨_, hx⟩
    · obtain ⟨t1, t2, o, oi, h1, h2, h3⟩ := s.mapr i es vis cur t hi'
      simp only [G.hole, upd_other _ _ (Nat.ne_of_lt hlt), upd_other _ _ (Nat.ne_of_lt t1)]
      exact ⟨by simp only [List.length_append]; omega, t2, o, oi, h1, h2, h3.keep keep_hole⟩
    · cases hx

/-- An array of no elements: it covers nothing. -/
def G.mark (g : G) (z b : Nat) : G := ⟨g.M ++ [.arr z []], upd g.β g.M.length b, g.ρ, g.w, g.X⟩

theorem mark_reg {g : G} {z b : Nat} {a : Addr} (ha : (g.mark z b).reg a) : g.reg a := by
  rcases ha with ha | ⟨i, o, hi, hcov⟩
  · exact .inl ha
  rcases add_get hi with ⟨hlt, hi'⟩ | ⟨rfl, rfl⟩
  · exact reg_of hi' (by simpa [G.mark, upd_other _ _ (Nat.ne_of_lt hlt)] using hcov)
  · exact (hcov.1 rfl).elim

theorem keep_mark {g : G} {z b : Nat} : Keep g (g.mark z b) where
  len := by simp [G.mark]
  ptr i hi := upd_other _ _ (Nat.ne_of_lt hi)
  rooms t ht e' he' := by
    rcases add_get he' with ⟨_, h'⟩ | ⟨h', _⟩
    · exact ⟨e', h', Nat.le_refl _, fun _ => rfl⟩
    · omega
  size := Nat.le_refl _
  cells _ _ hx _ := hx
  regs a _ h h' := h (mark_reg h')
  blocks _ _ _ := rfl
  io := ⟨rfl, rfl⟩
  xs _ h := h
  xcell _ _ _ := ⟨rfl, rfl⟩
  xblk _ _ _ := rfl

theorem sim_mark {g : G} {z b : Nat} (s : Sim g) : Sim (g.mark z b) where
  fct := s.fct.keep keep_mark
  blk i cells hi := by
    rcases add_get hi with ⟨hlt, hi'⟩ | ⟨_, hx⟩
    · obtain ⟨xs, T, h1, h2, h3, h4⟩ := s.blk i cells hi'
      exact ⟨xs, T, by simpa [G.mark, upd_other _ _ (Nat.ne_of_lt hlt)] using h1, h2, fun j hj => (h3 j hj).keep keep_mark, h4⟩
    · cases hx
  iter i t pos hi := by
    rcases add_get hi with ⟨hlt, hi'⟩ | ⟨_, hx⟩
    · simpa [G.mark, upd_other _ _ (Nat.ne_of_lt hlt)] using s.iter i t pos hi'
    · cases hx
  room t e ht k hk := by
    rcases add_get ht with ⟨hlt, hi'⟩ | ⟨_, hx⟩
    · exact s.room t e hi' k hk
    · cases hx
  disj i j oi oj a hi hj hci hcj := by
    rcases add_get hi with ⟨hlt, hi'⟩ | ⟨rfl, hx⟩ <;> rcases add_get hj with ⟨hlt', hj'⟩ | ⟨rfl, hx'⟩
    · simp only [G.mark, upd_other _ _ (Nat.ne_of_lt hlt)] at hci
      simp only [G.mark, upd_other _ _ (Nat.ne_of_lt hlt')] at hcj
      exact s.disj i j oi oj a hi' hj' hci hcj
    · subst hx'; exact (hcj.1 rfl).elim
    · subst hx; exact (hci.1 rfl).elim
    · rfl
  inb a ha := s.inb a (mark_reg ha)
  xdis a ha := by
    rintro ⟨i, o, hi, hcov⟩
    rcases add_get hi with ⟨hlt, hi'⟩ | ⟨rfl, rfl⟩
    · exact s.xdis a ha ⟨i, o, hi', by simpa [G.mark, upd_other _ _ (Nat.ne_of_lt hlt)] using hcov⟩
    · exact (hcov.1 rfl).elim
  mapo i es hi := by
    rcases add_get hi with ⟨hlt, hi'⟩ | ⟨_, hx⟩
    · obtain ⟨o, h1, h2⟩ := s.mapo i es hi'
      exact ⟨o, by simpa [G.mark, upd_other _ _ (Nat.ne_of_lt hlt)] using h1, h2.keep keep_mark⟩
    · cases hx
  opq i φ hi := by
    rcases add_get hi with ⟨hlt, hi'⟩ | ⟨_, hx⟩
    · simp only [G.mark, upd_other _ _ (Nat.ne_of_lt hlt)]
      exact s.opq i φ hi'
    · cases hx
  own i P cur hi := by
    rcases add_get hi with ⟨hlt, hi'⟩ | ⟨_, hx⟩
    · exact s.ownKeep (keep_mark (g := g) (z := z) (b := b)).toKeep0 (fun a ha => s.inb a (mark_reg ha)) hi' hi (upd_other _ _ (Nat.ne_of_lt hlt)) rfl fun b hb => rfl
    · cases hx
  arr i z' els hi := by
    rcases add_get hi with ⟨hlt, hi'⟩ | ⟨_, hx⟩
    · have q := (s.arr i z' els hi').keep0 (keep_mark (g := g) (z := z) (b := b)).toKeep0 fun _ => rfl
      show ArrRel _ z' els (upd g.β g.M.length b i)
      rw [upd_other _ _ (Nat.ne_of_lt hlt)]; exact q
    · cases hx
      exact fun h => absurd rfl h
  mapr i es vis cur t hi := by
    rcases add_get hi with ⟨hlt, hi'⟩ | ⟨_, hx⟩
    · obtain ⟨t1, t2, o, oi, h1, h2, h3⟩ := s.mapr i es vis cur t hi'
      simp only [G.mark, upd_other _ _ (Nat.ne_of_lt hlt), upd_other _ _ (Nat.ne_of_lt t1)]
      exact ⟨by simp only [List.length_append]; omega, t2, o, oi, h1, h2, h3.keep keep_mark⟩
    · cases hx

/-- A map, or one that is ranged over, turns. -/
theorem keep_turn {g : G} {i t : Nat} {o : AObj} {es : List (AV × AV)} {vis : List Value} {cur : Option Value} {r : Room} {w' : World} (sm : Sim g) (hi : g.M[i]? = some o)
    (ho : ∀ a : Addr, o.whole (g.β i) (g.ρ i) a.block → o.covers (g.β i) (g.ρ i) a) (hw : Within g i (.mapr es vis cur t) r)
    (hsz : g.w.heap.size ≤ w'.heap.size) (hother : ∀ b, b < g.w.heap.size → ¬ o.whole (g.β i) (g.ρ i) b → w'.heap[b]? = g.w.heap[b]?) (io : SameIO g.w w') :
    Keep g (g.put i (.mapr es vis cur t) r w') := by
  have hc : ∀ a : Addr, a.block < g.w.heap.size → ¬ o.whole (g.β i) (g.ρ i) a.block → w'.cell? a = g.w.cell? a ∧ w'.frozen? a = g.w.frozen? a := fun a h1 h2 => by
    have := hother _ h1 h2
    exact ⟨by simp only [World.cell?, this], by simp only [World.frozen?, this]⟩
  refine keep_put hw (fun _ h => by cases h) hsz (fun a x hx hr => ?_) (fun b hb hr => hother b hb fun h => hr 0 (reg_of hi h.covers)) io (fun a ha hX => ?_) (fun b hb hX => hother b hb fun h => sm.xdis _ (hX 0) ⟨i, o, hi, h.covers⟩)
  · exact (hc a (cell_lt hx) fun h => hr (reg_of hi (ho a h))).1.trans hx
  · exact hc a ha fun h => sm.xdis a hX ⟨i, o, hi, ho a h⟩

theorem sim_turn {g : G} {i t : Nat} {o : AObj} {es : List (AV × AV)} {vis : List Value} {cur : Option Value} {r : Room} {w' : World} (sm : Sim g) (hi : g.M[i]? = some o)
    (ho : ∀ a : Addr, o.whole (g.β i) (g.ρ i) a.block → o.covers (g.β i) (g.ρ i) a) (hw : Within g i (.mapr es vis cur t) r)
    (hsz : g.w.heap.size ≤ w'.heap.size) (hother : ∀ b, b < g.w.heap.size → ¬ o.whole (g.β i) (g.ρ i) b → w'.heap[b]? = g.w.heap[b]?) (io : SameIO g.w w')
    (hr : r.b < w'.heap.size) (t1 : t < g.M.length) (t2 : r.b = g.β t) {q qi : Obj} (h1 : w'.heap[g.β i]? = some q) (h2 : w'.heap[r.b]? = some qi) (h3 : MaprRel g es vis cur (g.β i) q qi) :
    Sim (g.put i (.mapr es vis cur t) r w') := by
  have k := keep_turn sm hi ho hw hsz hother io
  have hne : ∀ j p, j ≠ i → g.M[j]? = some p → ∀ a : Addr, p.covers (g.β j) (g.ρ j) a → ¬ o.whole (g.β i) (g.ρ i) a.block := fun j p hj hp a ha h =>
    hj (sm.disj j i p o a hp hi ha (ho a h))
  have hq : g.β i < w'.heap.size := by
    rcases Nat.lt_or_ge (g.β i) w'.heap.size with h | h
    · exact h
    · simp [Array.getElem?_eq_none h] at h1
  refine sim_put hw sm k (fun j p b hj hp hb => hother b (whole_lt sm hp hb) (hne j p hj hp ⟨b, 0, none⟩ hb.covers)) (fun j e hj hp n hn => ?_) (fun a ha => Nat.lt_of_lt_of_le (sm.inb a ha) hsz)
    (fun a ha => ?_) (fun _ h => by cases h) (fun _ _ h => by cases h) (fun _ h => by cases h) (fun _ h => by cases h) (fun es' vis' cur' u h => ?_)
  · obtain ⟨y, q1, q2⟩ := sm.room j e hp n hn
    have hcv : (AObj.room e).covers (g.β j) (g.ρ j) ⟨(g.ρ j).b, (g.ρ j).off + n, none⟩ := ⟨rfl, by simp, by simpa using hn⟩
    have hb := hother (g.ρ j).b (cell_lt q1) (hne j _ hj hp _ hcv)
    refine ⟨y, ?_, ?_⟩
    · simpa only [World.cell?, hb] using q1
    · simpa only [World.frozen?, hb] using q2
  · rcases ha with ha | ha
    · rw [ha]; exact hq
    · rw [ha]; exact hr
  · cases h
    exact ⟨t1, t2, q, qi, h1, h2, h3.keep k⟩

/-! ### An abstract memory cut short -/
def Tok.bel (n : Nat) : Tok → Prop
  | .own t _ _ => t < n
  | _ => True

mutual
def AV.bel (n : Nat) : AV → Prop
  | .lit _ => True
  | .ptr i _ => i < n
  | .cptr cs => belL n cs
  | .sl els tok => belLL n els ∧ tok.bel n
  | .agg cs => belL n cs
  | .tup vs => belL n vs
  | .iface _ v => v.bel n
  | .mp i => i < n
  | .it i => i < n
  | .fn _ cs => belL n cs
  | .bag els => belLL n els
  | .clo _ cs => belL n cs
  | .slb i _ => i < n
  | .asl i _ _ => i < n
  | .aptr i _ _ _ => i < n
def belL (n : Nat) : List AV → Prop
  | [] => True
  | a :: l => a.bel n ∧ belL n l
def belLL (n : Nat) : List (List AV) → Prop
  | [] => True
  | a :: l => belL n a ∧ belLL n l
end

theorem belL_iff {n : Nat} : ∀ {l : List AV}, belL n l ↔ ∀ a ∈ l, a.bel n
  | [] => by simp [belL]
  | a :: l => by simp [belL, belL_iff (l := l)]
theorem belLL_iff {n : Nat} : ∀ {l : List (List AV)}, belLL n l ↔ ∀ a ∈ l, belL n a
  | [] => by simp [belLL]
  | a :: l => by simp [belLL, belLL_iff (l := l)]

def AObj.bel (n : Nat) : AObj → Prop
  | .blk cs => belL n cs
  | .mapo es => ∀ e ∈ es, e.1.bel n ∧ e.2.bel n
  | .mapr es _ _ t => (∀ e ∈ es, e.1.bel n ∧ e.2.bel n) ∧ t < n
  | .own _ (some (_, some v)) => v.bel n
  | .arr _ els => belLL n els
  | _ => True

/-- All objects of a memory belong to it. -/
def belM (n : Nat) (M : List AObj) : Prop := ∀ o ∈ M, o.bel n

/-- The state with the first n objects alone. -/
def G.cut (g : G) (n : Nat) : G := { g with M := g.M.take n }

theorem cut_get {M : List AObj} {n i : Nat} {o : AObj} (h : (M.take n)[i]? = some o) : i < n ∧ M[i]? = some o := by
  have hl : i < (M.take n).length := by
    rcases Nat.lt_or_ge i (M.take n).length with h' | h'
    · exact h'
    · simp [List.getElem?_eq_none h'] at h
  have hn : i < n := by simp only [List.length_take] at hl; omega
  rw [List.getElem?_take_of_lt hn] at h
  exact ⟨hn, h⟩

theorem cut_reg {g : G} {n : Nat} {a : Addr} (h : (g.cut n).reg a) : g.reg a := by
  rcases h with h | ⟨i, o, hi, hc⟩
  · exact .inl h
  · exact reg_of (cut_get hi).2 hc

theorem cut_len {g : G} {n : Nat} (hn : n ≤ g.M.length) : (g.cut n).M.length = n := by simp [G.cut]; omega

theorem TokOk.cut {g : G} {n : Nat} (hn : n ≤ g.M.length) {tok : Tok} {b off len cap s : Nat} (h : TokOk g tok b off len cap s) (hb : tok.bel n) : TokOk (g.cut n) tok b off len cap s := by
  cases tok with
  | no => trivial
  | nn => trivial
  | nl => exact h
  | full => exact h
  | own t ep s' => exact ⟨h.1, by rw [cut_len hn]; exact hb, fun e he => h.2.2 e (cut_get he).2⟩
theorem TokNil.cut {g : G} {n : Nat} (hn : n ≤ g.M.length) {tok : Tok} {a : Option Addr} (h : TokNil g tok a) (hb : tok.bel n) : TokNil (g.cut n) tok a := by
  cases tok with
  | no => trivial
  | nn => exact h
  | nl => exact h
  | full => trivial
  | own t ep s' => exact ⟨by rw [cut_len hn]; exact hb, fun e he => h.2 e (cut_get he).2⟩

theorem R.cut {g : G} {n : Nat} (hn : n ≤ g.M.length) {av : AV} {v : Value} (h : R g av v) (hb : av.bel n) : R (g.cut n) av v := by
  induction h with
  | lit v => exact .lit v
  | ptr i off h => exact .ptr i off (by rw [cut_len hn]; exact hb)
  | cptr cells b off xs h1 h2 _ h4 ih =>
    exact .cptr cells b off xs h1 (fun j hj hr => h2 j hj (cut_reg hr)) (fun j hj => ih j hj (belL_iff.1 hb _ (List.getElem_mem hj))) h4
  | nil tok h => exact .nil tok (h.cut hn hb.2)
  | sl els tok b off s cap xs hs h1 h2 _ h4 ht hc ih =>
    exact .sl els tok b off s cap xs hs h1 (fun i j hi hj hr => h2 i j hi hj (cut_reg hr))
      (fun i j hi hj => ih i j hi hj (belL_iff.1 (belLL_iff.1 hb.1 _ (List.getElem_mem hi)) _ (List.getElem_mem hj))) h4 (ht.cut hn hb.2) hc
  | agg cells xs hs _ h4 ih => exact .agg cells xs hs (fun j hj => ih j hj (belL_iff.1 hb _ (List.getElem_mem hj))) h4
  | tup cells xs hs _ ih => exact .tup cells xs hs fun j hj => ih j hj (belL_iff.1 hb _ (List.getElem_mem hj))
  | iface t av v _ ih => exact .iface t av v (ih hb)
  | it i h => exact .it i (by rw [cut_len hn]; exact hb)
  | mp i h => exact .mp i (by rw [cut_len hn]; exact hb)
  | fn f caps bs us h1 h2 _ ih => exact .fn f caps bs us h1 (fun j hj hr => h2 j hj (cut_reg hr)) fun j hj => ih j hj (belL_iff.1 hb _ (List.getElem_mem hj))
  | bag els els' v hp _ ih => exact .bag els els' v hp (ih ⟨belLL_iff.2 fun a ha => belLL_iff.1 hb a (hp.mem_iff.1 ha), trivial⟩)
  | clo f caps xs hs _ ih => exact .clo f caps xs hs fun j hj => ih j hj (belL_iff.1 hb _ (List.getElem_mem hj))
  | slb i m q h hm => exact .slb i m q (by rw [cut_len hn]; exact hb) hm
  | asl i m z q cap a h hm hc hz ha => exact .asl i m z q cap a (by rw [cut_len hn]; exact hb) hm hc hz ha
  | aptr i idx off z h => exact .aptr i idx off z (by rw [cut_len hn]; exact hb)

/-- What reads so speaks of objects that are there. -/
theorem R.bel {g : G} {av : AV} {v : Value} (h : R g av v) : av.bel g.M.length := by
  induction h with
  | lit v => trivial
  | ptr i off h => exact h
  | cptr cells b off xs h1 h2 _ _ ih =>
    refine belL_iff.2 fun a ha => ?_
    obtain ⟨j, hj, rfl⟩ := List.mem_iff_getElem.1 ha
    exact ih j hj
  | nil tok h =>
    refine ⟨trivial, ?_⟩
    cases tok <;> first | trivial | exact h.1
  | sl els tok b off s cap xs hs h1 h2 _ _ ht _ ih =>
    refine ⟨belLL_iff.2 fun l hl => belL_iff.2 fun a ha => ?_, ?_⟩
    · obtain ⟨i, hi, rfl⟩ := List.mem_iff_getElem.1 hl
      obtain ⟨j, hj, rfl⟩ := List.mem_iff_getElem.1 ha
      exact ih i j hi hj
    · cases tok <;> first | trivial | exact ht.2.1
  | agg cells xs hs _ _ ih =>
    refine belL_iff.2 fun a ha => ?_
    obtain ⟨j, hj, rfl⟩ := List.mem_iff_getElem.1 ha
    exact ih j hj
  | tup cells xs hs _ ih =>
    refine belL_iff.2 fun a ha => ?_
    obtain ⟨j, hj, rfl⟩ := List.mem_iff_getElem.1 ha
    exact ih j hj
  | iface t av v _ ih => exact ih
  | it i h => exact h
  | mp i h => exact h
  | fn f caps bs us h1 h2 _ ih =>
    refine belL_iff.2 fun a ha => ?_
    obtain ⟨j, hj, rfl⟩ := List.mem_iff_getElem.1 ha
    exact ih j hj
  | bag els els' v hp _ ih => exact belLL_iff.2 fun a ha => belLL_iff.1 ih.1 a (hp.mem_iff.2 ha)
  | clo f caps xs hs _ ih =>
    refine belL_iff.2 fun a ha => ?_
    obtain ⟨j, hj, rfl⟩ := List.mem_iff_getElem.1 ha
    exact ih j hj
  | slb i m q h _ => exact h
  | asl i m z q cap a h _ _ _ _ => exact h
  | aptr i idx off z h => exact h

theorem Sim.bel {g : G} (s : Sim g) : ∀ o ∈ g.M, o.bel g.M.length := by
  intro o ho
  cases o with
  | blk cells =>
    obtain ⟨i, hi⟩ := List.mem_iff_getElem?.1 ho
    obtain ⟨xs, T, _, _, h3, _⟩ := s.blk i cells hi
    refine belL_iff.2 fun a ha => ?_
    obtain ⟨j, hj, rfl⟩ := List.mem_iff_getElem.1 ha
    exact (h3 j hj).bel
  | room e => trivial
  | iter u p => trivial
  | opq φ => trivial
  | dead => trivial
  | own P cur =>
    obtain ⟨i, hi⟩ := List.mem_iff_getElem?.1 ho
    obtain ⟨ents, clock, _, _, _, _, _, h⟩ := s.own i P cur hi
    match cur, h with
    | none, _ => trivial
    | some (k, none), _ => trivial
    | some (k, some v), h =>
      obtain ⟨e, _, _, h3⟩ := h k (some v) rfl
      exact h3.bel
  | arr z els =>
    obtain ⟨i, hi⟩ := List.mem_iff_getElem?.1 ho
    refine belLL_iff.2 fun r hr => belL_iff.2 fun a ha => ?_
    obtain ⟨p, hp⟩ := List.mem_iff_getElem?.1 hr
    obtain ⟨q, hq⟩ := List.mem_iff_getElem?.1 ha
    obtain ⟨xs, T, _, _, h3⟩ := s.arr i z els hi (by intro h; rw [h] at hr; cases hr)
    exact (h3 p q r a hp hq).2.1.bel
  | mapo es =>
    obtain ⟨i, hi⟩ := List.mem_iff_getElem?.1 ho
    obtain ⟨o, _, ents, clock, _, _, _, h3⟩ := s.mapo i es hi
    intro e he
    obtain ⟨j, hj, rfl⟩ := List.mem_iff_getElem.1 he
    exact ⟨(h3 j hj).1.bel, (h3 j hj).2.bel⟩
  | mapr es vis cur t =>
    obtain ⟨i, hi⟩ := List.mem_iff_getElem?.1 ho
    obtain ⟨t1, _, o, oi, _, _, _, _, _, _, _, ⟨ents, clock, _, _, _, h3⟩, _⟩ := s.mapr i es vis cur t hi
    refine ⟨?_, t1⟩
    intro e he
    obtain ⟨j, hj, rfl⟩ := List.mem_iff_getElem.1 he
    exact ⟨(h3 j hj).1.bel, (h3 j hj).2.bel⟩

theorem Sim.cut {g : G} {n : Nat} (hn : n ≤ g.M.length) (s : Sim g) (hb : ∀ o ∈ g.M.take n, o.bel n) : Sim (g.cut n) where
  fct := Facts.less (g := g) rfl (fun _ h => cut_reg (n := n) h) s.fct
  blk i cells hi := by
    obtain ⟨xs, T, h1, h2, h3, h4⟩ := s.blk i cells (cut_get hi).2
    refine ⟨xs, T, h1, h2, fun j hj => (h3 j hj).cut hn ?_, h4⟩
    exact belL_iff.1 (hb _ (List.mem_of_getElem? hi)) _ (List.getElem_mem hj)
  iter i t pos hi := s.iter i t pos (cut_get hi).2
  room t e ht := s.room t e (cut_get ht).2
  disj i j oi oj a hi hj := s.disj i j oi oj a (cut_get hi).2 (cut_get hj).2
  inb a ha := s.inb a (cut_reg ha)
  xdis a ha := fun ⟨i, o, hi, hc⟩ => s.xdis a ha ⟨i, o, (cut_get hi).2, hc⟩
  mapo i es hi := by
    obtain ⟨o, h1, ents, clock, h2, hst, h3, h4⟩ := s.mapo i es (cut_get hi).2
    have hbe := hb _ (List.mem_of_getElem? hi)
    exact ⟨o, h1, ents, clock, h2, hst, h3, fun j hj => ⟨(h4 j hj).1.cut hn (hbe _ (List.getElem_mem hj)).1, (h4 j hj).2.cut hn (hbe _ (List.getElem_mem hj)).2⟩⟩
  opq i φ hi := s.opq i φ (cut_get hi).2
  own i P cur hi := by
    obtain ⟨ents, clock, h1, h2, h3, h4, h5, h6⟩ := s.own i P cur (cut_get hi).2
    have hbe := hb _ (List.mem_of_getElem? hi)
    refine ⟨ents, clock, h1, h2, h3, h4, P.keep ⟨Nat.le_refl _, fun _ _ h _ => h, fun a _ h h' => h (cut_reg h'), fun _ _ _ => rfl, ⟨rfl, rfl⟩, fun _ _ => rfl, fun a h => reg_of (cut_get hi).2 (.inr h), fun a h => reg_of hi (.inr h), fun a h => s.inb a (cut_reg h)⟩ h5, fun c v hc => ?_⟩
    have q := h6 c v hc
    subst hc
    cases v with
    | none => exact q
    | some av =>
      obtain ⟨e, q1, q2, q3⟩ := q
      exact ⟨e, q1, q2, q3.cut hn hbe⟩
  arr i z els hi := fun hne => by
    obtain ⟨xs, T, h1, h2, h3⟩ := s.arr i z els (cut_get hi).2 hne
    have hbe : belLL n els := hb _ (List.mem_of_getElem? hi)
    refine ⟨xs, T, h1, h2, fun p q r a hp hq => ?_⟩
    obtain ⟨r1, r2, r3⟩ := h3 p q r a hp hq
    exact ⟨r1, r2.cut hn (belL_iff.1 (belLL_iff.1 hbe r (List.mem_of_getElem? hp)) a (List.mem_of_getElem? hq)), r3⟩
  mapr i es vis cur t hi := by
    obtain ⟨t1, t2, o, oi, h1, h1', ents0, clock0, seen, e1, e2, ⟨ents, clock, h2, hst, h3, h4⟩, h5⟩ := s.mapr i es vis cur t (cut_get hi).2
    have hbe := hb _ (List.mem_of_getElem? hi)
    exact ⟨by rw [cut_len hn]; exact hbe.2, t2, o, oi, h1, h1', ents0, clock0, seen, e1, e2, ⟨ents, clock, h2, hst, h3, fun j hj => ⟨(h4 j hj).1.cut hn (hbe.1 _ (List.getElem_mem hj)).1, (h4 j hj).2.cut hn (hbe.1 _ (List.getElem_mem hj)).2⟩⟩, h5⟩

/-! ### A weaker abstract value -/
inductive Weak : AV → AV → Prop
  | refl (a : AV) : Weak a a
  | tok (els : List (List AV)) (tok : Tok) : Weak (.sl els tok) (.sl els .no)
  | nl : Weak (.sl [] .nl) (.sl [] .full)
  | agg (l l' : List AV) (hl : l.length = l'.length) (h : ∀ j (h1 : j < l.length) (h2 : j < l'.length), Weak l[j] l'[j]) : Weak (.agg l) (.agg l')
  | tup (l l' : List AV) (hl : l.length = l'.length) (h : ∀ j (h1 : j < l.length) (h2 : j < l'.length), Weak l[j] l'[j]) : Weak (.tup l) (.tup l')

theorem R.weak {g : G} {a a' : AV} {v : Value} (h : R g a v) (hw : Weak a a') : R g a' v := by
  induction hw generalizing v with
  | refl a => exact h
  | tok els tok =>
    cases h with
    | nil => exact .nil _ trivial
    | sl _ _ b off s cap xs hs h1 h2 h3 h4 ht hc => exact .sl els .no b off s cap xs hs h1 h2 h3 h4 trivial hc
  | nl =>
    cases h with
    | nil => exact .nil _ trivial
    | sl _ _ b off s cap xs hs h1 h2 h3 h4 ht hc => exact ht.elim
  | agg l l' hl _ ih =>
    cases h with
    | agg _ xs hs hx h4 => exact .agg l' xs (by omega) (fun j hj => ih j (by omega) hj (hx j (by omega))) (fun j hj => h4 j (by omega))
  | tup l l' hl _ ih =>
    cases h with
    | tup _ xs hs hx => exact .tup l' xs (by omega) fun j hj => ih j (by omega) hj (hx j (by omega))

/-- What speaks of no object reads so wherever less is covered. -/
theorem R.less {g h : G} (hw : h.w = g.w) (hreg : ∀ a, h.reg a → g.reg a) {av : AV} {v : Value} (q : R g av v) (hb : av.bel 0) : R h av v := by
  induction q with
  | lit v => exact .lit v
  | ptr i off h => exact absurd hb (Nat.not_lt_zero _)
  | cptr cells b off xs h1 h2 _ h4 ih =>
    exact .cptr cells b off xs (fun j hj => by rw [hw]; exact h1 j hj) (fun j hj hr => h2 j hj (hreg _ hr)) (fun j hj => ih j hj (belL_iff.1 hb _ (List.getElem_mem hj))) h4
  | nil tok h =>
    refine .nil tok ?_
    cases tok with
    | own t ep s => exact absurd hb.2 (Nat.not_lt_zero _)
    | nn => exact h
    | nl => exact h
    | _ => trivial
  | sl els tok b off s cap xs hs h1 h2 _ h4 ht hc ih =>
    refine .sl els tok b off s cap xs hs (fun i j hi hj => by rw [hw]; exact h1 i j hi hj) (fun i j hi hj hr => h2 i j hi hj (hreg _ hr))
      (fun i j hi hj => ih i j hi hj (belL_iff.1 (belLL_iff.1 hb.1 _ (List.getElem_mem hi)) _ (List.getElem_mem hj))) h4 ?_ hc
    cases tok with
    | own t ep s => exact absurd hb.2 (Nat.not_lt_zero _)
    | full => exact ht
    | nl => exact ht
    | _ => trivial
  | agg cells xs hs _ h4 ih => exact .agg cells xs hs (fun j hj => ih j hj (belL_iff.1 hb _ (List.getElem_mem hj))) h4
  | tup cells xs hs _ ih => exact .tup cells xs hs fun j hj => ih j hj (belL_iff.1 hb _ (List.getElem_mem hj))
  | iface t av v _ ih => exact .iface t av v (ih hb)
  | it i h => exact absurd hb (Nat.not_lt_zero _)
  | mp i h => exact absurd hb (Nat.not_lt_zero _)
  | fn f caps bs us h1 h2 _ ih => exact .fn f caps bs us (fun j hj => by rw [hw]; exact h1 j hj) (fun j hj hr => h2 j hj (hreg _ hr)) fun j hj => ih j hj (belL_iff.1 hb _ (List.getElem_mem hj))
  | bag els els' v hp _ ih => exact .bag els els' v hp (ih ⟨belLL_iff.2 fun a ha => belLL_iff.1 hb a (hp.mem_iff.1 ha), trivial⟩)
  | clo f caps xs hs _ ih => exact .clo f caps xs hs fun j hj => ih j hj (belL_iff.1 hb _ (List.getElem_mem hj))
  | slb i m q h hm => exact absurd hb (Nat.not_lt_zero _)
  | asl i m z q cap a h hm hc hz ha => exact absurd hb (Nat.not_lt_zero _)
  | aptr i idx off z h => exact absurd hb (Nat.not_lt_zero _)

/-- The same memory in a world in which all that it covers is as it was. -/
theorem sim_same {g : G} {w' : World} (s : Sim g) (k : Keep0 g { g with w := w' }) (hwh : ∀ (i : Nat) (o : AObj) (b : Nat), g.M[i]? = some o → o.whole (g.β i) (g.ρ i) b → w'.heap[b]? = g.w.heap[b]?)
    (hroom : ∀ t e, g.M[t]? = some (.room e) → ∀ n, n < (g.ρ t).cnt → w'.cell? ⟨(g.ρ t).b, (g.ρ t).off + n, none⟩ = g.w.cell? ⟨(g.ρ t).b, (g.ρ t).off + n, none⟩ ∧ w'.frozen? ⟨(g.ρ t).b, (g.ρ t).off + n, none⟩ = g.w.frozen? ⟨(g.ρ t).b, (g.ρ t).off + n, none⟩) :
    Sim { g with w := w' } := by
  have hin : ∀ a, ({ g with w := w' } : G).reg a → a.block < w'.heap.size := fun a ha => Nat.lt_of_lt_of_le (s.inb a ha) k.size
  refine ⟨s.fct.keep0 k, fun i cells hi => ?_, fun i t pos hi => (hwh i _ _ hi rfl).trans (s.iter i t pos hi), fun t e ht n hn => ?_, s.disj, hin, s.xdis, fun i es hi => ?_, fun i es vis cur t hi => ?_, fun i φ hi => ?_, fun i P cur hi => ?_, fun i z els hi => ?_⟩
  · obtain ⟨xs, T, q1, q2, q3, q4⟩ := s.blk i cells hi
    exact ⟨xs, T, (hwh i _ _ hi rfl).trans q1, q2, fun j hj => (q3 j hj).keep0 k, q4⟩
  · obtain ⟨x, q1, q2⟩ := s.room t e ht n hn
    obtain ⟨r1, r2⟩ := hroom t e ht n hn
    exact ⟨x, r1.trans q1, r2.trans q2⟩
  · obtain ⟨o, q1, q2⟩ := s.mapo i es hi
    exact ⟨o, (hwh i _ _ hi rfl).trans q1, q2.keep0 k⟩
  · obtain ⟨t1, t2, o, oi, q1, q2, q3⟩ := s.mapr i es vis cur t hi
    exact ⟨t1, t2, o, oi, (hwh i _ _ hi (.inl rfl)).trans q1, (hwh i _ _ hi (.inr rfl)).trans q2, q3.keep0 k⟩
  · have e1 := hwh i _ _ hi (.inl rfl)
    have e2 := hwh i _ _ hi (.inr rfl)
    show φ _ _ (w'.heap[g.β i]?) (w'.heap[(g.ρ i).b]?)
    rw [e1, e2]; exact s.opq i φ hi
  · exact s.ownKeep k hin hi hi rfl rfl fun b hb => hwh i _ _ hi hb
  · exact (s.arr i z els hi).keep0 k fun hne => hwh i _ _ hi ⟨hne, rfl⟩
end Go.Ab
