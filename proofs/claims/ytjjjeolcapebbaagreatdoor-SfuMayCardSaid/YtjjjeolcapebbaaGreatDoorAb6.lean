/- A contract at a small memory serves at every memory that holds it: the other objects are set aside meanwhile. No condition: over any program. -/
import Derived.Test.YtjjjeolcapebbaaGreatDoorAb5
namespace Go.Ab

def Tok.ren (σ : Nat → Nat) : Tok → Tok
  | .own t ep s => .own (σ t) ep s
  | .no => .no
  | .nn => .nn
  | .nl => .nl
  | .full => .full

mutual
def AV.ren (σ : Nat → Nat) : AV → AV
  | .lit v => .lit v
  | .ptr i off => .ptr (σ i) off
  | .cptr cs => .cptr (renL σ cs)
  | .sl els tok => .sl (renLL σ els) (tok.ren σ)
  | .agg cs => .agg (renL σ cs)
  | .tup vs => .tup (renL σ vs)
  | .iface t v => .iface t (v.ren σ)
  | .mp i => .mp (σ i)
  | .it i => .it (σ i)
  | .fn f cs => .fn f (renL σ cs)
  | .bag els => .bag (renLL σ els)
  | .clo f cs => .clo f (renL σ cs)
  | .slb i n => .slb (σ i) n
  | .asl i n z => .asl (σ i) n z
  | .aptr i a b z => .aptr (σ i) a b z
def renL (σ : Nat → Nat) : List AV → List AV
  | [] => []
  | a :: l => a.ren σ :: renL σ l
def renLL (σ : Nat → Nat) : List (List AV) → List (List AV)
  | [] => []
  | a :: l => renL σ a :: renLL σ l
end

theorem renL_map {σ : Nat → Nat} : ∀ {l : List AV}, renL σ l = l.map (AV.ren σ)
  | [] => rfl
  | a :: l => by simp [renL, renL_map (l := l)]
theorem renLL_map {σ : Nat → Nat} : ∀ {l : List (List AV)}, renLL σ l = l.map (renL σ)
  | [] => rfl
  | a :: l => by simp [renLL, renLL_map (l := l)]

def AObj.ren (σ : Nat → Nat) : AObj → AObj
  | .blk cs => .blk (renL σ cs)
  | .mapo es => .mapo (es.map fun e => (e.1.ren σ, e.2.ren σ))
  | .opq φ => .opq φ
  | .own P cur => .own P (cur.map fun c => (c.1, c.2.map (AV.ren σ)))
  | .arr z els => .arr z (renLL σ els)
  | .mapr es vis cur t => .mapr (es.map fun e => (e.1.ren σ, e.2.ren σ)) vis cur (σ t)
  | .room e => .room e
  | .iter s p => .iter s p
  | .dead => .dead

theorem ren_covers {σ : Nat → Nat} {o : AObj} {b : Nat} {r : Room} {a : Addr} : (o.ren σ).covers b r a ↔ o.covers b r a := by
  cases o <;> first | exact Iff.rfl | simp [AObj.ren, AObj.covers, renLL_map]

/-- From a state g to one, h, in which i is called σ i: what lasts. -/
structure Into (σ : Nat → Nat) (g h : G) : Prop where
  lt : ∀ i, i < g.M.length → σ i < h.M.length
  ptr : ∀ i, i < g.M.length → h.β (σ i) = g.β i
  rooms : ∀ t, t < g.M.length → ∀ e, h.M[σ t]? = some (.room e) → g.M[t]? = some (.room e) ∧ h.ρ (σ t) = g.ρ t
  w : h.w = g.w
  reg : ∀ a, h.reg a → g.reg a

theorem TokOk.into {σ : Nat → Nat} {g h : G} (k : Into σ g h) {tok : Tok} {b off n cap s : Nat} (q : TokOk g tok b off n cap s) : TokOk h (tok.ren σ) b off n cap s := by
  cases tok with
  | no => trivial
  | nn => trivial
  | nl => exact q
  | full => exact q
  | own t ep s' =>
    obtain ⟨h0, h1, h2⟩ := q
    refine ⟨h0, k.lt t h1, fun e he => ?_⟩
    obtain ⟨e1, e2⟩ := k.rooms t h1 e he
    rw [e2]; exact h2 e e1
theorem TokNil.into {σ : Nat → Nat} {g h : G} (k : Into σ g h) {tok : Tok} {a : Option Addr} (q : TokNil g tok a) : TokNil h (tok.ren σ) a := by
  cases tok with
  | no => trivial
  | nn => exact q
  | nl => exact q
  | full => trivial
  | own t ep s' =>
    obtain ⟨h1, h2⟩ := q
    refine ⟨k.lt t h1, fun e he => ?_⟩
    obtain ⟨e1, e2⟩ := k.rooms t h1 e he
    rw [e2]; exact h2 e e1

theorem R.into {σ : Nat → Nat} {g h : G} (k : Into σ g h) {av : AV} {v : Value} (q : R g av v) : R h (av.ren σ) v := by
  induction q with
  | lit v => exact .lit v
  | ptr i off hi =>
    rw [← k.ptr i hi]; exact .ptr (σ i) off (k.lt i hi)
  | cptr cells b off xs h1 h2 _ h4 ih =>
    simp only [AV.ren, renL_map]
    exact .cptr _ b off xs (fun j hj => by rw [k.w]; exact h1 j (by simpa using hj)) (fun j hj hr => h2 j (by simpa using hj) (k.reg _ hr))
      (fun j hj => by simp only [List.getElem_map]; exact ih j (by simpa using hj)) (fun j hj => h4 j (by simpa using hj))
  | nil tok ht => exact .nil _ (ht.into k)
  | sl els tok b off s cap xs hs h1 h2 _ h4 ht hc ih =>
    have hl : (renLL σ els).length = els.length := by simp [renLL_map]
    have hg : ∀ i (hi : i < (renLL σ els).length), (renLL σ els)[i] = renL σ (els[i]'(by omega)) := fun i hi => by simp [renLL_map]
    have q : R h (.sl (renLL σ els) (tok.ren σ)) (.slice (some ⟨b, off, none⟩) (renLL σ els).length cap) := by
      refine .sl _ _ b off s cap xs (fun i hi => ?_) (fun i j hi hj => ?_) (fun i j hi hj hr => h2 i j (by omega) hj (k.reg _ hr)) (fun i j hi hj => ?_) (fun i j hi hj => h4 i j (by omega) hj) ?_ (by omega)
      · rw [hg, renL_map, List.length_map]; exact hs i (by omega)
      · rw [k.w]; exact h1 i j (by omega) hj
      · have e : (renLL σ els)[i][j] = ((els[i]'(by omega))[j]'(by simpa [hg, renL_map] using hj)).ren σ := by simp [hg, renL_map]
        rw [e]; exact ih i j (by omega) _
      · rw [hl]; exact ht.into k
    rw [hl] at q; exact q
  | agg cells xs hs _ h4 ih =>
    simp only [AV.ren, renL_map]
    exact .agg _ xs (by simpa using hs) (fun j hj => by simp only [List.getElem_map]; exact ih j (by simpa using hj)) (fun j hj => h4 j (by simpa using hj))
  | tup cells xs hs _ ih =>
    simp only [AV.ren, renL_map]
    exact .tup _ xs (by simpa using hs) (fun j hj => by simp only [List.getElem_map]; exact ih j (by simpa using hj))
  | iface t av v _ ih => exact .iface t _ v ih
  | it i hi => rw [← k.ptr i hi]; exact .it (σ i) (k.lt i hi)
  | mp i hi => rw [← k.ptr i hi]; exact .mp (σ i) (k.lt i hi)
  | fn f cells bs us h1 h2 _ ih =>
    have hl : (renL σ cells).length = cells.length := by simp [renL_map]
    have q : R h (.fn f (renL σ cells)) (.func (.func f) #[] ((List.range (renL σ cells).length).map fun j => Value.pointer (some ⟨bs j, 0, none⟩)).toArray) :=
      .fn f _ bs us (fun j hj => by rw [k.w]; exact h1 j (by omega)) (fun j hj hr => h2 j (by omega) (k.reg _ hr))
        (fun j hj => by simp only [renL_map, List.getElem_map]; exact ih j (by omega))
    rw [hl] at q; exact q
  | clo f cells xs hs _ ih =>
    simp only [AV.ren, renL_map]
    exact .clo f _ xs (by simpa using hs) (fun j hj => by simp only [List.getElem_map]; exact ih j (by simpa using hj))
  | slb i m q hi hm => rw [← k.ptr i hi]; exact .slb (σ i) m q (k.lt i hi) hm
  | asl i m z q cap a hi hm hc hz ha => exact .asl (σ i) m z q cap a (k.lt i hi) hm hc hz fun h0 => by rw [k.ptr i hi]; exact ha h0
  | aptr i idx off z hi => rw [← k.ptr i hi]; exact .aptr (σ i) idx off z (k.lt i hi)
  | bag els els' v hp _ ih =>
    simp only [AV.ren, Tok.ren] at ih ⊢
    exact .bag _ _ v (by rw [renLL_map, renLL_map]; exact hp.map _) ih

/-- The other way: h is the greater one. -/
structure Back (σ : Nat → Nat) (g h : G) : Prop where
  lt : ∀ i, σ i < h.M.length → i < g.M.length
  ptr : ∀ i, i < g.M.length → h.β (σ i) = g.β i
  rooms : ∀ t, t < g.M.length → ∀ e, g.M[t]? = some (.room e) → h.M[σ t]? = some (.room e) ∧ h.ρ (σ t) = g.ρ t
  w : h.w = g.w
  reg : ∀ a, g.reg a → h.reg a

theorem TokOk.back {σ : Nat → Nat} {g h : G} (k : Back σ g h) {tok : Tok} {b off n cap s : Nat} (q : TokOk h (tok.ren σ) b off n cap s) : TokOk g tok b off n cap s := by
  cases tok with
  | no => trivial
  | nn => trivial
  | nl => exact q
  | full => exact q
  | own t ep s' =>
    obtain ⟨h0, h1, h2⟩ := q
    refine ⟨h0, k.lt t h1, fun e he => ?_⟩
    obtain ⟨e1, e2⟩ := k.rooms t (k.lt t h1) e he
    rw [← e2]; exact h2 e e1
theorem TokNil.back {σ : Nat → Nat} {g h : G} (k : Back σ g h) {tok : Tok} {a : Option Addr} (q : TokNil h (tok.ren σ) a) : TokNil g tok a := by
  cases tok with
  | no => trivial
  | nn => exact q
  | nl => exact q
  | full => trivial
  | own t ep s' =>
    obtain ⟨h1, h2⟩ := q
    refine ⟨k.lt t h1, fun e he => ?_⟩
    obtain ⟨e1, e2⟩ := k.rooms t (k.lt t h1) e he
    rw [← e2]; exact h2 e e1

theorem perm_of_map {α β : Type} (f : α → β) {l : List α} {m : List β} (h : m.Perm (l.map f)) : ∃ l' : List α, l'.Perm l ∧ l'.map f = m := by
  generalize hn : l.map f = n at h
  induction h generalizing l with
  | nil => exact ⟨[], by cases l <;> simp_all, rfl⟩
  | cons x _ ih =>
    cases l with
    | nil => simp at hn
    | cons a l =>
      simp only [List.map_cons, List.cons.injEq] at hn
      obtain ⟨l', q1, q2⟩ := ih hn.2
      exact ⟨a :: l', q1.cons a, by simp [q2, hn.1]⟩
  | swap x y t =>
    cases l with
    | nil => simp at hn
    | cons a l =>
      cases l with
      | nil => simp at hn
      | cons b l =>
        simp only [List.map_cons, List.cons.injEq] at hn
        exact ⟨b :: a :: l, List.Perm.swap _ _ _, by simp [hn.1, hn.2.1, hn.2.2]⟩
  | trans _ _ ih1 ih2 =>
    obtain ⟨l1, q1, q2⟩ := ih2 hn
    obtain ⟨l2, q3, q4⟩ := ih1 q2
    exact ⟨l2, q3.trans q1, q4⟩

theorem R.back {σ : Nat → Nat} {g h : G} (k : Back σ g h) {av' : AV} {v : Value} (q : R h av' v) : ∀ {av : AV}, av.ren σ = av' → R g av v := by
  induction q with
  | lit v =>
    intro av e
    cases av <;> simp only [AV.ren, reduceCtorEq, AV.lit.injEq] at e
    subst e; exact .lit _
  | ptr i off hi =>
    intro av e
    cases av <;> simp only [AV.ren, reduceCtorEq, AV.ptr.injEq] at e
    obtain ⟨rfl, rfl⟩ := e
    rw [k.ptr _ (k.lt _ hi)]; exact .ptr _ _ (k.lt _ hi)
  | cptr cells b off xs h1 h2 _ h4 ih =>
    intro av e
    cases av <;> simp only [AV.ren, reduceCtorEq, AV.cptr.injEq] at e
    rename_i cs
    rw [renL_map] at e
    subst e
    exact .cptr cs b off xs (fun j hj => by rw [← k.w]; exact h1 j (by simpa using hj)) (fun j hj hr => h2 j (by simpa using hj) (k.reg _ hr))
      (fun j hj => ih j (by simpa using hj) (by simp)) (fun j hj => h4 j (by simpa using hj))
  | nil tok ht =>
    intro av e
    cases av <;> simp only [AV.ren, reduceCtorEq, AV.sl.injEq] at e
    rename_i els tok'
    obtain ⟨e1, e2⟩ := e
    subst e2
    have : els = [] := by rw [renLL_map] at e1; simpa using e1
    subst this
    exact .nil _ (ht.back k)
  | sl els' tok b off s cap xs hs h1 h2 _ h4 ht hc ih =>
    intro av e
    cases av <;> simp only [AV.ren, reduceCtorEq, AV.sl.injEq] at e
    rename_i els tok'
    obtain ⟨e1, e2⟩ := e
    subst e2
    subst e1
    have hl : (renLL σ els).length = els.length := by simp [renLL_map]
    have hg : ∀ i (hi : i < els.length), (renLL σ els)[i]'(by omega) = renL σ els[i] := fun i hi => by simp [renLL_map]
    rw [hl]
    refine .sl els tok' b off s cap xs (fun i hi => ?_) (fun i j hi hj => by rw [← k.w]; exact h1 i j (by omega) hj) (fun i j hi hj hr => h2 i j (by omega) hj (k.reg _ hr)) (fun i j hi hj => ?_) (fun i j hi hj => h4 i j (by omega) hj) ?_ (by omega)
    · have := hs i (by omega)
      rw [hg i hi, renL_map, List.length_map] at this; exact this
    · exact ih i j (by omega) (by rw [hg i hi, renL_map, List.length_map]; exact hj) (by simp [hg i hi, renL_map])
    · rw [hl] at ht; exact ht.back k
  | agg cells xs hs _ h4 ih =>
    intro av e
    cases av <;> simp only [AV.ren, reduceCtorEq, AV.agg.injEq] at e
    rename_i cs
    rw [renL_map] at e
    subst e
    exact .agg cs xs (by simpa using hs) (fun j hj => ih j (by simpa using hj) (by simp)) (fun j hj => h4 j (by simpa using hj))
  | tup cells xs hs _ ih =>
    intro av e
    cases av <;> simp only [AV.ren, reduceCtorEq, AV.tup.injEq] at e
    rename_i cs
    rw [renL_map] at e
    subst e
    exact .tup cs xs (by simpa using hs) (fun j hj => ih j (by simpa using hj) (by simp))
  | iface t av v _ ih =>
    intro av' e
    cases av' <;> simp only [AV.ren, reduceCtorEq, AV.iface.injEq] at e
    obtain ⟨rfl, e⟩ := e
    exact .iface _ _ _ (ih e)
  | it i hi =>
    intro av e
    cases av <;> simp only [AV.ren, reduceCtorEq, AV.it.injEq] at e
    subst e
    rw [k.ptr _ (k.lt _ hi)]; exact .it _ (k.lt _ hi)
  | mp i hi =>
    intro av e
    cases av <;> simp only [AV.ren, reduceCtorEq, AV.mp.injEq] at e
    subst e
    rw [k.ptr _ (k.lt _ hi)]; exact .mp _ (k.lt _ hi)
  | fn f cells bs us h1 h2 _ ih =>
    intro av e
    cases av <;> simp only [AV.ren, reduceCtorEq, AV.fn.injEq] at e
    rename_i cs
    obtain ⟨rfl, e⟩ := e
    rw [renL_map] at e
    subst e
    rename_i fi _
    have q : R g (.fn fi cs) (.func (.func fi) #[] ((List.range cs.length).map fun j => Value.pointer (some ⟨bs j, 0, none⟩)).toArray) :=
      .fn fi cs bs us (fun j hj => by rw [← k.w]; exact h1 j (by simpa using hj)) (fun j hj hr => h2 j (by simpa using hj) (k.reg _ hr)) (fun j hj => ih j (by simpa using hj) (by simp))
    rw [List.length_map]; exact q
  | clo f cells xs hs _ ih =>
    intro av e
    cases av <;> simp only [AV.ren, reduceCtorEq, AV.clo.injEq] at e
    rename_i cs
    obtain ⟨rfl, e⟩ := e
    rw [renL_map] at e
    subst e
    exact .clo _ cs xs (by simpa using hs) (fun j hj => ih j (by simpa using hj) (by simp))
  | slb i m q hi hm =>
    intro av e
    cases av <;> simp only [AV.ren, reduceCtorEq, AV.slb.injEq] at e
    obtain ⟨e, rfl⟩ := e
    subst e
    rw [k.ptr _ (k.lt _ hi)]; exact .slb _ _ q (k.lt _ hi) hm
  | asl i m z q cap a hi hm hc hz ha =>
    intro av e
    cases av <;> simp only [AV.ren, reduceCtorEq, AV.asl.injEq] at e
    obtain ⟨e, rfl, rfl⟩ := e
    subst e
    exact .asl _ _ _ q cap a (k.lt _ hi) hm hc hz fun h0 => by rw [← k.ptr _ (k.lt _ hi)]; exact ha h0
  | aptr i idx off z hi =>
    intro av e
    cases av <;> simp only [AV.ren, reduceCtorEq, AV.aptr.injEq] at e
    obtain ⟨e, rfl, rfl, rfl⟩ := e
    subst e
    rw [k.ptr _ (k.lt _ hi)]; exact .aptr _ _ _ _ (k.lt _ hi)
  | bag els els' v hp _ ih =>
    intro av e
    cases av <;> simp only [AV.ren, reduceCtorEq, AV.bag.injEq] at e
    rename_i els0
    rw [renLL_map] at e
    subst e
    obtain ⟨l', q1, q2⟩ := perm_of_map _ hp
    subst q2
    exact .bag els0 l' v q1 (ih (by simp [AV.ren, Tok.ren, renLL_map]))

/-! ### The names of the small memory's objects in the great one -/
/-- Number k of the small memory (of n objects), in one of m. -/
def into (π : List Nat) (n m : Nat) (k : Nat) : Nat := if k < n then π.getD k 0 else m + (k - n)

/-- What the great memory holds behind the call. -/
def putAll (M : List AObj) : List Nat → List AObj → List AObj
  | i :: π, o :: W => putAll (M.set i o) π W
  | _, _ => M

theorem putAll_len : ∀ {π : List Nat} {M W : List AObj}, (putAll M π W).length = M.length
  | [], M, W => by cases W <;> rfl
  | i :: π, M, [] => rfl
  | i :: π, M, o :: W => by simp [putAll, putAll_len (π := π)]

theorem putAll_other : ∀ {π : List Nat} {M W : List AObj} {i : Nat}, i ∉ π → (putAll M π W)[i]? = M[i]?
  | [], M, W, i, _ => by cases W <;> rfl
  | j :: π, M, [], i, _ => rfl
  | j :: π, M, o :: W, i, h => by
    simp only [List.mem_cons, not_or] at h
    rw [putAll, putAll_other h.2, List.getElem?_set_ne (fun e => h.1 e.symm)]

theorem putAll_at : ∀ {π : List Nat} {M W : List AObj} {k i : Nat}, π.Nodup → (∀ i ∈ π, i < M.length) → π[k]? = some i → k < W.length → (putAll M π W)[i]? = W[k]?
  | [], M, W, k, i, _, _, h, _ => by simp at h
  | j :: π, M, [], k, i, _, _, _, h => by simp at h
  | j :: π, M, o :: W, k, i, hn, hl, h, hk => by
    obtain ⟨hn1, hn2⟩ := List.nodup_cons.1 hn
    cases k with
    | zero =>
      simp at h
      subst h
      rw [putAll, putAll_other hn1, List.getElem?_set_self (hl j (by simp))]
      rfl
    | succ k =>
      rw [putAll]
      have := putAll_at (W := W) (M := M.set j o) (k := k) (i := i) hn2 (fun q hq => by simpa using hl q (List.mem_cons_of_mem _ hq)) (by simpa using h) (by simpa using hk)
      simpa using this

/-- A contract at the memory m, read at M, where m's objects are at π. -/
def frameOut (π : List Nat) (m M : List AObj) (out : Out) : Out :=
  { av := out.av.ren (into π m.length M.length),
    M := some (putAll M π (((out.M.getD m).take m.length).map (AObj.ren (into π m.length M.length))) ++ ((out.M.getD m).drop m.length).map (AObj.ren (into π m.length M.length))),
    obl := out.obl }

theorem renL_len {σ : Nat → Nat} {l : List AV} : (renL σ l).length = l.length := by simp [renL_map]

theorem frame_post {m M : List AObj} (π : List Nat) (hn : π.Nodup) (hl : π.length = m.length)
    (hM : ∀ (k i : Nat), π[k]? = some i → M[i]? = (m[k]?).map (AObj.ren (into π m.length M.length))) {g : G} (hgM : g.M = M) (sm : Sim g) :
    ∃ s : G, s.M = m ∧ s.w = g.w ∧ Sim s ∧ ((∀ a, s.X a ↔ g.X a ∨ ∃ (i : Nat) (o : AObj), i ∉ π ∧ g.M[i]? = some o ∧ o.covers (g.β i) (g.ρ i) a) ∧ ∀ k, s.β k = g.β (into π m.length M.length k) ∧ s.ρ k = g.ρ (into π m.length M.length k)) ∧ (∀ {l : List AV} {vs : List Value}, RL g (renL (into π m.length M.length) l) vs → RL s l vs) ∧
      ∀ {out : Out} {v : Value} {w' : World}, Post s out v w' → Post g (frameOut π m M out) v w' := by
  subst hgM
  generalize hσ : into π m.length g.M.length = σ at *
  have hσ1 : ∀ (k i : Nat), π[k]? = some i → σ k = i := fun k i hk => by
    have hlt := lt_of_some hk
    rw [← hσ]; simp only [into, ← hl, hlt, if_true]
    rw [List.getD_eq_getElem?_getD, hk]; rfl
  have hσ2 : ∀ k, m.length ≤ k → σ k = g.M.length + (k - m.length) := fun k hk => by
    rw [← hσ]; simp only [into, show ¬ k < m.length by omega, if_false]
  have hπ : ∀ k, k < m.length → π[k]? = some (σ k) := fun k hk => by
    have hk' : k < π.length := by omega
    have h1 : π[k]? = some π[k] := by simp [hk']
    rw [h1, hσ1 k _ h1]
  have hin : ∀ i ∈ π, i < g.M.length := fun i hi => by
    obtain ⟨k, hk, rfl⟩ := List.mem_iff_getElem.1 hi
    have h1 : π[k]? = some π[k] := by simp [hk]
    have h2 := hM k _ h1
    have h3 : m[k]? = some (m[k]'(by omega)) := by simp [show k < m.length by omega]
    rw [h3] at h2
    exact lt_of_some h2
  have hσl : ∀ k, k < m.length → σ k < g.M.length := fun k hk => hin _ (List.mem_of_getElem? (hπ k hk))
  have hinj : ∀ k k', k < m.length → k' < m.length → σ k = σ k' → k = k' := fun k k' hk hk' he => by
    have h1 := hπ k hk; have h2 := hπ k' hk'
    rw [he] at h1
    exact (List.getElem?_inj (by omega) hn).1 (h1.trans h2.symm)
  have hmk : ∀ k, k < m.length → g.M[σ k]? = (m[k]?).map (AObj.ren σ) := fun k hk => hM k _ (hπ k hk)
  -- the small state
  let X' : Addr → Prop := fun a => g.X a ∨ ∃ (i : Nat) (o : AObj), i ∉ π ∧ g.M[i]? = some o ∧ o.covers (g.β i) (g.ρ i) a
  let s : G := ⟨m, fun k => g.β (σ k), fun k => g.ρ (σ k), g.w, X'⟩
  have hget : ∀ {k : Nat} {o : AObj}, m[k]? = some o → g.M[σ k]? = some (o.ren σ) := fun {k o} hk => by
    rw [hmk k (lt_of_some hk), hk]; rfl
  have hreg1 : ∀ a, s.reg a → g.reg a := by
    rintro a ((h | ⟨i, o, _, h1, h2⟩) | ⟨k, o, hk, hc⟩)
    · exact .inl h
    · exact reg_of h1 h2
    · exact reg_of (hget hk) (ren_covers.2 hc)
  have hcase : ∀ i, i ∈ π → ∃ k, k < m.length ∧ σ k = i := fun i hi => by
    obtain ⟨k, hk, rfl⟩ := List.mem_iff_getElem.1 hi
    exact ⟨k, by omega, hσ1 k _ (by simp [hk])⟩
  have hreg2 : ∀ a, g.reg a → s.reg a := by
    rintro a (h | ⟨i, o, hi, hc⟩)
    · exact .inl (.inl h)
    · by_cases hp : i ∈ π
      · obtain ⟨k, hk, rfl⟩ := hcase i hp
        have h3 : m[k]? = some m[k] := by simp [hk]
        have h4 := hget h3
        rw [hi] at h4; cases h4
        exact .inr ⟨k, m[k], h3, ren_covers.1 hc⟩
      · exact .inl (.inr ⟨i, o, hp, hi, hc⟩)
  have hback : Back σ s g := by
    refine ⟨fun i hi => ?_, fun i _ => rfl, fun t ht e he => ⟨by have := hget he; exact this, rfl⟩, rfl, hreg1⟩
    rcases Nat.lt_or_ge i m.length with h | h
    · exact h
    · rw [hσ2 i h] at hi; omega
  have ss : Sim s := by
    refine ⟨Facts.less (g := g) rfl hreg1 sm.fct, fun k cells hk => ?_, fun k u pos hk => ?_, fun t e ht => ?_, fun i j oi oj a hi hj hci hcj => ?_, fun a ha => sm.inb a (hreg1 a ha), fun a ha => ?_, fun k es hk => ?_, fun k es vis cur t hk => ?_, fun k φ hk => sm.opq _ φ (hget hk), fun k P cur hk => ?_, fun k z els hk => ?_⟩
    · obtain ⟨xs, T, h1, h2, h3, h4⟩ := sm.blk _ _ (hget hk)
      rw [renL_len] at h2
      refine ⟨xs, T, h1, h2, fun j hj => (h3 j (by rw [renL_len]; exact hj)).back hback (by simp [renL_map]), fun j hj => h4 j (by rw [renL_len]; exact hj)⟩
    · exact sm.iter _ _ _ (hget hk)
    · exact sm.room _ e (hget ht)
    · have := sm.disj (σ i) (σ j) _ _ a (hget hi) (hget hj) (ren_covers.2 hci) (ren_covers.2 hcj)
      exact hinj i j (lt_of_some hi) (lt_of_some hj) this
    · rintro ⟨k, o, hk, hc⟩
      rcases ha with ha | ⟨i, oi, hip, hi, hci⟩
      · exact sm.xdis a ha ⟨_, _, hget hk, ren_covers.2 hc⟩
      · have := sm.disj i (σ k) _ _ a hi (hget hk) hci (ren_covers.2 hc)
        exact hip (this ▸ List.mem_of_getElem? (hπ k (lt_of_some hk)))
    · obtain ⟨o, h1, ents, clock, h2, hst, h3, h4⟩ := sm.mapo _ _ (hget hk)
      simp only [List.length_map] at h3
      refine ⟨o, h1, ents, clock, h2, hst, h3, fun j hj => ?_⟩
      have := h4 j (by simpa using hj)
      simp only [List.getElem_map] at this
      exact ⟨this.1.back hback rfl, this.2.back hback rfl⟩
    · obtain ⟨t1, t2, o, oi, h1, h1', ents0, clock0, seen, e1, e2, ⟨ents, clock, h2, hst, h3, h4⟩, h5⟩ := sm.mapr _ _ _ _ _ (hget hk)
      simp only [List.length_map] at h3
      refine ⟨hback.lt t t1, t2, o, oi, h1, h1', ents0, clock0, seen, e1, e2, ⟨ents, clock, h2, hst, h3, fun j hj => ?_⟩, h5⟩
      have := h4 j (by simpa using hj)
      simp only [List.getElem_map] at this
      exact ⟨this.1.back hback rfl, this.2.back hback rfl⟩
    · obtain ⟨ents, clock, h1, h2, h3, h4, h5, h6⟩ := sm.own _ _ _ (hget hk)
      refine ⟨ents, clock, h1, h2, h3, h4, P.keep ⟨Nat.le_refl _, fun _ _ h _ => h, fun a _ h h' => h (hreg1 a h'), fun _ _ _ => rfl, ⟨rfl, rfl⟩, fun _ _ => rfl, fun a h => reg_of (hget hk) (.inr h), fun a h => reg_of hk (.inr h), fun a h => sm.inb a (hreg1 a h)⟩ h5, fun c v hc => ?_⟩
      subst hc
      have q := h6 c (v.map (AV.ren σ)) rfl
      cases v with
      | none => exact q
      | some av =>
        obtain ⟨e, q1, q2, q3⟩ := q
        exact ⟨e, q1, q2, q3.back hback rfl⟩
    · intro hne
      obtain ⟨xs, T, h1, h2, h3⟩ := sm.arr _ _ _ (hget hk) (by simpa [renLL_map] using hne)
      refine ⟨xs, T, h1, fun r hr => ?_, fun p q r a hp hq => ?_⟩
      · have := h2 (renL σ r) (by rw [renLL_map]; exact List.mem_map.2 ⟨r, hr, rfl⟩)
        simpa [renL_map] using this
      · obtain ⟨r1, r2, r3⟩ := h3 p q (renL σ r) (a.ren σ) (by rw [renLL_map, List.getElem?_map, hp]; rfl) (by rw [renL_map, List.getElem?_map, hq]; rfl)
        exact ⟨r1, r2.back hback rfl, r3⟩
  have hrl : ∀ {l' : List AV} {us : List Value}, RL g (renL σ l') us → RL s l' us := by
    intro l'
    induction l' with
    | nil => intro us q; cases q; exact .nil
    | cons a r ih =>
      intro us q
      simp only [renL] at q
      cases q with
      | cons q1 q2 => exact .cons (q1.back hback rfl) (ih q2)
  refine ⟨s, rfl, rfl, ss, ⟨fun _ => Iff.rfl, fun k => ⟨rfl, rfl⟩⟩, hrl, ?_⟩
  rintro out v w' ⟨β', ρ', s', r', k'⟩
  -- the great state behind the call
  let W := out.M.getD m
  have hW : m.length ≤ W.length := k'.len
  let N := putAll g.M π ((W.take m.length).map (AObj.ren σ)) ++ (W.drop m.length).map (AObj.ren σ)
  have hNl : N.length = g.M.length + (W.length - m.length) := by simp [N, putAll_len]
  have hNo : ∀ i, i < g.M.length → i ∉ π → N[i]? = g.M[i]? := fun i hi hp => by
    simp only [N]
    rw [List.getElem?_append_left (by rw [putAll_len]; exact hi), putAll_other hp]
  have hNs : ∀ k, k < W.length → N[σ k]? = (W[k]?).map (AObj.ren σ) := fun k hk => by
    rcases Nat.lt_or_ge k m.length with h | h
    · simp only [N]
      rw [List.getElem?_append_left (by rw [putAll_len]; exact hσl k h), putAll_at hn hin (hπ k h) (by simp; omega)]
      simp [List.getElem?_take_of_lt h]
    · simp only [N]
      rw [List.getElem?_append_right (by rw [putAll_len, hσ2 k h]; omega), putAll_len, hσ2 k h, List.getElem?_map, List.getElem?_drop]
      congr 2; omega
  -- which number of the small memory
  let τ : Nat → Nat := fun i => if i < g.M.length then π.idxOf i else i - g.M.length + m.length
  have hτ : ∀ k, k < W.length → τ (σ k) = k := fun k hk => by
    rcases Nat.lt_or_ge k m.length with h | h
    · simp only [τ, hσl k h, if_true]
      have h1 := hπ k h
      have hk' : k < π.length := by omega
      have : π[k] = σ k := by
        have h2 : π[k]? = some π[k] := by simp [hk']
        rw [h2] at h1; exact Option.some.inj h1
      rw [← this]; exact List.Nodup.idxOf_getElem hn k hk'
    · simp only [τ, hσ2 k h, show ¬ g.M.length + (k - m.length) < g.M.length by omega, if_false]; omega
  have hNcase : ∀ i, i < N.length → (i < g.M.length ∧ i ∉ π) ∨ ∃ k, k < W.length ∧ σ k = i := fun i hi => by
    rcases Nat.lt_or_ge i g.M.length with h | h
    · by_cases hp : i ∈ π
      · obtain ⟨k, hk, he⟩ := hcase i hp
        exact .inr ⟨k, by omega, he⟩
      · exact .inl ⟨h, hp⟩
    · refine .inr ⟨i - g.M.length + m.length, by omega, ?_⟩
      rw [hσ2 _ (by omega)]; omega
  let mine : Nat → Bool := fun i => decide (g.M.length ≤ i) || π.contains i
  have hmine : ∀ k, k < W.length → mine (σ k) = true := fun k hk => by
    rcases Nat.lt_or_ge k m.length with h | h
    · have := List.mem_of_getElem? (hπ k h)
      simp [mine, this]
    · simp [mine, hσ2 k h]
  have hnot : ∀ i, i < g.M.length → i ∉ π → mine i = false := fun i hi hp => by simp [mine, hp]; omega
  let βN : Nat → Nat := fun i => if mine i then β' (τ i) else g.β i
  let ρN : Nat → Room := fun i => if mine i then ρ' (τ i) else g.ρ i
  have hβ1 : ∀ k, k < W.length → βN (σ k) = β' k := fun k hk => by simp only [βN, hmine k hk, if_true, hτ k hk]
  have hρ1 : ∀ k, k < W.length → ρN (σ k) = ρ' k := fun k hk => by simp only [ρN, hmine k hk, if_true, hτ k hk]
  have hβ2 : ∀ i, i < g.M.length → i ∉ π → βN i = g.β i := fun i hi hp => by simp [βN, hnot i hi hp]
  have hρ2 : ∀ i, i < g.M.length → i ∉ π → ρN i = g.ρ i := fun i hi hp => by simp [ρN, hnot i hi hp]
  let g' : G := ⟨N, βN, ρN, w', g.X⟩
  have hgs : ∀ {k : Nat} {o : AObj}, W[k]? = some o → N[σ k]? = some (o.ren σ) := fun {k o} hk => by rw [hNs k (lt_of_some hk), hk]; rfl
  have hr1 : ∀ a, g'.reg a → (s.out out.M β' ρ' w').reg a := by
    rintro a (hx | ⟨i, o, hi, hc⟩)
    · exact .inl (.inl hx)
    · rcases hNcase i (lt_of_some hi) with ⟨h1, h2⟩ | ⟨k, hk, rfl⟩
      · have hi' : g.M[i]? = some o := by rw [← hNo i h1 h2]; exact hi
        exact .inl (.inr ⟨i, o, h2, hi', by first | (have q := hc; simp only [g', hβ2 i h1 h2, hρ2 i h1 h2] at q; exact q) | (simp only [g', hβ2 i h1 h2, hρ2 i h1 h2]; exact hc)⟩)
      · have h3 : W[k]? = some W[k] := by simp [hk]
        have h4 := hgs h3
        have : o = W[k].ren σ := Option.some.inj (hi.symm.trans h4)
        subst this
        exact .inr ⟨k, W[k], h3, ren_covers.1 (by first | (have q := hc; simp only [g', hβ1 k hk, hρ1 k hk] at q; exact q) | (simp only [g', hβ1 k hk, hρ1 k hk]; exact hc))⟩
  have hr2 : ∀ a, (s.out out.M β' ρ' w').reg a → g'.reg a := by
    rintro a ((hx | ⟨i, o, hip, hi, hc⟩) | ⟨k, o, hk, hc⟩)
    · exact .inl hx
    · have hlt := lt_of_some hi
      exact .inr ⟨i, o, by rw [hNo i hlt hip]; exact hi, by first | (have q := hc; simp only [g', hβ2 i hlt hip, hρ2 i hlt hip] at q; exact q) | (simp only [g', hβ2 i hlt hip, hρ2 i hlt hip]; exact hc)⟩
    · have hk' := lt_of_some hk
      exact .inr ⟨σ k, o.ren σ, hgs hk, ren_covers.2 (by first | (have q := hc; simp only [g', hβ1 k hk', hρ1 k hk'] at q; exact q) | (simp only [g', hβ1 k hk', hρ1 k hk']; exact hc))⟩
  have hinto : Into σ (s.out out.M β' ρ' w') g' := by
    refine ⟨fun i hi => ?_, fun i hi => hβ1 i hi, fun t ht e he => ?_, rfl, hr1⟩
    · have h3 : W[i]? = some (W[i]'hi) := List.getElem?_eq_getElem hi
      exact lt_of_some (hgs h3)
    · have h3 : W[t]? = some (W[t]'ht) := List.getElem?_eq_getElem ht
      have h4 := hgs h3
      have h5 : (W[t]'ht).ren σ = .room e := Option.some.inj (h4.symm.trans he)
      refine ⟨?_, hρ1 t ht⟩
      show W[t]? = _
      rw [h3]
      cases hw : (W[t]'ht) <;> rw [hw] at h5 <;> simp only [AObj.ren, reduceCtorEq, AObj.room.injEq] at h5
      subst h5; rfl
  have kg : Keep g g' := by
    refine ⟨⟨by rw [hNl]; omega, fun i hi => ?_, fun t ht e' he' => ?_, k'.size, fun a x hx hr => k'.cells a x hx (fun q => hr (hreg1 a q)), fun a ha hr q => k'.regs a ha (fun q' => hr (hreg1 a q')) (hr1 a q), fun b hb hr => k'.blocks b hb fun off q => hr off (hreg1 _ q), k'.io⟩,
      fun a ha => ha, fun a ha hx => k'.xcell a ha (.inl hx), fun b hb hx => k'.xblk b hb fun off => .inl (hx off)⟩
    · by_cases hp : i ∈ π
      · obtain ⟨k, hk, rfl⟩ := hcase i hp
        show βN (σ k) = _
        rw [hβ1 k (by omega)]
        exact k'.ptr k hk
      · exact hβ2 i hi hp
    · by_cases hp : t ∈ π
      · obtain ⟨k, hk, rfl⟩ := hcase t hp
        obtain ⟨h1, h2⟩ := hinto.rooms k (Nat.lt_of_lt_of_le hk hW) e' he'
        obtain ⟨e, q1, q2, q3⟩ := k'.rooms k hk e' h1
        exact ⟨e, hget q1, q2, fun he => h2.trans (q3 he)⟩
      · exact ⟨e', by rw [← hNo t ht hp]; exact he', Nat.le_refl _, fun _ => hρ2 t ht hp⟩
  have hXall : ∀ i o b, i ∉ π → g.M[i]? = some o → o.whole (g.β i) (g.ρ i) b → w'.heap[b]? = g.w.heap[b]? := fun i o b hp hi hb =>
    k'.xblk b (whole_lt sm hi hb) fun off => .inr ⟨i, o, hp, hi, hb.covers off⟩
  have sg : Sim g' := by
    refine ⟨sm.fct.keep kg, fun i cells hi => ?_, fun i u pos hi => ?_, fun t e ht => ?_, fun i j oi oj a hi hj hci hcj => ?_, fun a ha => s'.inb a (hr1 a ha), fun a ha q => ?_, fun i es hi => ?_, fun i es vis cur t hi => ?_, fun i φ hi => ?_, fun i P cur hi => ?_, fun i z els hi => ?_⟩
    · rcases hNcase i (lt_of_some hi) with ⟨h1, h2⟩ | ⟨k, hk, rfl⟩
      · have hi' : g.M[i]? = some (.blk cells) := by rw [← hNo i h1 h2]; exact hi
        obtain ⟨xs, T, q1, q2, q3, q4⟩ := sm.blk i cells hi'
        refine ⟨xs, T, ?_, q2, fun j hj => (q3 j hj).keep kg, q4⟩
        show w'.heap[βN i]? = _
        rw [hβ2 i h1 h2, hXall i _ _ h2 hi' rfl]; exact q1
      · have h3 : W[k]? = some W[k] := by simp [hk]
        have h5 : W[k].ren σ = .blk cells := Option.some.inj ((hgs h3).symm.trans hi)
        cases hw : W[k] <;> rw [hw] at h5 <;> simp only [AObj.ren, reduceCtorEq, AObj.blk.injEq] at h5
        rename_i cs
        subst h5
        obtain ⟨xs, T, q1, q2, q3, q4⟩ := s'.blk k cs (by show W[k]? = _; rw [h3, hw])
        refine ⟨xs, T, ?_, by rw [renL_len]; exact q2, fun j hj => ?_, fun j hj => q4 j (by rw [renL_len] at hj; exact hj)⟩
        · show w'.heap[βN (σ k)]? = _
          rw [hβ1 k hk]; exact q1
        · have := (q3 j (by rw [renL_len] at hj; exact hj)).into hinto
          simpa [renL_map] using this
    · rcases hNcase i (lt_of_some hi) with ⟨h1, h2⟩ | ⟨k, hk, rfl⟩
      · have hi' : g.M[i]? = some (.iter u pos) := by rw [← hNo i h1 h2]; exact hi
        show w'.heap[βN i]? = _
        rw [hβ2 i h1 h2, hXall i _ _ h2 hi' rfl]; exact sm.iter i u pos hi'
      · have h3 : W[k]? = some W[k] := by simp [hk]
        have h5 : W[k].ren σ = .iter u pos := Option.some.inj ((hgs h3).symm.trans hi)
        cases hw : W[k] <;> rw [hw] at h5 <;> simp only [AObj.ren, reduceCtorEq, AObj.iter.injEq] at h5
        obtain ⟨rfl, rfl⟩ := h5
        show w'.heap[βN (σ k)]? = _
        rw [hβ1 k hk]; exact s'.iter k _ _ (by show W[k]? = _; rw [h3, hw])
    · rcases hNcase t (lt_of_some ht) with ⟨h1, h2⟩ | ⟨k, hk, rfl⟩
      · have ht' : g.M[t]? = some (.room e) := by rw [← hNo t h1 h2]; exact ht
        intro n hn'
        have hn2 : n < (g.ρ t).cnt := by simpa [g', hρ2 t h1 h2] using hn'
        obtain ⟨x, q1, q2⟩ := sm.room t e ht' n hn2
        have hcov : (AObj.room e).covers (g.β t) (g.ρ t) ⟨(g.ρ t).b, (g.ρ t).off + n, none⟩ := ⟨rfl, by simp, by simpa using hn2⟩
        have hk2 := k'.xcell ⟨(g.ρ t).b, (g.ρ t).off + n, none⟩ (cell_lt q1) (.inr ⟨t, _, h2, ht', hcov⟩)
        simp only [g', hρ2 t h1 h2]
        exact ⟨x, hk2.1.trans q1, hk2.2.trans q2⟩
      · obtain ⟨h1, h2⟩ := hinto.rooms k hk e ht
        have := s'.room k e h1
        simp only [g', hρ1 k hk]
        exact this
    · rcases hNcase i (lt_of_some hi) with ⟨h1, h2⟩ | ⟨k, hk, rfl⟩ <;> rcases hNcase j (lt_of_some hj) with ⟨h1', h2'⟩ | ⟨k2, hk2, rfl⟩
      · rw [show g'.M = N from rfl, hNo i h1 h2] at hi
        rw [show g'.M = N from rfl, hNo j h1' h2'] at hj
        exact sm.disj i j oi oj a hi hj (by first | (have q := hci; simp only [g', hβ2 i h1 h2, hρ2 i h1 h2] at q; exact q) | (simp only [g', hβ2 i h1 h2, hρ2 i h1 h2]; exact hci)) (by first | (have q := hcj; simp only [g', hβ2 j h1' h2', hρ2 j h1' h2'] at q; exact q) | (simp only [g', hβ2 j h1' h2', hρ2 j h1' h2']; exact hcj))
      · exfalso
        rw [show g'.M = N from rfl, hNo i h1 h2] at hi
        have h3 : W[k2]? = some W[k2] := by simp [hk2]
        have : oj = W[k2].ren σ := Option.some.inj (hj.symm.trans (hgs h3))
        subst this
        exact s'.xdis a (.inr ⟨i, oi, h2, hi, by first | (have q := hci; simp only [g', hβ2 i h1 h2, hρ2 i h1 h2] at q; exact q) | (simp only [g', hβ2 i h1 h2, hρ2 i h1 h2]; exact hci)⟩) ⟨k2, W[k2], h3, ren_covers.1 (by first | (have q := hcj; simp only [g', hβ1 k2 hk2, hρ1 k2 hk2] at q; exact q) | (simp only [g', hβ1 k2 hk2, hρ1 k2 hk2]; exact hcj))⟩
      · exfalso
        rw [show g'.M = N from rfl, hNo j h1' h2'] at hj
        have h3 : W[k]? = some W[k] := by simp [hk]
        have : oi = W[k].ren σ := Option.some.inj (hi.symm.trans (hgs h3))
        subst this
        exact s'.xdis a (.inr ⟨j, oj, h2', hj, by first | (have q := hcj; simp only [g', hβ2 j h1' h2', hρ2 j h1' h2'] at q; exact q) | (simp only [g', hβ2 j h1' h2', hρ2 j h1' h2']; exact hcj)⟩) ⟨k, W[k], h3, ren_covers.1 (by first | (have q := hci; simp only [g', hβ1 k hk, hρ1 k hk] at q; exact q) | (simp only [g', hβ1 k hk, hρ1 k hk]; exact hci))⟩
      · have h3 : W[k]? = some W[k] := by simp [hk]
        have h4 : W[k2]? = some W[k2] := by simp [hk2]
        have e1 : oi = W[k].ren σ := Option.some.inj (hi.symm.trans (hgs h3))
        have e2 : oj = W[k2].ren σ := Option.some.inj (hj.symm.trans (hgs h4))
        subst e1; subst e2
        have := s'.disj k k2 _ _ a h3 h4 (ren_covers.1 (by first | (have q := hci; simp only [g', hβ1 k hk, hρ1 k hk] at q; exact q) | (simp only [g', hβ1 k hk, hρ1 k hk]; exact hci))) (ren_covers.1 (by first | (have q := hcj; simp only [g', hβ1 k2 hk2, hρ1 k2 hk2] at q; exact q) | (simp only [g', hβ1 k2 hk2, hρ1 k2 hk2]; exact hcj)))
        rw [this]
    · obtain ⟨i, o, hi, hc⟩ := q
      rcases hNcase i (lt_of_some hi) with ⟨h1, h2⟩ | ⟨k, hk, rfl⟩
      · rw [show g'.M = N from rfl, hNo i h1 h2] at hi
        exact sm.xdis a ha ⟨i, o, hi, by first | (have q := hc; simp only [g', hβ2 i h1 h2, hρ2 i h1 h2] at q; exact q) | (simp only [g', hβ2 i h1 h2, hρ2 i h1 h2]; exact hc)⟩
      · have h3 : W[k]? = some W[k] := by simp [hk]
        have e1 : o = W[k].ren σ := Option.some.inj (hi.symm.trans (hgs h3))
        subst e1
        exact s'.xdis a (.inl ha) ⟨k, W[k], h3, ren_covers.1 (by first | (have q := hc; simp only [g', hβ1 k hk, hρ1 k hk] at q; exact q) | (simp only [g', hβ1 k hk, hρ1 k hk]; exact hc))⟩
    · rcases hNcase i (lt_of_some hi) with ⟨h1, h2⟩ | ⟨k, hk, rfl⟩
      · have hi' : g.M[i]? = some (.mapo es) := by rw [← hNo i h1 h2]; exact hi
        obtain ⟨o, q1, q2⟩ := sm.mapo i es hi'
        refine ⟨o, ?_, q2.keep kg⟩
        show w'.heap[βN i]? = _
        rw [hβ2 i h1 h2, hXall i _ _ h2 hi' rfl]; exact q1
      · have h3 : W[k]? = some W[k] := by simp [hk]
        have h5 : W[k].ren σ = .mapo es := Option.some.inj ((hgs h3).symm.trans hi)
        cases hw : W[k] <;> rw [hw] at h5 <;> simp only [AObj.ren, reduceCtorEq, AObj.mapo.injEq] at h5
        rename_i es0
        subst h5
        obtain ⟨o, q1, ents, clock, q2, qst, q3, q4⟩ := s'.mapo k es0 (by show W[k]? = _; rw [h3, hw])
        refine ⟨o, ?_, ents, clock, q2, qst, by simpa using q3, fun j hj => ?_⟩
        · show w'.heap[βN (σ k)]? = _
          rw [hβ1 k hk]; exact q1
        · have := q4 j (by simpa using hj)
          simp only [List.getElem_map]
          exact ⟨this.1.into hinto, this.2.into hinto⟩
    · rcases hNcase i (lt_of_some hi) with ⟨h1, h2⟩ | ⟨k, hk, rfl⟩
      · have hi' : g.M[i]? = some (.mapr es vis cur t) := by rw [← hNo i h1 h2]; exact hi
        obtain ⟨t1, t2, o, oi, q1, q1', q2⟩ := sm.mapr i es vis cur t hi'
        have hb : βN i = g.β i := hβ2 i h1 h2
        have hr : ρN i = g.ρ i := hρ2 i h1 h2
        refine ⟨Nat.lt_of_lt_of_le t1 kg.len, ?_, o, oi, ?_, ?_, ?_⟩
        · show (ρN i).b = βN t
          rw [hr, t2]; exact (kg.ptr t t1).symm
        · show w'.heap[βN i]? = _
          rw [hb, hXall i _ _ h2 hi' (.inl rfl)]; exact q1
        · show w'.heap[(ρN i).b]? = _
          rw [hr, hXall i _ _ h2 hi' (.inr rfl)]; exact q1'
        · show MaprRel g' es vis cur (βN i) o oi
          rw [hb]; exact q2.keep kg
      · have h3 : W[k]? = some W[k] := by simp [hk]
        have h5 : W[k].ren σ = .mapr es vis cur t := Option.some.inj ((hgs h3).symm.trans hi)
        cases hw : W[k] <;> rw [hw] at h5 <;> simp only [AObj.ren, reduceCtorEq, AObj.mapr.injEq] at h5
        rename_i es0 vis0 cur0 t0
        obtain ⟨rfl, rfl, rfl, rfl⟩ := h5
        obtain ⟨t1, t2, o, oi, q1, q1', ents0, clock0, seen, e1, e2, ⟨ents, clock, q2, qst, q3, q4⟩, q5⟩ := s'.mapr k es0 vis0 cur0 t0 (by show W[k]? = _; rw [h3, hw])
        have hb : βN (σ k) = β' k := hβ1 k hk
        have hr : ρN (σ k) = ρ' k := hρ1 k hk
        have hb2 : βN (σ t0) = β' t0 := hβ1 t0 t1
        refine ⟨hinto.lt t0 t1, ?_, o, oi, ?_, ?_, ents0, clock0, seen, e1, ?_, ⟨ents, clock, q2, qst, by simpa using q3, fun j hj => ?_⟩, q5⟩
        · show (ρN (σ k)).b = βN (σ t0)
          rw [hr, hb2]; exact t2
        · show w'.heap[βN (σ k)]? = _
          rw [hb]; exact q1
        · show w'.heap[(ρN (σ k)).b]? = _
          rw [hr]; exact q1'
        · show oi = .mapIter (some (βN (σ k))) _ _ _
          rw [hb]; exact e2
        · have := q4 j (by simpa using hj)
          simp only [List.getElem_map]
          exact ⟨this.1.into hinto, this.2.into hinto⟩
    · rcases hNcase i (lt_of_some hi) with ⟨h1, h2⟩ | ⟨k, hk, rfl⟩
      · have hi' : g.M[i]? = some (.opq φ) := by rw [← hNo i h1 h2]; exact hi
        have hb : βN i = g.β i := hβ2 i h1 h2
        have hr : ρN i = g.ρ i := hρ2 i h1 h2
        have e1 := k'.xblk (g.β i) (whole_lt sm hi' (.inl rfl)) fun off => .inr ⟨i, _, h2, hi', .inl rfl⟩
        have e2 := k'.xblk (g.ρ i).b (whole_lt sm hi' (.inr rfl)) fun off => .inr ⟨i, _, h2, hi', .inr rfl⟩
        show φ (βN i) (ρN i).b (w'.heap[βN i]?) (w'.heap[(ρN i).b]?)
        rw [hb, hr]
        have q := sm.opq i φ hi'
        have e1' : w'.heap[g.β i]? = g.w.heap[g.β i]? := e1
        have e2' : w'.heap[(g.ρ i).b]? = g.w.heap[(g.ρ i).b]? := e2
        rw [e1', e2']; exact q
      · have h3 : W[k]? = some W[k] := by simp [hk]
        have h5 : W[k].ren σ = .opq φ := Option.some.inj ((hgs h3).symm.trans hi)
        cases hw : W[k] <;> rw [hw] at h5 <;> simp only [AObj.ren, reduceCtorEq, AObj.opq.injEq] at h5
        subst h5
        rename_i φ0
        have q := s'.opq k φ0 (by show W[k]? = _; rw [h3, hw])
        have hb : βN (σ k) = β' k := hβ1 k hk
        have hr : ρN (σ k) = ρ' k := hρ1 k hk
        show φ0 (βN (σ k)) (ρN (σ k)).b (w'.heap[βN (σ k)]?) (w'.heap[(ρN (σ k)).b]?)
        rw [hb, hr]; exact q
    · have hin' : ∀ a, g'.reg a → a.block < g'.w.heap.size := fun a ha => s'.inb a (hr1 a ha)
      rcases hNcase i (lt_of_some hi) with ⟨h1, h2⟩ | ⟨k, hk, rfl⟩
      · have hi' : g.M[i]? = some (.own P cur) := by rw [← hNo i h1 h2]; exact hi
        exact sm.ownKeep kg.toKeep0 hin' hi' hi (hβ2 i h1 h2) (by show (ρN i).bs = _; rw [hρ2 i h1 h2]) fun b hb => hXall i _ _ h2 hi' hb
      · have h3 : W[k]? = some W[k] := by simp [hk]
        have h5 : W[k].ren σ = .own P cur := Option.some.inj ((hgs h3).symm.trans hi)
        cases hw : W[k] <;> rw [hw] at h5 <;> simp only [AObj.ren, reduceCtorEq, AObj.own.injEq] at h5
        rename_i P0 cur0
        obtain ⟨rfl, rfl⟩ := h5
        have hk' : (s.out out.M β' ρ' w').M[k]? = some (.own P0 cur0) := by show W[k]? = _; rw [h3, hw]
        obtain ⟨ents, clock, q1, q2, q3, q4, q5, q6⟩ := s'.own k P0 cur0 hk'
        have hb : βN (σ k) = β' k := hβ1 k hk
        have hr : ρN (σ k) = ρ' k := hρ1 k hk
        refine ⟨ents, clock, ?_, q2, q3, ?_, ?_, fun c v hc => ?_⟩
        · show w'.heap[βN (σ k)]? = _
          rw [hb]; exact q1
        · show ¬ (ρN (σ k)).bs (βN (σ k))
          rw [hb, hr]; exact q4
        · show P0.rel w' g'.reg (ρN (σ k)).bs (pairsOf ents)
          rw [hr]
          refine P0.keep ⟨Nat.le_refl _, fun _ _ h _ => h, fun a _ h h' => h (hr1 a h'), fun _ _ _ => rfl, ⟨rfl, rfl⟩, fun _ _ => rfl, fun a h => reg_of hk' (.inr h), fun a h => hr2 a (reg_of hk' (.inr h)), hin'⟩ q5
        · cases cur0 with
          | none => simp at hc
          | some c0 =>
            obtain ⟨c1, v1⟩ := c0
            simp only [Option.map_some, Option.some.injEq, Prod.mk.injEq] at hc
            obtain ⟨rfl, rfl⟩ := hc
            have q := q6 c1 v1 rfl
            cases v1 with
            | none => exact q
            | some av =>
              obtain ⟨e, z1, z2, z3⟩ := q
              exact ⟨e, z1, z2, z3.into hinto⟩
    · rcases hNcase i (lt_of_some hi) with ⟨h1, h2⟩ | ⟨k, hk, rfl⟩
      · have hi' : g.M[i]? = some (.arr z els) := by rw [← hNo i h1 h2]; exact hi
        have q := (sm.arr i z els hi').keep0 kg.toKeep0 fun hne => hXall i _ _ h2 hi' ⟨hne, rfl⟩
        show ArrRel _ z els (βN i)
        rw [hβ2 i h1 h2]; exact q
      · have h3 : W[k]? = some W[k] := by simp [hk]
        have h5 : W[k].ren σ = .arr z els := Option.some.inj ((hgs h3).symm.trans hi)
        cases hw : W[k] <;> rw [hw] at h5 <;> simp only [AObj.ren, reduceCtorEq, AObj.arr.injEq] at h5
        obtain ⟨rfl, rfl⟩ := h5
        rename_i z0 els0
        intro hne
        obtain ⟨xs, T, q1, q2, q3⟩ := s'.arr k z0 els0 (by show W[k]? = _; rw [h3, hw]) (by simpa [renLL_map] using hne)
        refine ⟨xs, T, ?_, fun r hr => ?_, fun p q r a hp hq => ?_⟩
        · show w'.heap[βN (σ k)]? = _
          rw [hβ1 k hk]; exact q1
        · rw [renLL_map] at hr
          obtain ⟨r0, hr0, rfl⟩ := List.mem_map.1 hr
          rw [renL_len]; exact q2 r0 hr0
        · rw [renLL_map, List.getElem?_map] at hp
          obtain ⟨r0, hp0, rfl⟩ := Option.map_eq_some_iff.1 hp
          rw [renL_map, List.getElem?_map] at hq
          obtain ⟨a0, hq0, rfl⟩ := Option.map_eq_some_iff.1 hq
          obtain ⟨r1, r2, r3⟩ := q3 p q r0 a0 hp0 hq0
          exact ⟨r1, r2.into hinto, r3⟩
  refine ⟨βN, ρN, ?_, ?_, ?_⟩
  · simp only [frameOut, G.out, Option.getD_some]
    rw [hσ]
    exact sg
  · simp only [frameOut, G.out, Option.getD_some]
    rw [hσ]
    exact r'.into hinto
  · simp only [frameOut, G.out, Option.getD_some]
    rw [hσ]
    exact kg

theorem call_frame {P : Program} {f : FuncId} {l : List AV} {m M : List AObj} {out : Out} (π : List Nat) (h : CallOk P f l m out) (hn : π.Nodup) (hl : π.length = m.length)
    (hM : ∀ (k i : Nat), π[k]? = some i → M[i]? = (m[k]?).map (AObj.ren (into π m.length M.length))) : CallOk P f (renL (into π m.length M.length) l) M (frameOut π m M out) := by
  intro g vs hgM sm hr ho
  obtain ⟨s, h1, h2, h3, _, h4, h5⟩ := frame_post π hn hl hM hgM sm
  obtain ⟨c1, c2⟩ := h s vs h1 h3 (h4 hr) ho
  rw [h2] at c1 c2
  refine ⟨c1, c2.mono fun e w' => ?_⟩
  rintro ⟨v, rfl, q⟩
  exact ⟨v, rfl, h5 q⟩

/-! ### The memory seen otherwise, the world as it is -/
end Go.Ab
