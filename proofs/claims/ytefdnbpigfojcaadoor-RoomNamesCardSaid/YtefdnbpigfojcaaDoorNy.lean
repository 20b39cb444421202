/- A range over a map of numbers, whose body reads the entry: what holds of what has been seen, holds of all behind it. No condition: over any program. -/
import Derived.Test.YtefdnbpigfojcaaDoorNx
namespace Go.Ab
variable {P : Program} {ty : TyTab} {Γ : Gam} {n B : Nat} {Q : Exit → St → Prop} {σ : St}

@[simp] theorem getV_SI (k2 : IntKind) (x : ByteArray) (d : Int) (m : List (ByteArray × Int)) : getV (.string x) (.lit (.int k2 d)) (encM kS (kI k2) m) = .lit (.int k2 (getM eqS x d m)) := getV_S (vE := kI k2) (d := d) rfl x m
@[simp] theorem setV_SI (k2 : IntKind) (x : ByteArray) (v : Int) (m : List (ByteArray × Int)) : setV (.string x) (.lit (.int k2 v)) (encM kS (kI k2) m) = encM kS (kI k2) (setM eqS x v m) := setV_S (vE := kI k2) (v := v) rfl x m

/-- What stands at a key of a map whose keys differ. -/
theorem getV_at {V : Type} {kk : IntKind} {vE : V → AV} {k : Int} {v : V} {z : AV} : ∀ {m : List (Int × V)}, (m.map (·.1)).Nodup → (k, v) ∈ m → getV (.int kk k) z (encM (kI kk) vE m) = vE v := by
  intro m hn hm
  have hz : getV (.int kk k) z (encM (kI kk) vE m) = getV (.int kk k) (vE v) (encM (kI kk) vE m) := by
    clear hn
    induction m with
    | nil => cases hm
    | cons e r ih =>
      simp only [encM, List.map_cons, kI, getV]
      split
      · rfl
      · rename_i hne
        refine ih ?_
        rcases List.mem_cons.1 hm with rfl | h
        · have he : eqI k k = true := by simp [eqI]
          simp [sameV, he] at hne
        · exact h
  rw [hz, getV_I (d := v) rfl]
  congr 1
  clear hz
  induction m with
  | nil => cases hm
  | cons e r ih =>
    rw [getM]
    rw [List.map_cons, List.nodup_cons] at hn
    rcases List.mem_cons.1 hm with rfl | h
    · rw [if_pos (by simp [eqI])]
    · have : k ≠ e.1 := fun q => hn.1 (List.mem_map.2 ⟨(k, v), h, q⟩)
      rw [if_neg (by simp [eqI, this])]
      exact ih hn.2 h

theorem nodup_len {α : Type} : ∀ {l m : List α}, l.Nodup → (∀ x ∈ l, x ∈ m) → l.length ≤ m.length
  | [], _, _, _ => Nat.zero_le _
  | a :: l, m, h, hs => by
    rw [List.nodup_cons] at h
    obtain ⟨m1, m2, rfl⟩ := List.append_of_mem (hs a (List.mem_cons_self))
    have := nodup_len (l := l) (m := m1 ++ m2) h.2 fun x hx => by
      have hx' := hs x (List.mem_cons_of_mem _ hx)
      rcases List.mem_append.1 hx' with q | q
      · exact List.mem_append.2 (.inl q)
      · rcases List.mem_cons.1 q with rfl | q
        · exact absurd hx h.1
        · exact List.mem_append.2 (.inr q)
    simp only [List.length_append, List.length_cons] at this ⊢
    omega

/-- A range over a map of numbers. -/
theorem AWp.rangeM {c : Code} {V X : Type} {kk : IntKind} {vE : V → AV} {id i u mm : Nat} (m : List (Int × V)) (I : List (Int × V) → X → Prop) (E : X → List Value → Option Value → St) (EX : X → St)
    (hE : ∀ x vis cur, (E x vis cur).M[i]? = some (.mapr (encM (kI kk) vE m) vis cur u)) (x0 : X) (hc : Conv B mm σ (E x0 [] none)) (h0 : I [] x0)
    (round : ∀ x vis cur done, (m.map (·.1)).Nodup → I done x → vis = done.map (fun e => Value.int kk e.1) → AWp P n B c (fun e σ' => (e = .exit id ∧ (∀ k v, (AV.lit k, v) ∈ encM (kI kk) vE m → k ∈ vis) ∧ ∃ mx, Conv B mx σ' (EX x)) ∨
      (e = .normal ∧ ∃ (k : Int) (v : V), Value.int kk k ∉ vis ∧ (k, v) ∈ m ∧ ∃ x', I ((k, v) :: done) x' ∧ ∃ mx, Conv B mx σ' (E x' (.int kk k :: vis) (some (.int kk k))))) (E x vis cur))
    (hq : ∀ x σ' mx done, done.Perm m → I done x → Conv B mx σ' (EX x) → Q .normal σ') : AWp P n B (.block id (.loop c)) Q σ := by
  intro g0 g a at_
  obtain ⟨g1, _, at1⟩ := hc.at at_
  have hN := keys_nodup at1.sim (by rw [at1.mem]; exact hE x0 [] none)
  refine (AWp.block (AWp.loop' (fun q σ => ∃ x vis cur done, σ = E x vis cur ∧ I done x ∧ vis = done.map (fun e => Value.int kk e.1) ∧ (∀ e ∈ done, e ∈ m) ∧ done.Nodup ∧ done.length + q = m.length + 1) (m.length + 1) mm _
    (hc := hc) ⟨x0, [], none, [], rfl, h0, rfl, fun _ h => (by cases h), .nil, by simp⟩ ?_) : AWp P n B (.block id (.loop c)) Q σ) g0 g a at_
  rintro q σ ⟨x, vis, cur, done, rfl, hI, hv, hd, hnd, hl⟩
  refine AWp.mono (round x vis cur done hN hI hv) fun e σ' h => ?_
  have hsub : done.length ≤ m.length := nodup_len hnd hd
  rcases h with ⟨rfl, h1, mx, h2⟩ | ⟨rfl, k, v, h1, h2, x', h3, mx, h4⟩
  · simp only [thenS, blockS, if_true]
    refine hq x σ' mx done ?_ hI h2
    have hmn : m.Nodup := by
      unfold List.Nodup at hN ⊢
      rw [List.pairwise_map] at hN
      exact hN.imp fun h q => h (by rw [q])
    refine (List.perm_ext_iff_of_nodup hnd hmn).2 fun e => ⟨hd e, fun he => ?_⟩
    have := h1 (.int kk e.1) (vE e.2) (List.mem_map.2 ⟨e, he, rfl⟩)
    rw [hv] at this
    obtain ⟨e', he', hk⟩ := List.mem_map.1 this
    have hk' : e'.1 = e.1 := by injection hk
    have : e' = e := by
      have hN' := hN
      unfold List.Nodup at hN'
      rw [List.pairwise_map] at hN'
      refine Classical.byContradiction fun hne => ?_
      obtain ⟨i1, hi1, e1⟩ := List.mem_iff_getElem.1 (hd e' he')
      obtain ⟨i2, hi2, e2⟩ := List.mem_iff_getElem.1 he
      rcases Nat.lt_trichotomy i1 i2 with h | h | h
      · have := List.pairwise_iff_getElem.1 hN' i1 i2 hi1 hi2 h
        rw [e1, e2] at this; exact this hk'
      · subst h; exact hne (e1.symm.trans e2)
      · have := List.pairwise_iff_getElem.1 hN' i2 i1 hi2 hi1 h
        rw [e1, e2] at this; exact this hk'.symm
    rw [← this]; exact he'
  · simp only [thenS]
    have hnew : (k, v) ∉ done := fun h => h1 (by rw [hv]; exact List.mem_map.2 ⟨_, h, rfl⟩)
    have hd' : ∀ e ∈ (k, v) :: done, e ∈ m := fun e he => by
      rcases List.mem_cons.1 he with rfl | he
      · exact h2
      · exact hd e he
    have hnd' : ((k, v) :: done).Nodup := List.nodup_cons.2 ⟨hnew, hnd⟩
    have hsub' : ((k, v) :: done).length ≤ m.length := nodup_len hnd' hd'
    simp only [List.length_cons] at hsub'
    refine ⟨q - 1, mx, _, by omega, h4, x', _, _, (k, v) :: done, rfl, h3, by rw [hv]; rfl, hd', hnd', by simp only [List.length_cons]; omega⟩
end Go.Ab
