/- Runs on fixed data, reckoned: the whole. No condition: over any program. -/
import Derived.Test.YtpamnignoocogaaGreatDoorEt2
import Derived.Test.YtpamnignoocogaaGreatDoorM06
import Derived.Test.YtpamnignoocogaaGreatDoorM11
import Derived.Lib.UnsafeStr
import Derived.Test.YtpamnignoocogaaGreatDoorM10
import Derived.HandedShaped
section
namespace Go.Ab
section
variable {P : Program}
def anyR (T : EvT) (run : Nat → Code → St → Option (Exit × St)) (n : Nat) (x : Code) (σ : St) : Option (Exit × St) := match x with
  | .loop y => match anyX T run n y σ with
    | some r => some r
    | none => run n x σ
  | _ => run n x σ
theorem anyR_ok {T : EvT} (hT : EvOk P T) {run : Nat → Code → St → Option (Exit × St)} (hr : RunOk P run) : RunOk P (anyR T run) := by
  intro n B c σ e σ' h ht
  unfold anyR at h
  split at h
  · split at h
    · rename_i r hx
      cases h
      exact any_ok hT hr hx ht
    · exact hr n B _ σ e σ' h ht
  · exact hr n B _ σ e σ' h ht
def evC (T : EvT) : Nat → Nat → Code → St → Option (Exit × St)
  | 0, _, _, _ => none
  | k + 1, n, c, σ => match c with
    | .skip => some (.normal, σ)
    | .ret => some (.ret, σ)
    | .exit id => some (.exit id, σ)
    | .seq x y => match evC T k n x σ with
      | some (.normal, σ') => evC T k n y σ'
      | r => r
    | .cond c x y => match evX σ.A [] c with
      | some (.lit (.bool true)) => evC T k n x σ
      | some (.lit (.bool false)) => evC T k n y σ
      | _ => none
    | .block id x => match anyR T (evC T k) n x σ with
      | some (.exit id', σ') => if id' = id then some (.normal, σ') else some (.exit id', σ')
      | r => r
    | .loop x => match evC T k n x σ with
      | some (.normal, σ') => evC T k n (.loop x) σ'
      | r => r
    | .region _ ops draw => (regY T (callX T (evC T k)) n ops draw σ).map fun σ' => (.normal, σ')
    | _ => none
def evF (T : EvT) (k : Nat) : Gam := callX T (evC T k)

theorem evC_ok {T : EvT} (hT : EvOk P T) (k0 : Nat) : RunOk P (evC T k0) := by
  induction k0 using Nat.strongRecOn with
  | _ k0 ihs =>
  match k0, ihs with
  | 0, _ => exact fun n B c σ e σ' h => by cases h
  | k + 1, ihs =>
    have ih := ihs k (Nat.lt_succ_self k)
    have ihA := anyR_ok hT ih
    intro n B c σ e σ' h ht
    have hall := h
    unfold evC at h
    split at h
    · cases h; exact AWp.skip ⟨rfl, rfl, ht⟩
    · cases h; exact AWp.ret ⟨rfl, rfl, ht⟩
    · cases h; exact AWp.exit ⟨rfl, rfl, ht⟩
    · rename_i x y
      refine AWp.seq ?_
      split at h
      · rename_i σ1 h1
        refine AWp.mono (ih n B x σ _ σ1 h1 ht) fun e' σ'' q => ?_
        obtain ⟨rfl, rfl, q3⟩ := q
        exact ih n B y _ _ _ h q3
      · rename_i hne
        refine AWp.mono (ih n B x σ _ σ' h ht) fun e' σ'' q => ?_
        obtain ⟨rfl, rfl, q3⟩ := q
        cases e' with
        | normal => exact absurd h (hne _)
        | _ => exact ⟨rfl, rfl, q3⟩
    · rename_i c x y
      split at h
      · rename_i hc
        exact AWp.cond hc (fun _ => ih n B x σ _ σ' h ht) (fun hb => by cases hb)
      · rename_i hc
        exact AWp.cond hc (fun hb => by cases hb) (fun _ => ih n B y σ _ σ' h ht)
      · cases h
    · rename_i id x
      refine AWp.block ?_
      split at h
      · rename_i id' σ1 h1
        refine AWp.mono (ihA n B x σ _ σ1 h1 ht) fun e' σ'' q => ?_
        obtain ⟨rfl, rfl, q3⟩ := q
        simp only [blockS]
        split at h
        · rename_i hid; cases h; rw [if_pos hid]; exact ⟨rfl, rfl, q3⟩
        · rename_i hid; cases h; rw [if_neg hid]; exact ⟨rfl, rfl, q3⟩
      · rename_i hne
        refine AWp.mono (ihA n B x σ _ σ' h ht) fun e' σ'' q => ?_
        obtain ⟨rfl, rfl, q3⟩ := q
        cases e' with
        | exit id' => exact absurd h (hne _ _)
        | _ => exact ⟨rfl, rfl, q3⟩
    · rename_i x
      refine AWp.loop (fun j τ => j ≤ k + 1 ∧ evC T j n (.loop x) τ = some (e, σ') ∧ noTags τ.A = true) (k + 1) ⟨Nat.le_refl _, hall, ht⟩ ?_
      rintro j τ ⟨hj, hev, hτ⟩
      match j, hj, hev with
      | 0, _, hev => cases hev
      | j + 1, hj, hev =>
        have ihj := ihs j (by omega)
        unfold evC at hev
        simp only at hev
        split at hev
        · rename_i σ1 h1
          refine AWp.mono (ihj n B x τ _ σ1 h1 hτ) fun e' σ'' q => ?_
          obtain ⟨rfl, rfl, q3⟩ := q
          exact ⟨j, Nat.lt_succ_self j, by omega, hev, q3⟩
        · rename_i hne
          refine AWp.mono (ihj n B x τ _ σ' hev hτ) fun e' σ'' q => ?_
          obtain ⟨rfl, rfl, q3⟩ := q
          cases e' with
          | normal => exact absurd hev (hne _)
          | _ => exact ⟨rfl, rfl, q3⟩
    · obtain ⟨σ1, h1, e1⟩ := Option.map_eq_some_iff.1 h
      cases e1
      exact regY_ok hT (callX_ok hT ih) (callX_free hT) h1 ht
    · cases h
theorem evF_ok {T : EvT} (hT : EvOk P T) (k : Nat) {f : FuncId} {l : List AV} {M : List AObj} {o : Out} (h : evF T k f l M = some o) : CallOk P f l M o := (callX_ok hT (evC_ok hT k)).h f l M o h
/-- A contract, where what it asks has been looked at. -/
def chkS (S : Sp) (ob : List AV → List AObj → Bool) : Sp := fun l M => if ob l M then (S l M).map fun o => { o with obl := True } else none
theorem chkS_ok {f : FuncId} {S : Sp} {ob : List AV → List AObj → Bool} (h : SpecOk P f S) (hob : ∀ l M o, S l M = some o → ob l M = true → o.obl) {l : List AV} {M : List AObj} {o : Out} (q : chkS S ob l M = some o) : CallOk P f l M o ∧ o.obl := by
  unfold chkS at q
  split at q
  · rename_i hb
    obtain ⟨o', h1, rfl⟩ := Option.map_eq_some_iff.1 q
    exact ⟨fun g vs hM sm hr _ => h l M o' h1 g vs hM sm hr (hob l M o' h1 hb), trivial⟩
  · cases q
/-- The objects that are Writers of these types. -/
def isWr (T E : TypeId) (M : List AObj) : List AV → Bool
  | .ptr i 0 :: _ => match M[i]? with
    | some (.opq φ) => decide (φ.k = some (T, E))
    | _ => false
  | _ => false
theorem isWr_spec {T E : TypeId} {M : List AObj} {i : Nat} {l : List AV} {φ : Opq} (h : isWr T E M (.ptr i 0 :: l) = true) (hM : M[i]? = some (.opq φ)) : φ = wrO T E φ.bs := by
  unfold isWr at h
  simp only [hM] at h
  have := of_decide_eq_true h
  obtain ⟨bs, k⟩ := φ
  simp only at this
  subst this
  rfl
end
end Go.Ab
end
section
namespace Go.Proofs
end Go.Proofs
namespace Go.Ab
open Go.Proofs

@[simp] theorem bel_opq (m : Nat) (φ : Opq) : (AObj.opq φ).bel m ↔ True := Iff.rfl
@[simp] theorem wrO_bs (T E : TypeId) (bs : List Int) : (wrO T E bs).bs = bs := rfl
/-- The text of all. -/
@[simp] def wrTextS (T E : TypeId) : Sp
  | [.ptr i 0], M => match M[i]? with
    | some (.opq φ) => some { av := .lit (.string (strOfNums φ.bs)), M := some (M.set i (.opq wrX)), obl := φ = wrO T E φ.bs ∧ TextB φ.bs }
    | _ => none
  | _, _ => none

theorem bytes_of {bs : List Int} (h : ∀ x ∈ bs, 0 ≤ x ∧ x < 256) : bs.map (Value.int .u8) = Lib.byteCells (bs.map fun n => n.toNat.toUInt8) := by
  simp only [Lib.byteCells, List.map_map]
  refine List.map_congr_left fun x hx => ?_
  obtain ⟨h1, h2⟩ := h x hx
  simp only [Function.comp, Nat.toUInt8, UInt8.toNat_ofNat']
  congr 1
  omega

theorem textW_ok {P : Program} {f : FuncId} {T E : TypeId} (hent : ∀ args w, (callFunc f args).run P w = .ok (.enter f args) w)
    (hS : ∀ (b g cap : Nat) (w : World) (p : Value) (l : List UInt8) (cur : Array Value), w.heap[b]? = some (.cells #[p, .slice (some ⟨g, 0, none⟩) l.length cap] T (0, 0)) → w.heap[g]? = some (.cells cur E (0, 0)) →
      l.length ≤ cap → cap ≤ maxLen → cur.size = cap → cur.toList.take l.length = Lib.byteCells l → l ≠ [] →
      Calls P f #[.pointer (some ⟨b, 0, none⟩)] w fun e w' => e = .returned (.string ⟨l.toArray⟩) ∧ WrKeep b (some g) w w' ∧ w'.heap.size = w.heap.size) : SpecOk P f (wrTextS T E) := by
  intro l M out h
  unfold wrTextS at h
  split at h
  · rename_i i
    split at h
    · rename_i φ hMi
      cases h
      intro g vs hM sm hr ho
      subst hM
      obtain ⟨hφ, hne, hbb⟩ := ho
      cases hr with | cons hv hr => cases hr with | nil =>
      cases hv with
      | ptr _ _ hi =>
      refine ⟨hent _ _, ?_⟩
      have hq := sm.opq i φ hMi
      rw [hφ] at hq
      obtain ⟨p, v, h1, h2, h3⟩ := hq
      rcases h3 with ⟨_, h, _⟩ | ⟨cap, cur, rfl, h4, h5, h6, h7, h8, h9⟩
      · exact absurd h hne
      generalize hl : φ.bs.map (fun n => n.toNat.toUInt8) = ls
      have hll : ls.length = φ.bs.length := by rw [← hl]; simp
      have hb : φ.bs.map (Value.int .u8) = Lib.byteCells ls := by rw [← hl]; exact bytes_of hbb
      have hstr : (⟨ls.toArray⟩ : ByteArray) = strOfNums φ.bs := by
        rw [← hl]; rfl
      simp only [wrO] at h1 h5 h6 h9
      refine (hS (g.β i) (g.ρ i).b cap g.w p ls cur (by rw [hll]; exact h1) h5 (by omega) h7 h8 (by rw [hll, ← hb]; exact h9) (fun e => hne (List.eq_nil_of_length_eq_zero (by rw [← hll, e]; rfl)))).mono ?_
      rintro e w' ⟨rfl, k1, k2⟩
      obtain ⟨kk, ss⟩ := opq_turn sm hMi (φ' := wrX) (w' := w') (rb := (g.ρ i).b) k1.size ⟨k1.os, k1.output⟩ (fun k q1 q2 q3 => k1.block k q1 q2 (by simpa using q3)) (.inl rfl) trivial
      refine ⟨_, rfl, g.β, _, ss, ?_, kk⟩
      rw [hstr]
      exact .lit _
    · cases h
  · cases h
end Go.Ab
end
section
namespace Go.Ab
open Go.ChangeShapes Go.WideShapes Go.ChangeAt Go.RowKit
variable {H : Type} {enc : TypeId × Value → H}
theorem law_lifted_shaped {C : Checked} {os : Os} {f : FuncId} {fn : Func} {s : ChangeSpec} {conds : List PathCond} {tb : TypeId} {l : List TypeId} {laid : List (String × DataW Unit)}
    (own : ownKnob C.prog.godebug = none) (started : os.Started) (noInit : C.prog.inits.idxOf? f = none) (hfn : C.prog.funcs[f]? = some fn)
    (witness : ∃ (w : World) (tape : Tape) (i : Input), w.os = os ∧ (w.forCall tape i).Shaped C.prog ∧ i.vars = [] ∧ Input.okWide C.prog (w.forCall tape i) .any w.heap.size f i ∧
      ((s.pre enc C.prog fn conds false (w.forCall tape i).memory i.args ∧ laidMetH C.prog laid (w.forCall tape i).memory) ∧ sizedMet enc C.prog fn (OpenSpec.ofChange s) false (w.forCall tape i).memory i.args) ∧ ({} : Assume).holds C.prog (lone (Frame.enter C.prog f i.args .normal) [] (w.forCall tape i)))
    (hvars : s.vars = []) (hres : fn.resultTypes = #[tb]) (htb : C.prog.underlying tb = some .bool)
    (hspec : ∀ ds : List (DataW H), ds.length = fn.params.toList.length → s.fn H ds = { results := [.lit (.bool true)], args := ds })
    (K : Kids C.prog (· < C.prog.types.size)) (hz : ((List.range C.prog.types.size).all fun t => match C.prog.underlying t with | some (.slice e) => decide (0 < C.prog.cellsOf e) | _ => true) = true)
    (hl : flatB C.prog l = true) (hT : topB C.prog l fn.params.toList = true)
    (call : ∀ avl, ShAll C.prog fn.params.toList avl → ∃ o : Prop, o ∧ CallOk C.prog f avl [] { av := .lit (.bool true), obl := o })
    (hF : ∀ w : World, laidMetH C.prog laid w → w.ShapedOpen C.prog → ∀ w' : World, (∀ b, b < w.heap.size → w'.heap[b]? = w.heap[b]?) → fctF w') :
    ReturnsInHanded {} C os f .any (fun w args => (s.pre enc C.prog fn conds false w args ∧ laidMetH C.prog laid w) ∧ sizedMet enc C.prog fn (OpenSpec.ofChange s) false w args) (s.post enc C.prog fn false true false false) := by
  refine returnsInHanded_of_calls own started noInit witness ?_
  intro w tape i _ hsh _ hok hpre hholds
  obtain ⟨_, _, _, fn', hfn', _, _, _, _, hval⟩ := hok
  have e : fn' = fn := Option.some.inj (hfn'.symm.trans hfn)
  subst e
  obtain ⟨⟨⟨ds, gs, before, hw, hc⟩, hx⟩, hz'⟩ := hpre
  have hw' := DataW.Whole.of_heap (w' := w.forCall tape i) (by rfl) hw
  have hL : laidMetH C.prog laid (w.forCall tape i) := laidMetH.of_heap (w := (w.forCall tape i).memory) (by rfl) hx
  refine (law_contract hvars hres htb hspec K hz hl hT call (w.forCall tape i) (hF _ hL hsh) w.heap.size i.args ds gs before hval hw').mono fun e W' ⟨v, he, hp⟩ => ?_
  subst he
  exact ChangeSpec.post_blind hp
end Go.Ab
end
