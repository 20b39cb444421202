/- Put, Break, the clock's tick: the outlet's and the reference's are the same. No condition. -/
import Derived.Test.YtnoeflijefijcaaYx
import Derived.Test.YtnoeflijefijcaaEfD
namespace Go.Proofs
open Go.Ab

theorem rall_ok (id : Int) {l : List It} (hl : l.length ≤ 1000000) : gRef20All id l = some (mkS id l) := by
  unfold gRef20All
  rw [all_gen hl (fun s => by unfold gRef20All.loop1; rfl)]
  rfl

theorem Rel.mono {P : EgressOut} {X : RO} {t : Int} {n n' : Nat} (h : Rel P X t n) (hn : n ≤ n') (hn' : n' ≤ 1000) : Rel P X t n' := by
  have h1 := h.sounds
  have h2 := h.time
  have h3 := h.many
  exact ⟨h.cfg, h.frames, h.bytes, h.most, h.guard, h.flows, h.qcfg, h.items, h.sched, h.credit, ⟨h1.1, h1.2.1, by omega⟩, by omega, ⟨h2.1, by omega⟩, hn'⟩

/-- What stays: the configuration. -/
structure Cfg (X X' : RO) : Prop where
  frames : X'.fFrames = X.fFrames
  bytes : X'.fBytes = X.fBytes
  age : X'.fAge = X.fAge
  most : X'.fMost = X.fMost
  guard : X'.fGuard = X.fGuard
theorem Cfg.refl (X : RO) : Cfg X X := ⟨rfl, rfl, rfl, rfl, rfl⟩

theorem findE {P : EgressOut} {X : RO} {t : Int} {n : Nat} (h : Rel P X t n) (id : Int) :
    (∃ k, ∃ hk : k < X.fL.length, X.fL[k].fId = id ∧ gRef20Find X id = some (k : Int) ∧ findM eqI id P.fFlows = some ⟨qOf X.fL[k].fQ, X.fL[k].fVideo⟩) ∨
    (id ∉ X.fL.map (·.fId) ∧ gRef20Find X id = some (-1) ∧ findM eqI id P.fFlows = none) := by
  have hlen := h.len
  rcases find20_ok (X := X) (by omega) id with ⟨k, hk, e1, e2⟩ | ⟨hno, e2⟩
  · exact .inl ⟨k, hk, e1, e2, by rw [← e1]; exact h.flows.find (List.getElem_mem hk)⟩
  · exact .inr ⟨hno, e2, h.flows.miss hno⟩

/-- Put. -/
theorem put_both {P : EgressOut} {X : RO} {t : Int} {n : Nat} (h : Rel P X t n) (hn : n + 1 ≤ 1000) (id : Int) (x : It) (hx : x.fTick = t) :
    ∃ P' X' l b, gEgressOutPut P id x = some (l, b, P') ∧ gRef20Put X id x = some (X', l, b) ∧ Rel P' X' t (n + 1) ∧ l.length ≤ 1000 ∧ Cfg X X' ∧ X'.fCredit = X.fCredit ∧ X'.fSounds = X.fSounds ∧
      ((X' = X ∧ (id ∉ X.fL.map (·.fId) ∨ X.fMost < x.fSize)) ∨ ∃ k, ∃ hk : k < X.fL.length, ∃ q, X.fL[k].fId = id ∧ X'.fL = X.fL.set k (withQ X.fL[k] q) ∧
        (∃ l0, gRef18Put X.fL[k].fQ ⟨x.fN, x.fSize, x.fTick, pickB x.fKey true (notB X.fL[k].fVideo)⟩ = some (q, l0, b)) ∧ (∃ d, d ++ q.fL = X.fL[k].fQ.fL ∨ d ++ q.fL = X.fL[k].fQ.fL ++ [⟨x.fN, x.fSize, x.fTick, pickB x.fKey true (notB X.fL[k].fVideo)⟩])) := by
  have hcr := h.credit
  have hso := h.sounds
  have hmost : P.fConfig.fMost = X.fMost := by rw [h.cfg]
  rcases findE h id with ⟨k, hk, e1, e2, e3⟩ | ⟨hno, e2, e3⟩
  · by_cases hm : X.fMost < x.fSize
    · refine ⟨P, X, [], false, ?_, ?_, h.mono (by omega) hn, by simp, Cfg.refl X, rfl, rfl, .inl ⟨rfl, .inr hm⟩⟩
      · unfold gEgressOutPut
        rw [e3, optC_some, hmost, ltI_t hm, cond_true]
      · unfold gRef20Put
        rw [e2, bind_so, ltI_t hm, pickB_or]
        simp
    · have hmem := List.getElem_mem hk
      have hq := h.flows.ok _ hmem
      obtain ⟨q', l, b, p1, p2, p3, p4, p5, p6, p7⟩ := put_ok hq (⟨x.fN, x.fSize, x.fTick, pickB x.fKey true (notB X.fL[k].fVideo)⟩ : It)
      have hsm := hq.small
      have hc := h.qcfg _ hmem
      have hlen := congrArg List.length p6
      have hll : l.length + q'.fL.length ≤ X.fL[k].fQ.fL.length + 1 := by cases b <;> simp at hlen <;> omega
      have htot := set_tot hk q'
      have htk := tot_get hk
      have hrel := h.set hk p3 (by rw [p4, p5]; exact hc) (fun y hy => by
          have hy' : y ∈ l ++ q'.fL := List.mem_append_right _ hy
          rw [p6] at hy'
          cases b with
          | false => exact h.items _ hmem y hy'
          | true =>
            rcases List.mem_append.1 hy' with q | q
            · exact h.items _ hmem y q
            · rw [List.mem_singleton.1 q]
              have := h.time
              simp only
              omega) h.sched (c := X.fCredit) hcr.2 (so := X.fSounds) (n' := n + 1) (by omega) hn (by omega)
      have hlb : l.length ≤ 1000 := by omega
      refine ⟨_, _, mkS id l, b, ?_, ?_, hrel, by simp [mkS]; exact hlb, ⟨rfl, rfl, rfl, rfl, rfl⟩, rfl, rfl, .inr ⟨k, hk, q', e1, rfl, ⟨l, p2⟩, l, ?_⟩⟩
      · unfold gEgressOutPut
        rw [e3, optC_some, hmost, ltI_f hm, cond_false, p1]
        simp only [bind_so]
        rw [eall_ok id (by omega)]
        simp only [bind_so]
        rw [e1, hcr.1, hso.1]
      · unfold gRef20Put
        rw [e2, bind_so, ltI_f hm, ltI_f (by omega)]
        rw [show pickB false true false = false from rfl, cond_false, need_t (under_of (inb_n hk)), need_t (inb_n hk), nthI_n hk, p2]
        simp only [bind_so]
        rw [set20_ok (by have := h.len; omega) hk]
        simp only [bind_so]
        rw [rall_ok id (by omega)]
        rfl
      · cases b with
        | true => exact .inr p6
        | false => exact .inl p6
  · refine ⟨P, X, [], false, ?_, ?_, h.mono (by omega) hn, by simp, Cfg.refl X, rfl, rfl, .inl ⟨rfl, .inl hno⟩⟩
    · unfold gEgressOutPut
      rw [e3]
      rfl
    · unfold gRef20Put
      rw [e2, bind_so, ltI_t (by omega)]
      rfl

/-- A later clock. -/
theorem Rel.later {P : EgressOut} {X : RO} {t t' : Int} {n : Nat} (h : Rel P X t n) (h1 : t ≤ t') (h2 : t' ≤ t + 1000) (hn : n + 1 ≤ 1000) : Rel P X t' (n + 1) := by
  have hs := h.sounds
  have ht := h.time
  have hm := h.many
  exact ⟨h.cfg, h.frames, h.bytes, h.most, h.guard, h.flows, h.qcfg, fun f hf x hx => (have := h.items f hf x hx; ⟨this.1, this.2.1, by omega⟩), h.sched, h.credit, ⟨hs.1, hs.2.1, by omega⟩, by omega, ⟨by omega, by omega⟩, hn⟩

/-- The same flow, with a rest of what waited. -/
def RestOf (f g : Fw) : Prop := f.fId = g.fId ∧ f.fVideo = g.fVideo ∧ ∃ d, d ++ g.fQ.fL = f.fQ.fL

inductive RestL : List Fw → List Fw → Prop
  | nil : RestL [] []
  | cons {f g p q} : RestOf f g → RestL p q → RestL (f :: p) (g :: q)
theorem RestL.refl : ∀ p : List Fw, RestL p p
  | [] => .nil
  | _f :: r => .cons ⟨rfl, rfl, [], rfl⟩ (RestL.refl r)
theorem tot_cons (f : Fw) (r : List Fw) : tot (f :: r) = f.fQ.fL.length + tot r := by simp [tot]

end Go.Proofs
