/- Add and Remove of flows; any call on both. No condition. -/
import Derived.Test.YtnoeflijefijcaaYq
import Derived.Test.YtnoeflijefijcaaM03
namespace Go.Proofs
open Go.Ab

theorem vids_cons (f : Fw) (r : List Fw) : vids (f :: r) = if f.fVideo = true then f.fId :: vids r else vids r := by
  unfold vids
  rw [List.filter_cons]
  split <;> rfl
theorem vids_sub (F : List Fw) : (vids F).Sublist (F.map (·.fId)) := (List.filter_sublist).map _
theorem Rel.vlen {P : EgressOut} {X : RO} {t : Int} {n : Nat} (h : Rel P X t n) : (vids X.fL).length ≤ 1000 := by
  have := (vids_sub X.fL).length_le
  have := h.len
  simp only [List.length_map] at *; omega

theorem vids_ins {F : List Fw} {f : Fw} (hr : (F.map (·.fId)).Pairwise (· < ·)) (hn : f.fId ∉ F.map (·.fId)) :
    vids (insG (fun g => ltI f.fId g.fId) f F) = if f.fVideo = true then insG (fun i => ltI f.fId i) f.fId (vids F) else vids F := by
  have hmap : (insG (fun g : Fw => ltI f.fId g.fId) f F).map (·.fId) = insG (fun i => ltI f.fId i) f.fId (F.map (·.fId)) :=
    (insG_map (lt := fun g : Fw => ltI f.fId g.fId) (lt' := fun i => ltI f.fId i) (fun g : Fw => g.fId) (fun _ => rfl) f F).symm
  have hs1 : (vids (insG (fun g => ltI f.fId g.fId) f F)).Pairwise (· < ·) := by
    have : ((insG (fun g : Fw => ltI f.fId g.fId) f F).map (·.fId)).Pairwise (· < ·) := by rw [hmap]; exact insG_rise hr hn
    exact this.sublist (vids_sub _)
  have hp : (vids (insG (fun g => ltI f.fId g.fId) f F)).Perm (vids (f :: F)) := ((insG_perm _ _ _).filter _).map _
  have huniq : ∀ {a b : List Int}, a.Pairwise (· < ·) → b.Pairwise (· < ·) → a.Perm b → a = b := fun h1 h2 h3 =>
    List.Perm.eq_of_pairwise (le := fun a b : Int => a < b) (fun a b _ _ h1 h2 => by omega) h1 h2 h3
  have hvr : (vids F).Pairwise (· < ·) := hr.sublist (vids_sub _)
  rw [vids_cons] at hp
  by_cases hv : f.fVideo = true
  · rw [if_pos hv] at hp ⊢
    exact huniq hs1 (insG_rise hvr fun q => hn ((vids_sub _).subset q)) (hp.trans (insG_perm _ _ _).symm)
  · rw [if_neg hv] at hp ⊢
    exact huniq hs1 hvr hp

/-- Add. -/
theorem add_both {P : EgressOut} {X : RO} {t : Int} {n : Nat} (h : Rel P X t n) (hn : n + 1 ≤ 1000) {id : Int} (hid : -9223372036854775808 ≤ id ∧ id ≤ 9223372036854775807) (v : Bool) (q : Int) :
    ∃ P' X' e, gEgressOutAdd P id v q = some (e, P') ∧ gRef20Add X id v q = some (X', e) ∧ Rel P' X' t (n + 1) ∧ Cfg X X' ∧ X'.fCredit = X.fCredit ∧ X'.fSounds = X.fSounds ∧
      (id ∉ X.fL.map (·.fId) → (v = false ∨ (X.fMost ≤ q ∧ q ≤ 16777216)) → e = 0) ∧ (id ∈ X.fL.map (·.fId) → e = 10) ∧ (id ∉ X.fL.map (·.fId) → v = true → (q < X.fMost ∨ 16777216 < q) → e = 5) ∧
      ((X' = X ∧ e ≠ 0) ∨ (X'.fL = insG (fun g => ltI id g.fId) ⟨id, v, ⟨X.fFrames, X.fBytes, [], true⟩⟩ X.fL ∧ e = 0)) := by
  have hcr := h.credit
  have hso := h.sounds
  have hmo := h.most
  have hlen := h.len
  rcases findE h id with ⟨k, hk, e1, e2, e3⟩ | ⟨hno, e2, e3⟩
  · have hin : id ∈ X.fL.map (·.fId) := List.mem_map.2 ⟨_, List.getElem_mem hk, e1⟩
    refine ⟨P, X, 10, ?_, ?_, h.mono (by omega) hn, Cfg.refl X, rfl, rfl, fun q => absurd hin q, fun _ => rfl, fun q => absurd hin q, .inl ⟨rfl, by decide⟩⟩
    · unfold gEgressOutAdd
      rw [e3]
      rfl
    · unfold gRef20Add
      rw [e2, bind_so, leI_t (by omega)]
      rfl
  · by_cases hbad : v = true ∧ (q < X.fMost ∨ 16777216 < q)
    · obtain ⟨rfl, hb⟩ := hbad
      obtain ⟨b1, b2⟩ := h.sched.bad (id := id) hb
      refine ⟨P, X, 5, ?_, ?_, h.mono (by omega) hn, Cfg.refl X, rfl, rfl, fun _ q => ?_, fun q => absurd q hno, fun _ _ _ => rfl, .inl ⟨rfl, by decide⟩⟩
      · unfold gEgressOutAdd
        rw [e3, optC_none, b1]
        rfl
      · unfold gRef20Add
        rw [e2, bind_so, leI_f (by omega), b2]
        rfl
      · exfalso
        rcases q with z | z
        · cases z
        · obtain ⟨z1, z2⟩ := z
          rcases hb with z3 | z3 <;> omega
    · have hnv : id ∉ vids X.fL := fun q => hno ((vids_sub _).subset q)
      have hgood : v = true → X.fMost ≤ q ∧ q ≤ 16777216 := fun e => by
        have h1 : ¬ (q < X.fMost ∨ 16777216 < q) := fun z => hbad ⟨e, z⟩
        omega
      -- the schedule
      obtain ⟨s', x', hsP, hsX, hsR⟩ : ∃ s' x', (v = true → gDrrSchedAdd P.fSched id q = some (0, s')) ∧ (v = true → gRef19Add X.fS id q = some (x', 0)) ∧
          ((v = false → s' = P.fSched ∧ x' = X.fS) ∧ SRel s' x' X.fMost (vids (insG (fun g => ltI id g.fId) ⟨id, v, ⟨X.fFrames, X.fBytes, [], true⟩⟩ X.fL))) := by
        have hvi := vids_ins (F := X.fL) (f := ⟨id, v, ⟨X.fFrames, X.fBytes, [], true⟩⟩) h.flows.rise hno
        simp only at hvi
        cases v with
        | true =>
          rw [if_pos rfl] at hvi
          obtain ⟨s', x', q1, q2, q3⟩ := h.sched.add hmo.1 h.vlen (id := id) (q := q) (hgood rfl).1 (hgood rfl).2 hnv
          exact ⟨s', x', fun _ => q1, fun _ => q2, (fun q => by cases q), by rw [hvi]; exact q3⟩
        | false =>
          rw [if_neg (by decide)] at hvi
          exact ⟨P.fSched, X.fS, (fun q => by cases q), (fun q => by cases q), fun _ => ⟨rfl, rfl⟩, by rw [hvi]; exact h.sched⟩
      obtain ⟨hsF, hsR⟩ := hsR
      have hperm : (insG (fun g : Fw => ltI id g.fId) ⟨id, v, ⟨X.fFrames, X.fBytes, [], true⟩⟩ X.fL).Perm (⟨id, v, ⟨X.fFrames, X.fBytes, [], true⟩⟩ :: X.fL) := insG_perm _ _ _
      have hqn : QOk ⟨X.fFrames, X.fBytes, [], true⟩ := qok_new h.frames h.bytes
      have hFR : FR (setM eqI id ⟨qOf ⟨X.fFrames, X.fBytes, [], true⟩, v⟩ P.fFlows) (insG (fun g => ltI id g.fId) ⟨id, v, ⟨X.fFrames, X.fBytes, [], true⟩⟩ X.fL) := by
        refine ⟨?_, ?_, fun f hf => ?_, fun f hf => ?_, ?_⟩
        · have hk' : id ∉ keysM P.fFlows := fun q => hno (h.flows.keys.mem_iff.1 q)
          rw [setM_no hk']
          refine List.Perm.trans ?_ (hperm.map rowF).symm
          rw [List.map_cons]
          exact (List.perm_append_comm.trans ((h.flows.perm).cons _))
        · rw [← insG_map (lt := fun g : Fw => ltI id g.fId) (lt' := fun i => ltI id i) (fun g : Fw => g.fId) (fun _ => rfl) (⟨id, v, ⟨X.fFrames, X.fBytes, [], true⟩⟩ : Fw) X.fL]
          exact insG_rise h.flows.rise hno
        · rcases List.mem_cons.1 (hperm.mem_iff.1 hf) with rfl | hf
          · exact hqn
          · exact h.flows.ok f hf
        · rcases List.mem_cons.1 (hperm.mem_iff.1 hf) with rfl | hf
          · exact hid
          · exact h.flows.ids f hf
        · have hl1 := hperm.length_eq
          rw [List.length_cons] at hl1
          refine Nat.le_trans (Nat.le_of_eq hl1) ?_
          have := h.many
          omega
      have htot : tot (insG (fun g : Fw => ltI id g.fId) ⟨id, v, ⟨X.fFrames, X.fBytes, [], true⟩⟩ X.fL) = tot X.fL := by
        have : tot (insG (fun g : Fw => ltI id g.fId) ⟨id, v, ⟨X.fFrames, X.fBytes, [], true⟩⟩ X.fL) = tot (⟨id, v, ⟨X.fFrames, X.fBytes, [], true⟩⟩ :: X.fL) := (hperm.map fun f : Fw => f.fQ.fL.length).sum_nat
        rw [this, tot_cons]; simp
      have hrel : Rel ⟨P.fConfig, setM eqI id ⟨qOf ⟨X.fFrames, X.fBytes, [], true⟩, v⟩ P.fFlows, s', P.fCredit, P.fSounds⟩
          ⟨X.fFrames, X.fBytes, X.fAge, X.fMost, X.fGuard, insG (fun g => ltI id g.fId) ⟨id, v, ⟨X.fFrames, X.fBytes, [], true⟩⟩ X.fL, x', X.fCredit, X.fSounds⟩ t (n + 1) := by
        refine ⟨h.cfg, h.frames, h.bytes, h.most, h.guard, hFR, fun f hf => ?_, fun f hf => ?_, hsR, h.credit, ⟨hso.1, hso.2.1, by simp only; rw [htot]; omega⟩, ?_, ⟨h.time.1, by have := h.time.2; omega⟩, hn⟩
        · rcases List.mem_cons.1 (hperm.mem_iff.1 hf) with rfl | hf
          · exact ⟨rfl, rfl⟩
          · exact h.qcfg f hf
        · rcases List.mem_cons.1 (hperm.mem_iff.1 hf) with rfl | hf
          · intro y hy; cases hy
          · exact h.items f hf
        · have hl1 := hperm.length_eq
          rw [List.length_cons] at hl1
          refine Nat.le_trans (Nat.le_of_eq hl1) ?_
          have := h.many
          omega
      have hc1 : P.fConfig.fFrames = X.fFrames := by rw [h.cfg]
      have hc2 : P.fConfig.fBytes = X.fBytes := by rw [h.cfg]
      have hfin : ∀ X1 : RO, X1.fL = X.fL → X1.fFrames = X.fFrames → X1.fBytes = X.fBytes → X1.fAge = X.fAge → X1.fMost = X.fMost → X1.fGuard = X.fGuard → X1.fCredit = X.fCredit → X1.fSounds = X.fSounds →
          ((loopF (gRef20Add.loop2 id (X1, v)) (0, false, [])).bind fun f => flC f fun (v2 : Bool × List Antiphonref20Flow) =>
            ((bif (notB v2.1) then (need (AppB (lenL v2.2) 1 64) <| some (.go (appL v2.2 [(Antiphonref20Flow.mk id v (Antiphonref18Queue.mk X1.fFrames X1.fBytes [] true))]))) else (some (.go v2.2))
              : Option (Fl (List Antiphonref20Flow) (Antiphonref20Out × Int))).bind fun f => flC f fun (v4 : List Antiphonref20Flow) =>
              some ((Antiphonref20Out.mk X1.fFrames X1.fBytes X1.fAge X1.fMost X1.fGuard v4 X1.fS X1.fCredit X1.fSounds), 0))) =
          some (⟨X.fFrames, X.fBytes, X.fAge, X.fMost, X.fGuard, insG (fun g => ltI id g.fId) ⟨id, v, ⟨X.fFrames, X.fBytes, [], true⟩⟩ X.fL, X1.fS, X.fCredit, X.fSounds⟩, (0 : Int)) := by
        intro X1 y1 y2 y3 y4 y5 y6 y7 y8
        have hins := ins_loop (l := X1.fL) (lt := fun f : Fw => ltI id f.fId) (x := ⟨id, v, ⟨X1.fFrames, X1.fBytes, [], true⟩⟩) (w := 64) (by omega) (by rw [y1]; omega) (body := gRef20Add.loop2 id (X1, v)) (fun s => rfl)
        rw [← y1, ← y2, ← y3, ← y4, ← y5, ← y6, ← y7, ← y8]
        rcases hins with e | ⟨e, e'⟩
        · rw [e]; rfl
        · rw [e]
          simp only [bind_so, flC_go, notB_t', cond_true]
          rw [need_t (appB_1 _ (by rw [y1]; omega) (by omega)), app_eq, ← e']
          rfl
      refine ⟨_, _, 0, ?_, ?_, hrel, ⟨rfl, rfl, rfl, rfl, rfl⟩, rfl, rfl, fun _ _ => rfl, fun q => absurd q hno, fun _ q1 q2 => absurd ⟨q1, q2⟩ hbad, .inr ⟨rfl, rfl⟩⟩
      · unfold gEgressOutAdd
        rw [e3, optC_none, hc1, hc2, qnew_ok h.frames h.bytes]
        cases v with
        | true =>
          rw [hsP rfl]
          rfl
        | false =>
          obtain ⟨rfl, _⟩ := hsF rfl
          rfl
      · unfold gRef20Add
        rw [e2, bind_so, leI_f (by omega), cond_false]
        cases v with
        | true =>
          rw [hsX rfl]
          simp only [cond_true, bind_so]
          rw [neI_f rfl]
          simp only [cond_false, bind_so, flC_go]
          exact hfin ⟨X.fFrames, X.fBytes, X.fAge, X.fMost, X.fGuard, X.fL, x', X.fCredit, X.fSounds⟩ rfl rfl rfl rfl rfl rfl rfl rfl
        | false =>
          obtain ⟨_, rfl⟩ := hsF rfl
          simp only [cond_false, bind_so, flC_go]
          exact hfin X rfl rfl rfl rfl rfl rfl rfl rfl
end Go.Proofs
