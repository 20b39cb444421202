/- What a source does with packets in their order: the program's and the document's rule are one. No condition. -/
import Derived.Test.YtbijdlgffebenaaM10
namespace Go.Proofs
open Go.Ab

/-- What frames are made of. -/
structure FS where
  ck : Int
  o : List Un
  w : Int
  l : Int
  keys : Int
noncomputable def stepM (c : FrameConfig) (L : List Came) (σ : FS) (t : Thg) : FS × List Un :=
  let u := unitM c.fVideo σ.ck L t
  let p := putP c σ.o σ.w σ.l u.1
  (⟨u.2, p.o, p.w, p.l, if 0 < lenL p.out ∧ (nthI p.out 0).fKey = true then addI .i64 σ.keys 1 else σ.keys⟩, p.out)
noncomputable def framesM (c : FrameConfig) (L : List Came) : List Thg → FS → FS × List (List Un)
  | [], σ => (σ, [])
  | t :: r, σ =>
    let q := stepM c L σ t
    let z := framesM c L r q.1
    (z.1, if 0 < lenL q.2 then q.2 :: z.2 else z.2)

theorem unit_text {video : Bool} {ck : Int} {L : List Came} {t : Thg} (hL : ∀ c ∈ L, POk c.fP) : lenS (unitM video ck L t).1.fText ≤ 40 := (findP_ok hL t.fAt).tx
theorem unit_at {video : Bool} {ck : Int} {L : List Came} {t : Thg} (ht : Good t) : (unitM video ck L t).1.fAt = addI .i64 (unitM video ck L t).1.fAt 0 := by
  have h0 := ht.a0
  have h1 := ht.a1
  show t.fAt = addI .i64 t.fAt 0
  rw [addI_n (by omega) (by omega)]; omega
theorem step_held {c : FrameConfig} {L : List Came} {σ : FS} {t : Thg} (hL : ∀ c ∈ L, POk c.fP) (ht : Good t) (h : Held c σ.o) :
    Held c (stepM c L σ t).1.o ∧ FrameOk c.fVideo (stepM c L σ t).2 ∧ (putP c σ.o σ.w σ.l (unitM c.fVideo σ.ck L t).1).ok = decide (0 < lenL (stepM c L σ t).2) := by
  have := putP_ok h (unit_text hL) (unit_at ht) σ.w σ.l (u := (unitM c.fVideo σ.ck L t).1)
  exact ⟨this.1, this.2.1, this.2.2⟩
theorem frames_held {c : FrameConfig} {L : List Came} (hL : ∀ c ∈ L, POk c.fP) : ∀ (r : List Thg) (σ : FS), (∀ t ∈ r, Good t) → Held c σ.o → Held c (framesM c L r σ).1.o
  | [], _, _, h => h
  | t :: r, _, hg, h => frames_held hL r _ (fun t ht => hg t (.tail _ ht)) (step_held hL (hg t (.head _)) h).1

theorem key_of (f : List Un) : gFrameFrameKey ⟨f⟩ = some (decide (0 < lenL f ∧ (nthI f 0).fKey = true)) := by
  unfold gFrameFrameKey
  rw [ltI_d, need_t (show Under (decide (0 < lenL f)) true (InB 0 (lenL f)) from fun h => ⟨by omega, by simpa using h⟩), pickB_and]
  simp

theorem nodup_split {α : Type} {a : α} {l : List α} {f : α → Int} (h : ((a :: l).map f).Nodup) : (l.map f).Nodup := (List.nodup_cons.1 h).2

/-- The program. -/
theorem oframes (c : FrameConfig) (L : List Came) (hL : ∀ c ∈ L, POk c.fP) (xs P : List Thg) (hx : xs.length ≤ 1000000) (hg : ∀ t ∈ xs, Good t) (sq : ExtendSeq) (bad : Int) (cfg : ReorderConfig) (bg : Bool) (nx lo : Int) (bof : List (Int × Thg)) :
    ∀ (n i : Nat), xs.length - i = n → i ≤ xs.length → ((xs.drop i ++ P).map (·.fAt)).Nodup → ∀ (σ : FS) (acc : List FrameFrame) (cl : ExtendClock) (m : List (Int × Pk)), Held c σ.o → ClkRel cl σ.ck →
      m.Perm ((xs.drop i ++ P).map fun t => (t.fAt, normP (findP L t.fAt))) → acc.length ≤ i →
      ∃ cl' m', loopF (gIngressSourceFrames.loop1 xs) ((i : Int), sq, cl, bad, σ.keys, cfg, bg, nx, lo, bof, .mk c ⟨σ.o⟩ σ.w σ.l, m, acc) =
          some (.go (acc ++ (framesM c L (xs.drop i) σ).2.map FrameFrame.mk, sq, cl', bad, (framesM c L (xs.drop i) σ).1.keys, cfg, bg, nx, lo, bof, .mk c ⟨(framesM c L (xs.drop i) σ).1.o⟩ (framesM c L (xs.drop i) σ).1.w (framesM c L (xs.drop i) σ).1.l, m')) ∧
        ClkRel cl' (framesM c L (xs.drop i) σ).1.ck ∧ m'.Perm (P.map fun t => (t.fAt, normP (findP L t.fAt))) := by
  intro n
  induction n with
  | zero =>
    intro i hn hi hnd σ acc cl m hh hc hm ha
    have hi' : i = xs.length := by omega
    subst hi'
    have : gIngressSourceFrames.loop1 xs ((xs.length : Int), sq, cl, bad, σ.keys, cfg, bg, nx, lo, bof, .mk c ⟨σ.o⟩ σ.w σ.l, m, acc) = some (.out (.go (acc, sq, cl, bad, σ.keys, cfg, bg, nx, lo, bof, .mk c ⟨σ.o⟩ σ.w σ.l, m))) := by
      unfold gIngressSourceFrames.loop1
      simp only
      rw [ltI_d, lenL_def, decide_eq_false (by omega), cond_false]
    rw [loopF_eq, this, List.drop_length]
    rw [List.drop_length, List.nil_append] at hm
    exact ⟨cl, m, by simp [framesM], hc, hm⟩
  | succ n ih =>
    intro i hn hi hnd σ acc cl m hh hc hm ha
    have hlt : i < xs.length := by omega
    have hd := dropC hlt
    generalize ht : nthI xs (i : Int) = t at hd
    have htm : t ∈ xs := List.mem_of_mem_drop (i := i) (by rw [hd]; exact .head _)
    rw [hd] at hnd hm ⊢
    rw [List.cons_append] at hnd hm
    have hnd' := nodup_split hnd
    have hk : (keysM m).Nodup := by
      have : (keysM m).Perm (((t :: (xs.drop (i + 1) ++ P)).map fun t => (t.fAt, normP (findP L t.fAt))).map (·.1)) := keysM_perm hm
      rw [List.map_map] at this
      exact this.nodup_iff.2 hnd
    have hmem : (t.fAt, normP (findP L t.fAt)) ∈ m := hm.mem_iff.2 (by rw [List.map_cons]; exact .head _)
    have hget : getM eqI t.fAt zeroPk m = normP (findP L t.fAt) := getM_of hk hmem
    have hdel : (delM eqI t.fAt m).Perm ((xs.drop (i + 1) ++ P).map fun t => (t.fAt, normP (findP L t.fAt))) := delM_of hk (by rw [List.map_cons] at hm; exact hm)
    obtain ⟨cl1, u1, u2⟩ := ounit (IngressSource.mk (ReorderBuffer.mk cfg bg nx bof lo) (.mk c ⟨σ.o⟩ σ.w σ.l) sq cl m bad σ.keys) t σ.ck L hL hc hget
    obtain ⟨h1, h2, h3⟩ := step_held hL (hg t htm) hh (σ := σ)
    have hp := put_eq hh.sm (unit_text hL (video := c.fVideo) (ck := σ.ck) (t := t)) σ.w σ.l
    have hstep : gIngressSourceFrames.loop1 xs ((i : Int), sq, cl, bad, σ.keys, cfg, bg, nx, lo, bof, .mk c ⟨σ.o⟩ σ.w σ.l, m, acc) =
        some (.go (((i + 1 : Nat) : Int), sq, cl1, bad, (stepM c L σ t).1.keys, cfg, bg, nx, lo, bof, .mk c ⟨(stepM c L σ t).1.o⟩ (stepM c L σ t).1.w (stepM c L σ t).1.l, delM eqI t.fAt m, if 0 < lenL (stepM c L σ t).2 then acc ++ [⟨(stepM c L σ t).2⟩] else acc)) := by
      unfold gIngressSourceFrames.loop1
      simp only
      rw [ltI_d, lenL_def, decide_eq_true (by omega), cond_true, need_t ⟨by omega, by omega⟩, ht, u1, bind_so]
      simp only at hp ⊢
      rw [hp, bind_so]
      simp only
      rw [h3, notB_d, key_of]
      have hi1 : addI .i64 (i : Int) 1 = ((i + 1 : Nat) : Int) := by rw [addI_n (by omega) (by omega)]; omega
      have hst : (stepM c L σ t).2 = (putP c σ.o σ.w σ.l (unitM c.fVideo σ.ck L t).1).out := rfl
      by_cases hq : 0 < lenL (stepM c L σ t).2
      · rw [decide_eq_true hq, show (!true) = false from rfl, cond_false, bind_so, if_pos hq]
        have hap : AppB (lenL acc) 1 24 := ⟨by rw [lenL_def]; omega, by rw [lenL_def]; omega⟩
        have hks : (stepM c L σ t).1.keys = if 0 < lenL (putP c σ.o σ.w σ.l (unitM c.fVideo σ.ck L t).1).out ∧ (nthI (putP c σ.o σ.w σ.l (unitM c.fVideo σ.ck L t).1).out 0).fKey = true then addI .i64 σ.keys 1 else σ.keys := rfl
        rw [hks]
        by_cases hky : 0 < lenL (putP c σ.o σ.w σ.l (unitM c.fVideo σ.ck L t).1).out ∧ (nthI (putP c σ.o σ.w σ.l (unitM c.fVideo σ.ck L t).1).out 0).fKey = true
        · rw [decide_eq_true hky, cond_true, if_pos hky, bind_so, flC_go, need_t hap, hi1]; rfl
        · rw [decide_eq_false hky, cond_false, if_neg hky, bind_so, flC_go, need_t hap, hi1]; rfl
      · have hks : (stepM c L σ t).1.keys = σ.keys := by
          show (if 0 < lenL (putP c σ.o σ.w σ.l (unitM c.fVideo σ.ck L t).1).out ∧ _ then _ else _) = _
          rw [if_neg (fun h => hq h.1)]
        rw [decide_eq_false hq, show (!false) = true from rfl, cond_true, if_neg hq, hi1, hks]
        rfl
    obtain ⟨cl', m', e1, e2, e3⟩ := ih (i + 1) (by omega) (by omega) hnd' (stepM c L σ t).1 (if 0 < lenL (stepM c L σ t).2 then acc ++ [⟨(stepM c L σ t).2⟩] else acc) cl1 (delM eqI t.fAt m) h1 u2 hdel (by split; (simp; omega); omega)
    refine ⟨cl', m', ?_, e2, e3⟩
    rw [loopF_eq, hstep]
    dsimp only
    rw [e1]
    have hfr : framesM c L (t :: xs.drop (i + 1)) σ = ((framesM c L (xs.drop (i + 1)) (stepM c L σ t).1).1, if 0 < lenL (stepM c L σ t).2 then (stepM c L σ t).2 :: (framesM c L (xs.drop (i + 1)) (stepM c L σ t).1).2 else (framesM c L (xs.drop (i + 1)) (stepM c L σ t).1).2) := rfl
    rw [hfr]
    by_cases hq : 0 < lenL (stepM c L σ t).2
    · simp only [if_pos hq, List.append_assoc, List.map_cons, List.cons_append, List.nil_append]
    · simp only [if_neg hq]

/-- The document's source with such frames. -/
def srcF (X : Antiphonref11Source) (c : FrameConfig) (σ : FS) : Antiphonref11Source := .mk X.fSeq σ.ck X.fOrder (refOf c σ.o σ.w σ.l) X.fL X.fBad σ.keys

end Go.Proofs
