/- The law LadderPlays holds of its plain function. No condition. -/
import Derived.Test.YtdcfbacpklklcaaLc
namespace Go.Proofs
open Go.Ab

def tailN (p : Int → Bool) (R : List Int) : Int := ((R.reverse.takeWhile p).length : Int)
theorem tailN_app (p : Int → Bool) (R : List Int) (r : Int) : tailN p (R ++ [r]) = if p r then tailN p R + 1 else 0 := by
  unfold tailN
  rw [List.reverse_append]
  simp only [List.reverse_cons, List.reverse_nil, List.nil_append, List.cons_append, List.takeWhile_cons]
  cases p r <;> simp
theorem tailN_le (p : Int → Bool) (R : List Int) : 0 ≤ tailN p R ∧ tailN p R ≤ R.length := by
  unfold tailN
  have := (List.takeWhile_sublist (l := R.reverse) p).length_le
  rw [List.length_reverse] at this
  omega

structure RefOk (x : Antiphonref23Ladder) : Prop where
  n1 : lenL x.fNeeds ≤ 3
  nd : ∀ i, 0 ≤ i → i < lenL x.fNeeds → 0 ≤ nthI x.fNeeds i ∧ nthI x.fNeeds i ≤ 1099511627776
  at0 : 0 ≤ x.fAt
  at1 : x.fAt ≤ x.fMost
  mo : x.fMost < lenL x.fNeeds
  s0 : 0 ≤ x.fSpare
  s1 : x.fSpare ≤ 100
  r1 : x.fRates.length ≤ 1000
def badR (x : Antiphonref23Ladder) (r : Int) : Bool := decide (0 < x.fAt ∧ r < nthI x.fNeeds x.fAt)
def goodR (x : Antiphonref23Ladder) (r : Int) : Bool := decide (badR x r = false ∧ x.fAt < x.fMost ∧ nthI x.fNeeds (x.fAt + 1) + nthI x.fNeeds (x.fAt + 1) / 10 * x.fSpare ≤ r)
theorem bad_eq {x : Antiphonref23Ladder} (h : RefOk x) (r : Int) : gRef23Bad x r = some (badR x r) := by
  unfold gRef23Bad badR
  have := h.at0; have := h.at1; have := h.mo
  rw [need_t (under_of (show InB _ _ from ⟨by omega, by omega⟩)), pickB_and, ltI_d, ltI_d, Bool.decide_and]
theorem good_eq {x : Antiphonref23Ladder} (h : RefOk x) (r : Int) : gRef23Good x r = some (goodR x r) := by
  unfold gRef23Good
  have := h.at0; have := h.at1; have := h.mo; have := h.n1
  rw [bad_eq h, bind_so, pickB_or, leI_d]
  unfold goodR
  by_cases hb : badR x r = true
  · rw [hb]; rfl
  · have hb' : badR x r = false := by simpa using hb
    rw [hb']
    by_cases ha : x.fAt < x.fMost
    · have e : (false || decide (x.fMost ≤ x.fAt)) = false := by simp; omega
      obtain ⟨d0, d1⟩ := h.nd (x.fAt + 1) (by omega) (by omega)
      have sp := spare_le d0 d1 h.s0 h.s1
      have z : NonZ 10 := by decide
      rw [e, cond_false, addI_n (a := x.fAt) (by omega) (by omega), need_t (show InB _ _ from ⟨by omega, by omega⟩), need_t z, quoI_n d0 (by omega) (by omega), mulI_n (by omega) (by omega), addI_n (by omega) (by omega), leI_d]
      simp [ha]
    · have e : (false || decide (x.fMost ≤ x.fAt)) = true := by simp; omega
      rw [e, cond_true]
      simp [ha]

def predR (x : Antiphonref23Ladder) (ups : Bool) : Int → Bool := if ups then goodR x else badR x
theorem tail_loop {x : Antiphonref23Ladder} (h : RefOk x) (ups : Bool) : ∀ (k : Nat), k ≤ x.fRates.length → ∀ n : Int, 0 ≤ n → n + k ≤ 1000 →
    ∃ f, loopF (gRef23Tail.loop1 x ups) ((k : Int) - 1, n) = some f ∧ flC f some = some (n + tailN (predR x ups) (x.fRates.take k)) := by
  intro k
  induction k with
  | zero =>
    intro _ n _ _
    have e : leI 0 (((0 : Nat) : Int) - 1) = false := by decide
    refine ⟨.go n, ?_, ?_⟩
    · rw [loopF_eq]; unfold gRef23Tail.loop1; dsimp only; rw [e]; rfl
    · simp [tailN]
  | succ k ih =>
    intro hk n hn hnk
    have e0 : ((k + 1 : Nat) : Int) - 1 = (k : Int) := by omega
    have e : leI 0 (k : Int) = true := by rw [leI_d]; exact decide_eq_true (by omega)
    have b : InB (k : Int) (lenL x.fRates) := ⟨by omega, by unfold lenL; omega⟩
    have hget : nthI x.fRates (k : Int) = x.fRates[k]'(by omega) := by rw [nthI_nat, List.getD_eq_getElem?_getD, List.getElem?_eq_getElem (by omega)]; rfl
    have htk : x.fRates.take (k + 1) = x.fRates.take k ++ [nthI x.fRates (k : Int)] := by rw [hget]; exact List.take_succ_eq_append_getElem (by omega)
    have body : gRef23Tail.loop1 x ups ((k : Int), n) = some (if predR x ups (nthI x.fRates (k : Int)) then .go ((k : Int) - 1, n + 1) else .out (.out n)) := by
      unfold gRef23Tail.loop1
      dsimp only
      rw [e, cond_true, need_t (under_of b), need_t (under_of (by rw [good_eq h]; rfl)), need_t (under_of (under_of b)), need_t (under_of (under_of (by rw [bad_eq h]; rfl))), good_eq h, bad_eq h]
      simp only [getD_so, pickB_or, pickB_and, notB_d]
      rw [subI_n (by omega) (by omega), addI_n (by omega) (by omega)]
      unfold predR
      cases ups
      · cases hh : badR x (nthI x.fRates (k : Int)) <;> simp [hh]
      · cases hh : goodR x (nthI x.fRates (k : Int)) <;> simp [hh]
    rw [e0, loopF_eq, body, htk, tailN_app]
    by_cases hp : predR x ups (nthI x.fRates (k : Int)) = true
    · obtain ⟨f, hf, hv⟩ := ih (by omega) (n + 1) (by omega) (by omega)
      simp only [hp, if_true]
      refine ⟨f, hf, ?_⟩
      rw [hv]; congr 1; omega
    · simp only [hp]
      exact ⟨_, rfl, by simp⟩
theorem tail_eq {x : Antiphonref23Ladder} (h : RefOk x) (ups : Bool) : gRef23Tail x ups = some (tailN (predR x ups) x.fRates) := by
  unfold gRef23Tail
  have hl := h.r1
  obtain ⟨f, hf, hv⟩ := tail_loop h ups x.fRates.length (Nat.le_refl _) 0 (by omega) (by omega)
  rw [subI_n (by unfold lenL; omega) (by unfold lenL; omega)]
  unfold lenL
  rw [hf, bind_so, List.take_length, Int.zero_add] at *
  exact hv

/-! One step of both -/
structure Alike (l : LadderLadder) (x : Antiphonref23Ladder) (N : Int) : Prop where
  ok : LadOk l N
  d1 : 1 ≤ x.fDown
  u1 : 1 ≤ x.fUp
  c : l.fConfig = .mk x.fDown x.fUp x.fSpare
  n : l.fNeeds = x.fNeeds
  at_ : l.fAt = x.fAt
  mo : l.fMost = x.fMost
  mv : l.fMoves = x.fMoves
  ba : l.fBad = tailN (badR x) x.fRates
  go : l.fGood = tailN (goodR x) x.fRates
  len : x.fRates.length ≤ N

theorem step_eq (x : Antiphonref23Ladder) (to : Int) (h : addI .i64 x.fMoves 1 = x.fMoves + 1) : gRef23Step x to = some (.mk x.fDown x.fUp x.fSpare x.fNeeds to x.fMost (x.fMoves + 1) []) := by
  unfold gRef23Step; rw [h]

theorem both {l : LadderLadder} {x : Antiphonref23Ladder} {N : Int} (h : Alike l x N) (hN : N ≤ 500) (rate : Int) :
    ∃ y, gRef23Tick x rate = some (y, (tickF l rate).1) ∧ Alike (tickF l rate).2 y (N + 1) := by
  have ok := h.ok
  have hl := h.len
  have n1 := ok.n1; have a0 := ok.at0; have a1 := ok.at1; have mo := ok.mo; have m0 := ok.m0; have m1 := ok.m1
  have b0 := ok.b0; have b1 := ok.b1; have g0 := ok.g0; have g1 := ok.g1
  have s0 := ok.s0; have s1 := ok.s1
  rw [h.n] at n1 mo
  rw [h.at_] at a0 a1
  rw [h.mo] at a1 mo
  rw [h.c] at s0 s1
  rw [h.mv] at m0 m1
  have nd := ok.nd
  rw [h.n] at nd
  have ok2 := tick_ok ok rate
  have rk : RefOk (.mk x.fDown x.fUp x.fSpare x.fNeeds x.fAt x.fMost x.fMoves (appL (appL [] x.fRates) [rate])) :=
    ⟨n1, nd, a0, a1, mo, s0, s1, by simp only [appL, List.nil_append, List.length_append, List.length_singleton]; omega⟩
  unfold gRef23Tick
  rw [need_t (show AppB 0 (lenL x.fRates) 8 by unfold AppB lenL; omega), need_t (show AppB (lenL x.fRates) 1 8 by unfold AppB lenL; omega), tail_eq rk, tail_eq rk, bind_so, bind_so]
  have ea : appL (appL [] x.fRates) [rate] = x.fRates ++ [rate] := by simp [appL]
  have mm : addI .i64 x.fMoves 1 = x.fMoves + 1 := addI_n (by omega) (by omega)
  have ab : addI .i64 x.fAt 1 = x.fAt + 1 := addI_n (by omega) (by omega)
  have as : subI .i64 x.fAt 1 = x.fAt - 1 := subI_n (by omega) (by omega)
  -- the two predicates do not speak of the rates
  have pb : predR (.mk x.fDown x.fUp x.fSpare x.fNeeds x.fAt x.fMost x.fMoves (appL (appL [] x.fRates) [rate])) false = badR x := rfl
  have pg : predR (.mk x.fDown x.fUp x.fSpare x.fNeeds x.fAt x.fMost x.fMoves (appL (appL [] x.fRates) [rate])) true = goodR x := rfl
  rw [pb, pg]
  dsimp only
  rw [ea, tailN_app, tailN_app, ← h.ba, ← h.go, step_eq _ _ (by exact mm), step_eq _ _ (by exact mm), ab, as, leI_d, leI_d]
  have hd : l.fConfig.fDown = x.fDown := by rw [h.c]
  have hu : l.fConfig.fUp = x.fUp := by rw [h.c]
  have d1 := h.d1
  have u1 := h.u1
  have hbP : badP l rate ↔ badR x rate = true := by
    unfold badP badR
    rw [h.n, h.at_]
    simp; exact and_comm
  have hgP : badR x rate = false → (goodP l rate ↔ goodR x rate = true) := fun q => by
    unfold goodP goodR
    rw [h.n, h.at_, h.mo, h.c, q]
    simp
  have hgB : badR x rate = true → goodR x rate = false := fun q => by
    unfold goodR; rw [q]; simp
  have ln : (x.fRates ++ [rate]).length ≤ N + 1 := by simp; omega
  revert ok2
  unfold tickF
  by_cases hb : badR x rate = true
  · rw [if_pos (hbP.2 hb), hb, hgB hb, hd]
    simp only [if_true]
    by_cases hc : x.fDown ≤ l.fBad + 1
    · rw [if_pos hc, decide_eq_true hc, cond_true]
      intro ok2
      exact ⟨_, rfl, ⟨ok2, h.d1, h.u1, h.c, h.n, by show l.fAt - 1 = x.fAt - 1; rw [h.at_], h.mo, by show l.fMoves + 1 = x.fMoves + 1; rw [h.mv], rfl, rfl, by show (([] : List Int).length : Int) ≤ N + 1; simp; omega⟩⟩
    · rw [if_neg hc, decide_eq_false hc, cond_false]
      have e : decide (x.fUp ≤ (if (false : Bool) = true then l.fGood + 1 else 0)) = false := by simp; omega
      rw [e, cond_false]
      intro ok2
      refine ⟨_, rfl, ⟨ok2, h.d1, h.u1, h.c, h.n, h.at_, h.mo, h.mv, ?_, ?_, ln⟩⟩
      · show l.fBad + 1 = tailN (badR x) (x.fRates ++ [rate])
        rw [tailN_app, hb, h.ba]; rfl
      · show 0 = tailN (goodR x) (x.fRates ++ [rate])
        rw [tailN_app, hgB hb]; rfl
  · have hb' : badR x rate = false := by simpa using hb
    rw [if_neg (fun q => hb (hbP.1 q)), hb']
    have e : decide (x.fDown ≤ (if (false : Bool) = true then l.fBad + 1 else 0)) = false := by simp; omega
    rw [e, cond_false]
    by_cases hg : goodR x rate = true
    · rw [if_pos ((hgP hb').2 hg), hg, hu]
      simp only [if_true]
      by_cases hc : x.fUp ≤ l.fGood + 1
      · rw [if_pos hc, decide_eq_true hc, cond_true]
        intro ok2
        exact ⟨_, rfl, ⟨ok2, h.d1, h.u1, h.c, h.n, by show l.fAt + 1 = x.fAt + 1; rw [h.at_], h.mo, by show l.fMoves + 1 = x.fMoves + 1; rw [h.mv], rfl, rfl, by show (([] : List Int).length : Int) ≤ N + 1; simp; omega⟩⟩
      · rw [if_neg hc, decide_eq_false hc, cond_false]
        intro ok2
        refine ⟨_, rfl, ⟨ok2, h.d1, h.u1, h.c, h.n, h.at_, h.mo, h.mv, ?_, ?_, ln⟩⟩
        · show 0 = tailN (badR x) (x.fRates ++ [rate])
          rw [tailN_app, hb']; rfl
        · show l.fGood + 1 = tailN (goodR x) (x.fRates ++ [rate])
          rw [tailN_app, hg, h.go]; rfl
    · have hg' : goodR x rate = false := by simpa using hg
      rw [if_neg (fun q => hg ((hgP hb').1 q)), hg']
      have e : decide (x.fUp ≤ (if (false : Bool) = true then l.fGood + 1 else 0)) = false := by simp; omega
      rw [e, cond_false]
      intro ok2
      refine ⟨_, rfl, ⟨ok2, h.d1, h.u1, h.c, h.n, h.at_, h.mo, h.mv, ?_, ?_, ln⟩⟩
      · show 0 = tailN (badR x) (x.fRates ++ [rate])
        rw [tailN_app, hb']; rfl
      · show 0 = tailN (goodR x) (x.fRates ++ [rate])
        rw [tailN_app, hg']; rfl

/-! The law -/
def playsI (s : Int × LadderLadder × Antiphonref23Ladder) : Prop := 0 ≤ s.1 ∧ s.1 ≤ 200 ∧ Alike s.2.1 s.2.2 s.1
theorem plays_round (x5 : List Int) (s : Int × LadderLadder × Antiphonref23Ladder) (hI : playsI s) :
    RoundP playsI (fun t : Fl (LadderLadder × Antiphonref23Ladder) Bool => ∃ v, t = .go v) (fun s => (200 - s.1).toNat) s (gLaw23LadderPlays.loop2 x5 s) := by
  obtain ⟨h0, h1, ha⟩ := hI
  unfold gLaw23LadderPlays.loop2
  by_cases hc : s.1 < lenL x5 ∧ s.1 < 200
  case neg =>
    have e : pickB (ltI s.1 (lenL x5)) (ltI s.1 200) false = false := by simp [pickB_and, ltI_d]; omega
    rw [e, cond_false]
    exact ⟨_, rfl⟩
  have e : pickB (ltI s.1 (lenL x5)) (ltI s.1 200) false = true := by simp [pickB_and, ltI_d, hc]
  have b : InB s.1 (lenL x5) := ⟨h0, hc.1⟩
  obtain ⟨y, hy, ok⟩ := both ha (by omega) (nthI x5 s.1)
  rw [e, cond_true, need_t b, tick_eq ha.ok (by omega), bind_so, need_t b, hy, bind_so, addI_n (by omega) (by omega)]
  simp only [at_eq, moves_eq, Option.isSome_some, under_true, need_true, getD_so, ok.at_, ok.mv]
  have e2 : pickB (pickB (neB (tickF s.2.1 (nthI x5 s.1)).1 (tickF s.2.1 (nthI x5 s.1)).1) true (neI y.fAt y.fAt)) true (neI y.fMoves y.fMoves) = false := by
    simp [pickB_or, neB_d, neI_d]
  rw [e2, cond_false]
  exact ⟨⟨by dsimp only; omega, by dsimp only; omega, ok⟩, by dsimp only; omega⟩
theorem mask4 (a : Int) : ∃ b, bitsOp .and .i64 a 15 = b ∧ 0 ≤ b ∧ b ≤ 15 := by
  refine ⟨_, and_mask' (j := 4) (by omega) a 15 (by decide), Int.emod_nonneg _ (by decide), ?_⟩
  have := Int.emod_lt_of_pos a (b := 2 ^ 4) (by decide)
  omega
theorem plays_true (x0 x1 x2 x3 : Int) (x4 x5 : List Int) : gLaw23LadderPlays x0 x1 x2 x3 x4 x5 = some true := by
  unfold gLaw23LadderPlays
  obtain ⟨n, hn, nd⟩ := needs_ok x4
  obtain ⟨a, ha, a0, a1⟩ := mask3 x0
  obtain ⟨b, hb, b0, b1⟩ := mask3 x1
  obtain ⟨c, hc, c0, c1⟩ := mask4 x2
  have hk : CfgOk (.mk (1 + a) (1 + b) c) := by unfold CfgOk; simp only; omega
  rw [awake_t, hn, ha, hb, hc, addI_n (by omega) (by omega), addI_n (by omega) (by omega)]
  simp only [bind_so, notB_t, cond_false]
  rw [new_eq _ _ _ (nd_len nd), if_pos (nd_new hk nd)]
  simp only [bind_so, optC_some]
  have e : neI 0 0 = false := by decide
  rw [e, cond_false, mostI (by have := nd.n0; omega) (by have := nd.n1; omega)]
  obtain ⟨t, ht, v, rfl⟩ := loop_ends playsI _ _ (plays_round x5) (0, .mk (.mk (1 + a) (1 + b) c) n (mostF x3 (lenL n)) (mostF x3 (lenL n)) 0 0 0, .mk (1 + a) (1 + b) c n (mostF x3 (lenL n)) (mostF x3 (lenL n)) 0 [])
    ⟨by simp, by simp, ⟨nd_lad hk nd x3, by show 1 ≤ 1 + a; omega, by show 1 ≤ 1 + b; omega, rfl, rfl, rfl, rfl, rfl, rfl, rfl, by simp⟩⟩
  rw [ht]; rfl
end Go.Proofs
