/- The clock, flushing, and what is missing. No condition. -/
import Derived.Test.YtbijdlgffebenaaGreatM09
import Derived.Test.YtbijdlgffebenaaGreatRt
namespace Go.Proofs
open Go.Ab

def tickS (x : RBf) (now : Int) : RBf × List Thg := whileS (cTick now) x.fL.length x
theorem rtick_loop (now : Int) (hn0 : 0 ≤ now) (hn1 : now ≤ 1000000000000) (f : Nat) (x : RBf) (acc : List Thg) (hl : x.fL.length ≤ f) (h : Ok x) (hb : acc.length + x.fL.length ≤ 2000000) :
    loopF (gag.loop1 now) (acc, x) = some (.go (acc ++ (whileS (cTick now) f x).2, (whileS (cTick now) f x).1)) := by
  have hstop : ∀ (acc : List Thg) (x : RBf), Ok x → cTick now x = false → gag.loop1 now (acc, x) = some (.out (.go (acc, x))) := fun acc x h hc => by
    unfold gag.loop1
    cases hL : x.fL with
    | nil =>
      have : ltI 0 (lenL x.fL) = false := ltI_f (by rw [hL, lenL_nil]; omega)
      rw [hL] at this
      simp only [this]
      rw [Lk (by intro e; cases e)]; rfl
    | cons t r =>
      simp only [cTick, hL, decide_eq_false_iff_not] at hc
      obtain ⟨_, ht0, ht1⟩ := h.at_ t (by rw [hL]; exact .head _)
      have hp : ltI 0 (lenL (t :: r)) = true := ltI_t (by rw [lenL_def]; simp only [List.length_cons]; omega)
      simp only [nthI_zero]
      rw [Lk (under_of ⟨by omega, by rw [lenL_def]; simp only [List.length_cons]; omega⟩), hp, subI_n (by omega) (by omega), leI_f hc]; rfl
  induction f generalizing x acc with
  | zero =>
    have hL : x.fL = [] := List.eq_nil_of_length_eq_zero (by omega)
    rw [loopF_eq, hstop acc x h (by simp [cTick, hL])]
    simp [whileS]
  | succ f ih =>
    rw [loopF_eq]
    cases hh : cTick now x with
    | false =>
      rw [hstop acc x h hh]
      simp [whileS, hh]
    | true =>
      have hne := cTick_ne now x hh
      obtain ⟨ep, q1, q2⟩ := rskip_step h hne hb
      cases hL : x.fL with
      | nil => exact absurd hL hne
      | cons t r =>
        have : gag.loop1 now (acc, x) = some (.go (acc ++ (skipS x).2, (skipS x).1)) := by
          have hc := hh
          simp only [cTick, hL, decide_eq_true_eq] at hc
          obtain ⟨_, ht0, ht1⟩ := h.at_ t (by rw [hL]; exact .head _)
          have hp : ltI 0 (lenL x.fL) = true := ltI_t (by rw [lenL_def, hL]; simp only [List.length_cons]; omega)
          have hn : nthI x.fL 0 = t := by rw [hL]; rfl
          unfold gag.loop1
          simp only [hn, hp, pickB_t]
          rw [Lk (under_of ⟨by omega, by rw [lenL_def, hL]; simp only [List.length_cons]; omega⟩), subI_n (by omega) (by omega), leI_t hc]
          simp only [cond_true, q1, Ld]
          rw [Lk q2]; rfl
        rw [this]
        obtain ⟨k1, k2, k3⟩ := skip_ok h hL
        simp only
        rw [ih (skipS x).1 (acc ++ (skipS x).2) (by omega) k1 (by simp only [List.length_append]; omega)]
        simp [whileS, hh]

theorem rtick {x : RBf} (h : Inv x) {now : Int} (hn0 : 0 ≤ now) (hn1 : now ≤ 1000000000000) : gag x now = some ((tickS x now).1, (tickS x now).2) := by
  unfold gag
  rw [rtick_loop now hn0 hn1 x.fL.length x [] (Nat.le_refl _) h.toOk (by have := h.len; simp only [List.length_nil]; omega)]
  simp [tickS]
theorem otick {b : Th} {x : RBf} (hr : Rel b x) (h : Inv x) {now : Int} (hn0 : 0 ≤ now) (hn1 : now ≤ 1000000000000) : ∃ b', gm b now = some ((tickS x now).2, b') ∧ Rel b' (tickS x now).1 := by
  obtain ⟨s', g1, g2⟩ := otick_loop now hn0 hn1 x.fL.length x [] _ (Nat.le_refl _) (oi_of hr []) h.toOk (by have := h.len; simp only [List.length_nil]; omega)
  unfold gm
  rw [g1]
  simp only [Ld, flC_go]
  refine ⟨_, ?_, g2.2⟩
  rw [g2.1]; rfl
theorem while_inv (c : RBf → Bool) (hc : ∀ x, c x = true → x.fL ≠ []) {x : RBf} (h : Inv x) : Inv (whileS c x.fL.length x).1 ∧ c (whileS c x.fL.length x).1 = false := by
  obtain ⟨w1, w2, w3⟩ := while_ok c hc x.fL.length x h.toOk (Nat.le_refl _)
  obtain ⟨m1, m2, m3⟩ := whileS_most c x.fL.length x
  refine ⟨{ w1 with m0 := by rw [m1]; exact h.m0, m1 := by rw [m1]; exact h.m1, ml := ?_, bg := fun e => ?_ }, w2⟩
  · rw [m1]
    have := h.ml
    rw [lenL_def] at this ⊢
    omega
  · rw [m2] at e
    obtain ⟨e1, e2⟩ := h.bg e
    have : whileS c x.fL.length x = (x, []) := by rw [e1]; rfl
    rw [this]; exact ⟨e1, e2⟩
theorem tick_inv {x : RBf} (h : Inv x) (now : Int) : Inv (tickS x now).1 := (while_inv (cTick now) (cTick_ne now) h).1
/-! ### What is missing -/
def fillS (most : Int) : Nat → Int → List Int → List Int
  | 0, _, out => out
  | f + 1, at_, out => if lenL out < most then fillS most f (at_ + 1) (out ++ [at_]) else out
def missS (most : Int) : Int → List Int → List Thg → List Int
  | _, out, [] => out
  | at_, out, t :: r => missS most (t.fAt + 1) (fillS most (t.fAt - at_).toNat at_ out) r

theorem fill_len (most : Int) : ∀ (f : Nat) (a : Int) (out : List Int), lenL (fillS most f a out) ≤ max (lenL out) most
  | 0, a, out => by simp only [fillS]; omega
  | f + 1, a, out => by
    unfold fillS
    split
    · have := fill_len most f (a + 1) (out ++ [a])
      have e : lenL (out ++ [a]) = lenL out + 1 := by simp [lenL]
      omega
    · omega

theorem fill_loop (x : RBf) (most : Int) (hm : most ≤ 1000) (s1 : Int × Int × List Int) : ∀ (f : Nat) (a : Int) (out : List Int), (((nthI x.fL s1.1).fAt) - a).toNat = f → -1000000000000 ≤ a → ((nthI x.fL s1.1).fAt) ≤ 1000000000000 → lenL out ≤ 1000 →
    loopF (gh.loop2 x most s1) (a, out) = some (.go (fillS most f a out))
  | 0, a, out, hf, h0, h1, hl => by
    rw [loopF_eq]
    have : gh.loop2 x most s1 (a, out) = some (.out (.go out)) := by
      unfold gh.loop2
      rw [ltI_f (by simp only; omega)]; rfl
    rw [this]; rfl
  | f + 1, a, out, hf, h0, h1, hl => by
    rw [loopF_eq]
    by_cases q : lenL out < most
    · rw [show fillS most (f + 1) a out = fillS most f (a + 1) (out ++ [a]) from if_pos q]
      have : gh.loop2 x most s1 (a, out) = some (.go (a + 1, out ++ [a])) := by
        unfold gh.loop2
        rw [ltI_t (by simp only; omega), ltI_t q]
        simp only [pickB_t, cond_true]
        rw [need_app8 _ (lenL_nn _) (by decide) (by omega), addI_n (by omega) (by omega)]; rfl
      rw [this]
      exact fill_loop x most hm s1 f (a + 1) (out ++ [a]) (by omega) (by omega) h1 (by
        have e : lenL (out ++ [a]) = lenL out + 1 := by simp [lenL]
        omega)
    · rw [show fillS most (f + 1) a out = out from if_neg q]
      have : gh.loop2 x most s1 (a, out) = some (.out (.go out)) := by
        unfold gh.loop2
        rw [ltI_t (by simp only; omega), ltI_f q]; rfl
      rw [this]

theorem rmissing {x : RBf} (h : Ok x) {most : Int} (hm0 : 0 ≤ most) (hm : most ≤ 1000) : gh x most = some (missS most x.fg [] x.fL) := by
  have key : ∀ (k i : Nat) (a : Int) (out : List Int), x.fL.length - i = k → i ≤ x.fL.length → 0 ≤ a → a ≤ 1000000000000 → lenL out ≤ most →
      loopF (gh.loop1 x most) ((i : Int), a, out) = some (.go (missS most a out (x.fL.drop i))) := by
    intro k
    induction k with
    | zero =>
      intro i a out hk hi _ _ _
      have hil : i = x.fL.length := by omega
      rw [loopF_eq]
      have : gh.loop1 x most ((i : Int), a, out) = some (.out (.go out)) := by
        unfold gh.loop1
        rw [ltI_f (by rw [lenL_def]; simp only; omega)]; rfl
      rw [this, hil, List.drop_length]; rfl
    | succ k ih =>
      intro i a out hk hi ha ha1 hlo
      have hlt : i < x.fL.length := by omega
      have hlen := h.len
      have hin : InB (i : Int) (lenL x.fL) := ⟨by omega, by rw [lenL_def]; omega⟩
      rw [drop_cons' hlt]
      have hn : nthI x.fL (i : Int) ∈ x.fL := by
        have : nthI x.fL (i : Int) = x.fL[i] := by simp [nthI, hlt]
        rw [this]; exact List.getElem_mem _
      have hat := (h.at_ _ hn).1
      have hup := h.up.mem _ hn
      have hnn := h.nn
      rw [loopF_eq]
      have : gh.loop1 x most ((i : Int), a, out) = some (.go (((i + 1 : Nat) : Int), (nthI x.fL (i : Int)).fAt + 1, fillS most ((nthI x.fL (i : Int)).fAt - a).toNat a out)) := by
        unfold gh.loop1
        rw [ltI_t hin.2]
        simp only [cond_true]
        rw [Lk hin, fill_loop x most hm ((i : Int), a, out) _ a out rfl (by omega) (by simp only; omega) (by omega)]
        simp only [Ld, flC_go]
        rw [addI_n (by omega) (by omega), addI_n (by omega) (by omega)]; rfl
      rw [this]
      simp only
      rw [ih (i + 1) _ _ (by omega) (by omega) (by omega) (by omega) (by have := fill_len most ((nthI x.fL (i : Int)).fAt - a).toNat a out; omega)]
      rfl
  have := key x.fL.length 0 x.fg [] (by omega) (by omega) h.nn h.nb (by simpa using hm0)
  unfold gh
  simp only [Int.natCast_zero, List.drop_zero] at this
  rw [this]
  simp

theorem nthI_map {α β : Type} [Inhabited α] [Inhabited β] {f : α → β} (hd : f default = default) (l : List α) (n : Int) : nthI (l.map f) n = f (nthI l n) := by
  simp only [nthI, List.getD_eq_getElem?_getD, List.getElem?_map]
  cases l[n.toNat]? <;> simp [hd]

theorem omissing {b : Th} {x : RBf} (hr : Rel b x) (h : Ok x) {most : Int} (hm0 : 0 ≤ most) (hm : most ≤ 1000) : ga b most = some (missS most x.fg [] x.fL) := by
  rw [← rmissing h hm0 hm]
  have hk : sortL (keysM b.fOf) = x.fL.map (·.fAt) := sortL_of hr.mp.keys (h.up.pair.imp fun h => by omega)
  have hb : KeysB (keysM b.fOf) := KeysB_of (fun k q => by
    obtain ⟨u, hu1, rfl⟩ := hr.mp.has.1 q
    have h1 := h.up.mem u hu1
    have h2 := h.at_ u hu1
    have h3 := h.nn
    exact ⟨by omega, by omega⟩) (by
    have := h.len
    have e : (keysM b.fOf).length = x.fL.length := by rw [hr.mp.keys.length_eq]; simp
    omega)
  have hd : (fun t : Thg => t.fAt) default = default := rfl
  have e2 : ga.loop2 b most = gh.loop2 x most := by
    funext s1 s2
    unfold ga.loop2 gh.loop2
    rw [hk, nthI_map hd]
  have e1 : ga.loop1 b most = gh.loop1 x most := by
    funext s1
    unfold ga.loop1 gh.loop1
    rw [hk, nthI_map hd, lenL_map, e2]
  unfold ga gh
  rw [Lk hb, e1, hr.nx]
end Go.Proofs
