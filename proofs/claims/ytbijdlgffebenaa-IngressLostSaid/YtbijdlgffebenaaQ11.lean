/- What these functions compute, as plain functions. No condition. -/
import Derived.Test.YtbijdlgffebenaaTs
import Derived.Test.YtbijdlgffebenaaQ02
import Derived.Test.YtbijdlgffebenaaQ03
import Derived.Test.YtbijdlgffebenaaRt
section
namespace Go.Proofs
open Go.Ab
noncomputable def gaR (x0 : Ts) (x1 : Int) : Option (Ts × ByteArray) :=
 bif (neI x0.fE 0) then (
  some (x0, ⟨#[]⟩)
 ) else (
  bif (ltI x1 0) then (
   some ((Ts.mk ⟨#[]⟩ 5), ⟨#[]⟩)
  ) else (
   bif (ltI (lenS x0.fS) x1) then (
    some ((Ts.mk ⟨#[]⟩ 1), ⟨#[]⟩)
   ) else (
    need (CutB x1 (lenS x0.fS) (lenS x0.fS)) <|
    need (CutB 0 x1 (lenS x0.fS)) <|
    some ((Ts.mk (cutS x0.fS x1 (lenS x0.fS)) 0), (cutS x0.fS 0 x1))
   )
  )
 )

noncomputable def gas.loop1 (x0 : ByteArray) (s1 : Int × Int) : Option (Fl (Int × Int) (Fl Int Int)) :=
 bif (ltI s1.1 (lenS x0)) then (
  need (InB s1.1 (lenS x0)) <|
  some (.go ((addI .i64 s1.1 1), (addI .u64 (mulI .u64 s1.2 256) (cvtI .u64 (idxS x0 s1.1)))))
 ) else (
  some (.out (.go s1.2))
 )

noncomputable def gas (x0 : ByteArray) : Option Int :=
 ((loopF (gas.loop1 x0) (0, 0)).bind fun f => flC f fun (v1 : Int) =>
  some v1
 )

noncomputable def gax (x0 : Ts) (x1 : Int) : Option (Ts × Int) :=
 ((gaR x0 (minI (maxI x1 1) 8))).bind fun r1 =>
 ((gas r1.2)).bind fun r2 =>
 some (r1.1, r2)

noncomputable def gaE (x0 : Ts) (x1 : Td) (x2 : Int) : Option (Ts × Td) :=
 ((
  need (NonZ 128) <|
  bif (eqI (quoI .i64 x2 128) 1) then (
   ((gax x0 1)).bind fun r1 =>
   bif (ltI 127 r1.2) then (
    ((gax r1.1 1)).bind fun r2 =>
    some (.go (r2.1, (Td.mk x1.fK x1.fy x1.fG (addI .i64 (mulI .i64 (cvtI .i64 (subI .u64 r1.2 128)) 256) (cvtI .i64 r2.2)) true x1.fH x1.fI x1.fR x1.fJ)))
   ) else (
    some (.go (r1.1, (Td.mk x1.fK x1.fy x1.fG (cvtI .i64 r1.2) x1.fU x1.fH x1.fI x1.fR x1.fJ)))
   )
  ) else (
   some (.go (x0, x1))
  )
  : Option (Fl (Ts × Td) (Ts × Td))).bind fun f => flC f fun (v1 : Ts × Td) =>
  ((
   need (NonZ 64) <|
   need (NonZ 2) <|
   bif (eqI (remI (quoI .i64 x2 64) 2) 1) then (
    ((gax v1.1 1)).bind fun r3 =>
    some (.go (r3.1, (Td.mk v1.2.fK v1.2.fy v1.2.fG v1.2.fB v1.2.fU (cvtI .i64 r3.2) v1.2.fI v1.2.fR v1.2.fJ)))
   ) else (
    some (.go (v1.1, v1.2))
   )
   : Option (Fl (Ts × Td) (Ts × Td))).bind fun f => flC f fun (v2 : Ts × Td) =>
   some (v2.1, v2.2)
  )
 )

noncomputable def gaF (x0 : Ts) (x1 : Td) (x2 : Int) : Option (Ts × Td) :=
 ((gaE x0 x1 x2)).bind fun r1 =>
 ((
  need (NonZ 16) <|
  need (NonZ 4) <|
  bif (ltI 0 (remI (quoI .i64 x2 16) 4)) then (
   ((gax r1.1 1)).bind fun r2 =>
   ((
    need (NonZ 32) <|
    need (NonZ 2) <|
    bif (eqI (remI (quoI .i64 x2 32) 2) 1) then (
     need (NonZ 64) <|
     need (NonZ 32) <|
     need (NonZ 2) <|
     some (.go (Td.mk r1.2.fK r1.2.fy r1.2.fG r1.2.fB r1.2.fU r1.2.fH (cvtI .i64 (quoI .u64 r2.2 64)) (eqI (remI (quoI .u64 r2.2 32) 2) 1) r1.2.fJ))
    ) else (
     some (.go r1.2)
    )
    : Option (Fl Td (Fl (Ts × Td) (Ts × Td)))).bind fun f => flC f fun (v2 : Td) =>
    need (NonZ 16) <|
    need (NonZ 2) <|
    bif (eqI (remI (quoI .i64 x2 16) 2) 1) then (
     need (NonZ 32) <|
     some (.go (r2.1, (Td.mk v2.fK v2.fy v2.fG v2.fB v2.fU v2.fH v2.fI v2.fR (cvtI .i64 (remI r2.2 32)))))
    ) else (
     some (.go (r2.1, v2))
    )
   )
  ) else (
   some (.go (r1.1, r1.2))
  )
  : Option (Fl (Ts × Td) (Ts × Td))).bind fun f => flC f fun (v1 : Ts × Td) =>
  some (v1.1, v1.2)
 )

noncomputable def gay (x0 : ByteArray) : Option (Td × ByteArray × Int) :=
 ((gax (Ts.mk x0 0) 1)).bind fun r1 =>
 need (NonZ 32) <|
 need (NonZ 2) <|
 need (NonZ 16) <|
 need (NonZ 2) <|
 need (NonZ 8) <|
 ((
  bif (ltI 127 r1.2) then (
   ((gax r1.1 1)).bind fun r2 =>
   some (.go ((cvtI .i64 r2.2), r2.1))
  ) else (
   some (.go (0, r1.1))
  )
  : Option (Fl (Int × Ts) (Td × ByteArray × Int))).bind fun f => flC f fun (v1 : Int × Ts) =>
  ((gaF v1.2 (Td.mk (eqI (remI (quoI .u64 r1.2 32) 2) 1) (eqI (remI (quoI .u64 r1.2 16) 2) 1) (cvtI .i64 (remI r1.2 8)) (-1) false (-1) (-1) false (-1)) v1.1)).bind fun r3 =>
  bif (neI r3.1.fE 0) then (
   some ((Td.mk false false 0 0 false 0 0 false 0), ⟨#[]⟩, r3.1.fE)
  ) else (
   some (r3.2, r3.1.fS, 0)
  )
 )
end Go.Proofs
end
section
namespace Go.Proofs
open Go.Ab

def tickS (x : RBf) (now : Int) : RBf × List Thg := whileS (cTick now) x.fL.length x
def flushS (x : RBf) : RBf × List Thg := whileS cAny x.fL.length x

theorem rtick_loop (now : Int) (hn0 : 0 ≤ now) (hn1 : now ≤ 1000000000000) (f : Nat) (x : RBf) (acc : List Thg) (hl : x.fL.length ≤ f) (h : Ok x) (hb : acc.length + x.fL.length ≤ 2000000) :
    loopF (gav.loop1 now) (acc, x) = some (.go (acc ++ (whileS (cTick now) f x).2, (whileS (cTick now) f x).1)) := by
  have hstop : ∀ (acc : List Thg) (x : RBf), Ok x → cTick now x = false → gav.loop1 now (acc, x) = some (.out (.go (acc, x))) := fun acc x h hc => by
    unfold gav.loop1
    cases hL : x.fL with
    | nil =>
      have : ltI 0 (lenL x.fL) = false := ltI_f (by rw [hL, lenL_nil]; omega)
      rw [hL] at this
      simp only [this]
      rw [Le (by intro e; cases e)]; rfl
    | cons t r =>
      simp only [cTick, hL, decide_eq_false_iff_not] at hc
      obtain ⟨_, ht0, ht1⟩ := h.at_ t (by rw [hL]; exact .head _)
      have hp : ltI 0 (lenL (t :: r)) = true := ltI_t (by rw [lenL_def]; simp only [List.length_cons]; omega)
      simp only [nthI_zero]
      rw [Le (under_of ⟨by omega, by rw [lenL_def]; simp only [List.length_cons]; omega⟩), hp, subI_n (by omega) (by omega), leI_f hc]; rfl
  induction f generalizing x acc with
  | zero =>
    have hL : x.fL = [] := List.eq_nil_of_length_eq_zero (by omega)
    rw [loopF_eq, hstop acc x h (by simp [cTick, hL])]
    simp [whileS]
  | succ f ih =>
    rw [loopF_eq]
    cases hh : cTick now x with
    | false =>
      rw [hstop acc x h hh]
      simp [whileS, hh]
    | true =>
      have hne := cTick_ne now x hh
      obtain ⟨ep, q1, q2⟩ := rskip_step h hne hb
      cases hL : x.fL with
      | nil => exact absurd hL hne
      | cons t r =>
        have : gav.loop1 now (acc, x) = some (.go (acc ++ (skipS x).2, (skipS x).1)) := by
          have hc := hh
          simp only [cTick, hL, decide_eq_true_eq] at hc
          obtain ⟨_, ht0, ht1⟩ := h.at_ t (by rw [hL]; exact .head _)
          have hp : ltI 0 (lenL x.fL) = true := ltI_t (by rw [lenL_def, hL]; simp only [List.length_cons]; omega)
          have hn : nthI x.fL 0 = t := by rw [hL]; rfl
          unfold gav.loop1
          simp only [hn, hp, pickB_t]
          rw [Le (under_of ⟨by omega, by rw [lenL_def, hL]; simp only [List.length_cons]; omega⟩), subI_n (by omega) (by omega), leI_t hc]
          simp only [cond_true, q1, Lb]
          rw [Le q2]; rfl
        rw [this]
        obtain ⟨k1, k2, k3⟩ := skip_ok h hL
        simp only
        rw [ih (skipS x).1 (acc ++ (skipS x).2) (by omega) k1 (by simp only [List.length_append]; omega)]
        simp [whileS, hh]

theorem rtick {x : RBf} (h : Inv x) {now : Int} (hn0 : 0 ≤ now) (hn1 : now ≤ 1000000000000) : gav x now = some ((tickS x now).1, (tickS x now).2) := by
  unfold gav
  rw [rtick_loop now hn0 hn1 x.fL.length x [] (Nat.le_refl _) h.toOk (by have := h.len; simp only [List.length_nil]; omega)]
  simp [tickS]
theorem otick {b : Tg} {x : RBf} (hr : Rel b x) (h : Inv x) {now : Int} (hn0 : 0 ≤ now) (hn1 : now ≤ 1000000000000) : ∃ b', gk b now = some ((tickS x now).2, b') ∧ Rel b' (tickS x now).1 := by
  obtain ⟨s', g1, g2⟩ := otick_loop now hn0 hn1 x.fL.length x [] _ (Nat.le_refl _) (oi_of hr []) h.toOk (by have := h.len; simp only [List.length_nil]; omega)
  unfold gk
  rw [g1]
  simp only [Lb, flC_go]
  refine ⟨_, ?_, g2.2⟩
  rw [g2.1]; rfl
theorem while_inv (c : RBf → Bool) (hc : ∀ x, c x = true → x.fL ≠ []) {x : RBf} (h : Inv x) : Inv (whileS c x.fL.length x).1 ∧ c (whileS c x.fL.length x).1 = false := by
  obtain ⟨w1, w2, w3⟩ := while_ok c hc x.fL.length x h.toOk (Nat.le_refl _)
  obtain ⟨m1, m2, m3⟩ := whileS_most c x.fL.length x
  refine ⟨{ w1 with m0 := by rw [m1]; exact h.m0, m1 := by rw [m1]; exact h.m1, ml := ?_, bg := fun e => ?_ }, w2⟩
  · rw [m1]
    have := h.ml
    rw [lenL_def] at this ⊢
    omega
  · rw [m2] at e
    obtain ⟨e1, e2⟩ := h.bg e
    have : whileS c x.fL.length x = (x, []) := by rw [e1]; rfl
    rw [this]; exact ⟨e1, e2⟩
theorem tick_inv {x : RBf} (h : Inv x) (now : Int) : Inv (tickS x now).1 := (while_inv (cTick now) (cTick_ne now) h).1
theorem flush_inv {x : RBf} (h : Inv x) : Inv (flushS x).1 ∧ (flushS x).1.fL = [] := by
  obtain ⟨h1, h2⟩ := while_inv cAny cAny_ne h
  refine ⟨h1, ?_⟩
  simp only [cAny, decide_eq_false_iff_not] at h2
  unfold flushS
  exact List.eq_nil_of_length_eq_zero (by rw [lenL_def] at h2; omega)

/-! ### What is missing -/
def fillS (most : Int) : Nat → Int → List Int → List Int
  | 0, _, out => out
  | f + 1, at_, out => if lenL out < most then fillS most f (at_ + 1) (out ++ [at_]) else out
def missS (most : Int) : Int → List Int → List Thg → List Int
  | _, out, [] => out
  | at_, out, t :: r => missS most (t.fAt + 1) (fillS most (t.fAt - at_).toNat at_ out) r

theorem fill_len (most : Int) : ∀ (f : Nat) (a : Int) (out : List Int), lenL (fillS most f a out) ≤ max (lenL out) most
  | 0, a, out => by simp only [fillS]; omega
  | f + 1, a, out => by
    unfold fillS
    split
    · have := fill_len most f (a + 1) (out ++ [a])
      have e : lenL (out ++ [a]) = lenL out + 1 := by simp [lenL]
      omega
    · omega

theorem fill_loop (x : RBf) (most : Int) (hm : most ≤ 1000) (s1 : Int × Int × List Int) : ∀ (f : Nat) (a : Int) (out : List Int), (((nthI x.fL s1.1).fAt) - a).toNat = f → -1000000000000 ≤ a → ((nthI x.fL s1.1).fAt) ≤ 1000000000000 → lenL out ≤ 1000 →
    loopF (gT.loop2 x most s1) (a, out) = some (.go (fillS most f a out))
  | 0, a, out, hf, h0, h1, hl => by
    rw [loopF_eq]
    have : gT.loop2 x most s1 (a, out) = some (.out (.go out)) := by
      unfold gT.loop2
      rw [ltI_f (by simp only; omega)]; rfl
    rw [this]; rfl
  | f + 1, a, out, hf, h0, h1, hl => by
    rw [loopF_eq]
    by_cases q : lenL out < most
    · rw [show fillS most (f + 1) a out = fillS most f (a + 1) (out ++ [a]) from if_pos q]
      have : gT.loop2 x most s1 (a, out) = some (.go (a + 1, out ++ [a])) := by
        unfold gT.loop2
        rw [ltI_t (by simp only; omega), ltI_t q]
        simp only [pickB_t, cond_true]
        rw [need_app8 _ (lenL_nn _) (by decide) (by omega), addI_n (by omega) (by omega)]; rfl
      rw [this]
      exact fill_loop x most hm s1 f (a + 1) (out ++ [a]) (by omega) (by omega) h1 (by
        have e : lenL (out ++ [a]) = lenL out + 1 := by simp [lenL]
        omega)
    · rw [show fillS most (f + 1) a out = out from if_neg q]
      have : gT.loop2 x most s1 (a, out) = some (.out (.go out)) := by
        unfold gT.loop2
        rw [ltI_t (by simp only; omega), ltI_f q]; rfl
      rw [this]

theorem rmissing {x : RBf} (h : Ok x) {most : Int} (hm0 : 0 ≤ most) (hm : most ≤ 1000) : gT x most = some (missS most x.fg [] x.fL) := by
  have key : ∀ (k i : Nat) (a : Int) (out : List Int), x.fL.length - i = k → i ≤ x.fL.length → 0 ≤ a → a ≤ 1000000000000 → lenL out ≤ most →
      loopF (gT.loop1 x most) ((i : Int), a, out) = some (.go (missS most a out (x.fL.drop i))) := by
    intro k
    induction k with
    | zero =>
      intro i a out hk hi _ _ _
      have hil : i = x.fL.length := by omega
      rw [loopF_eq]
      have : gT.loop1 x most ((i : Int), a, out) = some (.out (.go out)) := by
        unfold gT.loop1
        rw [ltI_f (by rw [lenL_def]; simp only; omega)]; rfl
      rw [this, hil, List.drop_length]; rfl
    | succ k ih =>
      intro i a out hk hi ha ha1 hlo
      have hlt : i < x.fL.length := by omega
      have hlen := h.len
      have hin : InB (i : Int) (lenL x.fL) := ⟨by omega, by rw [lenL_def]; omega⟩
      rw [drop_cons' hlt]
      have hn : nthI x.fL (i : Int) ∈ x.fL := by
        have : nthI x.fL (i : Int) = x.fL[i] := by simp [nthI, hlt]
        rw [this]; exact List.getElem_mem _
      have hat := (h.at_ _ hn).1
      have hup := h.up.mem _ hn
      have hnn := h.nn
      rw [loopF_eq]
      have : gT.loop1 x most ((i : Int), a, out) = some (.go (((i + 1 : Nat) : Int), (nthI x.fL (i : Int)).fAt + 1, fillS most ((nthI x.fL (i : Int)).fAt - a).toNat a out)) := by
        unfold gT.loop1
        rw [ltI_t hin.2]
        simp only [cond_true]
        rw [Le hin, fill_loop x most hm ((i : Int), a, out) _ a out rfl (by omega) (by simp only; omega) (by omega)]
        simp only [Lb, flC_go]
        rw [addI_n (by omega) (by omega), addI_n (by omega) (by omega)]; rfl
      rw [this]
      simp only
      rw [ih (i + 1) _ _ (by omega) (by omega) (by omega) (by omega) (by have := fill_len most ((nthI x.fL (i : Int)).fAt - a).toNat a out; omega)]
      rfl
  have := key x.fL.length 0 x.fg [] (by omega) (by omega) h.nn h.nb (by simpa using hm0)
  unfold gT
  simp only [Int.natCast_zero, List.drop_zero] at this
  rw [this]
  simp

theorem nthI_map {α β : Type} [Inhabited α] [Inhabited β] {f : α → β} (hd : f default = default) (l : List α) (n : Int) : nthI (l.map f) n = f (nthI l n) := by
  simp only [nthI, List.getD_eq_getElem?_getD, List.getElem?_map]
  cases l[n.toNat]? <;> simp [hd]

theorem omissing {b : Tg} {x : RBf} (hr : Rel b x) (h : Ok x) {most : Int} (hm0 : 0 ≤ most) (hm : most ≤ 1000) : gag b most = some (missS most x.fg [] x.fL) := by
  rw [← rmissing h hm0 hm]
  have hk : sortL (keysM b.fOf) = x.fL.map (·.fAt) := sortL_of hr.mp.keys (h.up.pair.imp fun h => by omega)
  have hb : KeysB (keysM b.fOf) := KeysB_of (fun k q => by
    obtain ⟨u, hu1, rfl⟩ := hr.mp.has.1 q
    have h1 := h.up.mem u hu1
    have h2 := h.at_ u hu1
    have h3 := h.nn
    exact ⟨by omega, by omega⟩) (by
    have := h.len
    have e : (keysM b.fOf).length = x.fL.length := by rw [hr.mp.keys.length_eq]; simp
    omega)
  have hd : (fun t : Thg => t.fAt) default = default := rfl
  have e2 : gag.loop2 b most = gT.loop2 x most := by
    funext s1 s2
    unfold gag.loop2 gT.loop2
    rw [hk, nthI_map hd]
  have e1 : gag.loop1 b most = gT.loop1 x most := by
    funext s1
    unfold gag.loop1 gT.loop1
    rw [hk, nthI_map hd, lenL_map, e2]
  unfold gag gT
  rw [Le hb, e1, hr.nx]
end Go.Proofs
end
section
namespace Go.Proofs
open Go.Ab
noncomputable def gaQ (x0 : Td) (x1 : ByteArray) : Option Bool :=
 need (Under (pickB (pickB x0.fy (eqI x0.fG 0) false) (ltI 0 (lenS x1)) false) true (InB 0 (lenS x1))) <|
 need (Under (pickB (pickB x0.fy (eqI x0.fG 0) false) (ltI 0 (lenS x1)) false) true (NonZ 2)) <|
 some (pickB (pickB (pickB x0.fy (eqI x0.fG 0) false) (ltI 0 (lenS x1)) false) (eqI (remI (idxS x1 0) 2) 0) false)

noncomputable def gau.loop1 (x0 : List Tx) (x1 : Int) (s1 : Int) : Option (Fl Int (Fl Unit Tb)) :=
 bif (ltI s1 (lenL x0)) then (
  need (InB s1 (lenL x0)) <|
  bif (eqI ((nthI x0 s1).fAt) x1) then (
   some (.out (.out ((nthI x0 s1).fP)))
  ) else (
   some (.go (addI .i64 s1 1))
  )
 ) else (
  some (.out (.go ()))
 )

noncomputable def gau (x0 : List Tx) (x1 : Int) : Option Tb :=
 ((loopF (gau.loop1 x0 x1) 0).bind fun f => flC f fun (_v1 : Unit) =>
  some (Tb.mk false 0 0 0 0 [] false 0 ⟨#[]⟩ ⟨#[]⟩ 0)
 )

noncomputable def gaM (x0 : Te) (x1 : Ta) : Option (Te × Tc) :=
 ((gau x0.fL x1.fAt)).bind fun r1 =>
 ((gaL x0.fh (cvtI .i64 r1.fQ))).bind fun r2 =>
 ((gay r1.fF)).bind fun r3 =>
 ((
  bif (pickB x0.fc.fu (eqI r3.2.2 0) false) then (
   ((gaQ r3.1 r3.2.1)).bind fun r4 =>
   some (.go (Tc.mk x1.fAt r2.2 (pickB r1.fA (neS r1.fF ⟨#[]⟩) false) (pickB r3.1.fy (eqI r3.1.fG 0) false) r4 r1.fF x1.fO))
  ) else (
   some (.go (Tc.mk x1.fAt r2.2 (pickB r1.fA (neS r1.fF ⟨#[]⟩) false) false false r1.fF x1.fO))
  )
  : Option (Fl Tc (Te × Tc))).bind fun f => flC f fun (v1 : Tc) =>
  some ((Te.mk x0.ff r2.1 x0.fo x0.fc x0.fL x0.fp x0.fm), v1)
 )

noncomputable def gap.loop1 (x1 : List Ta) (s1 : Int × List (List Tc) × Te) : Option (Fl (Int × List (List Tc) × Te) (Fl (List (List Tc) × Te) (Te × List (List Tc)))) :=
 bif (ltI s1.1 (lenL x1)) then (
  need (InB s1.1 (lenL x1)) <|
  ((gaM s1.2.2 (nthI x1 s1.1))).bind fun r1 =>
  ((gaO r1.1.fc r1.2)).bind fun r2 =>
  bif (ltI 0 (lenL r2.2)) then (
   need (AppB (lenL s1.2.1) 1 24) <|
   need (InB 0 (lenL r2.2)) <|
   bif (nthI r2.2 0).fJ then (
    some (.go ((addI .i64 s1.1 1), (appL s1.2.1 [r2.2]), (Te.mk r1.1.ff r1.1.fh r1.1.fo r2.1 r1.1.fL r1.1.fp (addI .i64 r1.1.fm 1))))
   ) else (
    some (.go ((addI .i64 s1.1 1), (appL s1.2.1 [r2.2]), (Te.mk r1.1.ff r1.1.fh r1.1.fo r2.1 r1.1.fL r1.1.fp r1.1.fm)))
   )
  ) else (
   some (.go ((addI .i64 s1.1 1), s1.2.1, (Te.mk r1.1.ff r1.1.fh r1.1.fo r2.1 r1.1.fL r1.1.fp r1.1.fm)))
  )
 ) else (
  some (.out (.go (s1.2.1, s1.2.2)))
 )

noncomputable def gap (x0 : Te) (x1 : List Ta) : Option (Te × List (List Tc)) :=
 ((loopF (gap.loop1 x1) (0, [], x0)).bind fun f => flC f fun (v1 : List (List Tc) × Te) =>
  some (v1.2, v1.1)
 )

noncomputable def gaN (x0 : Te) (x1 : Tb) (x2 : Int) : Option (Te × List (List Tc) × Int) :=
 ((gaP x0.ff (cvtI .i64 x1.ff))).bind fun r1 =>
 bif (notB r1.2.2) then (
  some ((Te.mk r1.1 x0.fh x0.fo x0.fc x0.fL (addI .i64 x0.fp 1) x0.fm), [], 13)
 ) else (
  ((gan x0.fo (Ta.mk r1.2.1 ⟨#[]⟩ x2))).bind fun r2 =>
  bif (neI r2.2.2 0) then (
   some ((Te.mk r1.1 x0.fh r2.1 x0.fc x0.fL (addI .i64 x0.fp 1) x0.fm), [], r2.2.2)
  ) else (
   need (AppB 0 (lenL x0.fL) 96) <|
   need (AppB (lenL x0.fL) 1 96) <|
   ((gap (Te.mk r1.1 x0.fh r2.1 x0.fc (appL (appL [] x0.fL) [(Tx.mk r1.2.1 x1)]) x0.fp x0.fm) r2.2.1)).bind fun r3 =>
   some (r3.1, r3.2, 0)
  )
 )

noncomputable def gaH (x0 : Te) (x1 : Int) : Option (Te × List (List Tc)) :=
 ((gav x0.fo x1)).bind fun r1 =>
 ((gap (Te.mk x0.ff x0.fh r1.1 x0.fc x0.fL x0.fp x0.fm) r1.2)).bind fun r2 =>
 ((gaI r2.1.fc x1)).bind fun r3 =>
 some ((Te.mk r2.1.ff r2.1.fh r2.1.fo r3.1 r2.1.fL r2.1.fp r2.1.fm), r2.2)
end Go.Proofs
end
