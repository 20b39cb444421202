/- What these functions compute, as plain functions. No condition. -/
import Derived.Test.YtbijdlgffebenaaTs
import Derived.Test.YtbijdlgffebenaaM08
import Derived.Test.YtbijdlgffebenaaM12
import Derived.Test.YtbijdlgffebenaaM05
import Derived.Test.YtbijdlgffebenaaM07
section
namespace Go.Proofs
open Go.Ab
noncomputable def gLaw11IngressMay (x0 : Int) (x1 : Int) (x2 : Int) (x3 : Int) : Option Bool :=
  ((gIngressNew (IngressConfig.mk (ReorderConfig.mk x0 x1) (FrameConfig.mk false x2 x3 0)))).bind fun r1 =>
  optC r1.1 (
    (gLaw11Awake).bind fun r2 =>
    need (Under r2 true ((gIngressConfigCheck (IngressConfig.mk (ReorderConfig.mk x0 x1) (FrameConfig.mk false x2 x3 0))).isSome = true)) <|
    need (Under (pickB (pickB r2 (eqI r1.2 ((gIngressConfigCheck (IngressConfig.mk (ReorderConfig.mk x0 x1) (FrameConfig.mk false x2 x3 0))).getD dflt)) false) (eqB false (eqI r1.2 0)) false) true ((gReorderConfigCheck (ReorderConfig.mk x0 x1)).isSome = true)) <|
    need (Under (eqI ((gReorderConfigCheck (ReorderConfig.mk x0 x1)).getD dflt) 0) true (Under (pickB (pickB r2 (eqI r1.2 ((gIngressConfigCheck (IngressConfig.mk (ReorderConfig.mk x0 x1) (FrameConfig.mk false x2 x3 0))).getD dflt)) false) (eqB false (eqI r1.2 0)) false) true ((gFrameConfigCheck (FrameConfig.mk false x2 x3 0)).isSome = true))) <|
    some (pickB (pickB (pickB r2 (eqI r1.2 ((gIngressConfigCheck (IngressConfig.mk (ReorderConfig.mk x0 x1) (FrameConfig.mk false x2 x3 0))).getD dflt)) false) (eqB false (eqI r1.2 0)) false) (eqB (eqI r1.2 0) (pickB (eqI ((gReorderConfigCheck (ReorderConfig.mk x0 x1)).getD dflt) 0) (eqI ((gFrameConfigCheck (FrameConfig.mk false x2 x3 0)).getD dflt) 0) false)) false)
  ) fun o1 => (
    (gLaw11Awake).bind fun r2 =>
    need (Under r2 true ((gIngressConfigCheck (IngressConfig.mk (ReorderConfig.mk x0 x1) (FrameConfig.mk false x2 x3 0))).isSome = true)) <|
    need (Under (pickB (pickB r2 (eqI r1.2 ((gIngressConfigCheck (IngressConfig.mk (ReorderConfig.mk x0 x1) (FrameConfig.mk false x2 x3 0))).getD dflt)) false) (eqB true (eqI r1.2 0)) false) true ((gReorderConfigCheck (ReorderConfig.mk x0 x1)).isSome = true)) <|
    need (Under (eqI ((gReorderConfigCheck (ReorderConfig.mk x0 x1)).getD dflt) 0) true (Under (pickB (pickB r2 (eqI r1.2 ((gIngressConfigCheck (IngressConfig.mk (ReorderConfig.mk x0 x1) (FrameConfig.mk false x2 x3 0))).getD dflt)) false) (eqB true (eqI r1.2 0)) false) true ((gFrameConfigCheck (FrameConfig.mk false x2 x3 0)).isSome = true))) <|
    some (pickB (pickB (pickB r2 (eqI r1.2 ((gIngressConfigCheck (IngressConfig.mk (ReorderConfig.mk x0 x1) (FrameConfig.mk false x2 x3 0))).getD dflt)) false) (eqB true (eqI r1.2 0)) false) (eqB (eqI r1.2 0) (pickB (eqI ((gReorderConfigCheck (ReorderConfig.mk x0 x1)).getD dflt) 0) (eqI ((gFrameConfigCheck (FrameConfig.mk false x2 x3 0)).getD dflt) 0) false)) false)
  )
end Go.Proofs
end
section
namespace Go.Proofs
open Go.Ab

def sizeN : List Antiphonref10Unit → Int
  | [] => 0
  | u :: r => lenS u.fText + sizeN r
theorem lenS_nn (s : ByteArray) : 0 ≤ lenS s := by unfold lenS; omega
theorem sizeN_nn : ∀ us, 0 ≤ sizeN us
  | [] => by simp [sizeN]
  | u :: r => by have := sizeN_nn r; have := lenS_nn u.fText; unfold sizeN; omega
theorem sizeN_app (a b : List Antiphonref10Unit) : sizeN (a ++ b) = sizeN a + sizeN b := by
  induction a with
  | nil => simp [sizeN]
  | cons u r ih => simp only [List.cons_append, sizeN, ih]; omega

def sizeI (us : List Antiphonref10Unit) (s : Int × Int) : Prop := 0 ≤ s.1 ∧ s.1 ≤ lenL us ∧ s.2 = sizeN (us.take s.1.toNat)
theorem take_snoc (us : List Antiphonref10Unit) (i : Int) (h0 : 0 ≤ i) (h : i < lenL us) : us.take (i + 1).toNat = us.take i.toNat ++ [nthI us i] := by
  unfold lenL at h
  have e : (i + 1).toNat = i.toNat + 1 := by omega
  rw [e, List.take_succ_eq_append_getElem (by omega)]
  unfold nthI
  rw [List.getD_eq_getElem?_getD, List.getElem?_eq_getElem (by omega)]
  rfl
theorem sizeN_take (us : List Antiphonref10Unit) (n : Nat) : sizeN (us.take n) ≤ sizeN us := by
  have h := sizeN_app (us.take n) (us.drop n)
  rw [List.take_append_drop] at h
  have := sizeN_nn (us.drop n)
  omega
theorem size_round (us : List Antiphonref10Unit) (hb : sizeN us < 9223372036854775808) (hl : lenL us < 9223372036854775807) (s : Int × Int) (hI : sizeI us s) :
    RoundP (sizeI us) (fun t : Fl Int Int => t = .go (sizeN us)) (fun s => (lenL us - s.1).toNat) s (gFrameFrameSize.loop1 ⟨us⟩ s) := by
  obtain ⟨i, n⟩ := s
  obtain ⟨h0, h1, h2⟩ := hI
  simp only at h0 h1 h2
  unfold gFrameFrameSize.loop1
  dsimp only
  by_cases hc : i < lenL us
  case neg =>
    rw [ltI_d, decide_eq_false hc, cond_false]
    show Fl.go n = Fl.go _
    rw [h2, List.take_of_length_le (by unfold lenL at hc; omega)]
  rw [show ltI i (lenL us) = true from decide_eq_true hc, cond_true, need_t (show InB i (lenL us) from ⟨h0, hc⟩)]
  have e := take_snoc us i h0 hc
  have e2 := sizeN_app (us.take i.toNat) [nthI us i]
  rw [← e] at e2
  have e3 : sizeN [nthI us i] = lenS (nthI us i).fText := by simp [sizeN]
  have e4 := sizeN_take us (i + 1).toNat
  have e5 := sizeN_nn (us.take i.toNat)
  have e6 := lenS_nn (nthI us i).fText
  rw [addI_n (a := i) (by omega) (by omega), addI_n (a := n) (by omega) (by omega)]
  exact ⟨⟨by dsimp only; omega, by dsimp only; omega, by dsimp only; omega⟩, by dsimp only; omega⟩
theorem size_eq (us : List Antiphonref10Unit) (hb : sizeN us < 9223372036854775808) (hl : lenL us < 9223372036854775807) : gFrameFrameSize ⟨us⟩ = some (sizeN us) := by
  unfold gFrameFrameSize
  have hnn : 0 ≤ lenL us := by unfold lenL; omega
  obtain ⟨t, ht, rfl⟩ := loop_ends (sizeI us) _ _ (size_round us hb hl) (0, 0) ⟨by simp, by simpa using hnn, by simp [sizeN]⟩
  rw [ht]; rfl

theorem open_eq (m : FrameMaker) : gFrameMakerOpen m = some (lenL m.fOpen.fUnits) := rfl
theorem counts_eq (m : FrameMaker) : gFrameMakerCounts m = some (m.fWhole, m.fLost) := rfl

/-- A unit at a maker that holds none. -/
theorem put_empty (c : FrameConfig) (w l : Int) (u : Antiphonref10Unit) (hl0 : -9223372036854775808 ≤ l) (hl : l < 9223372036854775807) (hu : 1 ≤ c.fUnits) (hv : c.fVideo = true → u.fStart = true) (hs : lenS u.fText < 9223372036854775808) :
    gFrameMakerPut (.mk c ⟨[]⟩ w l) u = some (
      if c.fBytes < lenS u.fText then (⟨[]⟩, false, .mk c ⟨[]⟩ w (l + 1))
      else if c.fVideo = true ∧ u.fMarker = false then (⟨[]⟩, false, .mk c ⟨[u]⟩ w l)
      else (⟨[u]⟩, true, .mk c ⟨[]⟩ (addI .i64 w 1) l)) := by
  unfold gFrameMakerPut gFrameMakerFollows gFrameMakerDrop
  have e0 : eqI (0 : Int) 0 = true := by decide
  have a0 : addI .i64 l 0 = l := by rw [addI_n (by omega) (by omega)]; omega
  have a1 : addI .i64 l 1 = l + 1 := addI_n (by omega) (by omega)
  have sz : sizeN [u] = lenS u.fText := by simp [sizeN]
  have hv' : pickB c.fVideo (notB u.fStart) false = false := by
    rw [pickB_and, notB_d]
    cases h : c.fVideo with
    | false => rfl
    | true => rw [hv h]; rfl
  have ap : appL ([] : List Antiphonref10Unit) [u] = [u] := rfl
  simp only [open_eq, bind_so, lenL_nil, e0, cond_true, notB_t', a0, hv', cond_false, flC_go, ap]
  have l1 : lenL [u] = 1 := by simp
  rw [need_t (show AppB 0 0 48 by decide), need_t (show AppB 0 1 48 by decide), size_eq [u] (by omega) (by omega), sz, l1]
  simp only [Option.isSome_some, under_true, need_true, getD_so, pickB_or]
  have e1 : ltI c.fUnits 1 = false := decide_eq_false (by omega)
  rw [e1, Bool.false_or, a1]
  by_cases hb : c.fBytes < lenS u.fText
  · rw [show ltI c.fBytes (lenS u.fText) = true from decide_eq_true hb, cond_true, if_pos hb]
  · rw [show ltI c.fBytes (lenS u.fText) = false from decide_eq_false hb, cond_false, if_neg hb, pickB_and, notB_d]
    cases hv2 : c.fVideo <;> cases hm : u.fMarker <;> simp

theorem frame_check (c : FrameConfig) (h : 1 ≤ c.fBytes ∧ c.fBytes ≤ 1048576 ∧ 1 ≤ c.fUnits ∧ c.fUnits ≤ 1024 ∧ 0 ≤ c.fWait ∧ c.fWait ≤ 1099511627776) : gFrameConfigCheck c = some 0 := by
  unfold gFrameConfigCheck
  simp only [pickB_or, ltI_d]
  have e : (decide (c.fBytes < 1) || decide (1048576 < c.fBytes) || decide (c.fUnits < 1) || decide (1024 < c.fUnits) || decide (c.fWait < 0) || decide (1099511627776 < c.fWait)) = false := by
    simp; omega
  rw [e]; rfl
theorem frame_new (c : FrameConfig) (h : 1 ≤ c.fBytes ∧ c.fBytes ≤ 1048576 ∧ 1 ≤ c.fUnits ∧ c.fUnits ≤ 1024 ∧ 0 ≤ c.fWait ∧ c.fWait ≤ 1099511627776) : gFrameNew c = some (some (.mk c ⟨[]⟩ 0 0), 0) := by
  unfold gFrameNew
  rw [frame_check c h]; rfl

theorem mask_n (j : Nat) (hj : j ≤ 62) (a m : Int) (hm : m = 2 ^ j - 1) : ∃ b, bitsOp .and .i64 a m = b ∧ 0 ≤ b ∧ b ≤ m := by
  refine ⟨_, and_mask' (j := j) hj a m hm, Int.emod_nonneg _ (by have := Int.pow_pos (n := 2) (m := j) (by decide); omega), ?_⟩
  have := Int.emod_lt_of_pos a (b := 2 ^ j) (Int.pow_pos (by decide))
  omega
theorem lenS_nums (n x : Int) (h : 0 ≤ n) : lenS (strOfNums (repL n x)) = n := by
  unfold lenS strOfNums repL
  simp [ByteArray.size]
  omega

end Go.Proofs
end
section
namespace Go.Proofs
open Go.Ab
noncomputable def gRef10Drop (x0 : Antiphonref10Maker) : Option Antiphonref10Maker :=
  some (Antiphonref10Maker.mk x0.fVideo x0.fBytes x0.fUnits x0.fWait [] x0.fWhole (addI .i64 x0.fLost (lenL x0.fOpen)))

noncomputable def gRef10Size.loop1 (x0 : List Antiphonref10Unit) (s1 : Int × Int) : Option (Fl (Int × Int) (Fl Int Int)) :=
  bif (ltI s1.1 (lenL x0)) then (
    need (InB s1.1 (lenL x0)) <|
    some (.go ((addI .i64 s1.1 1), (addI .i64 s1.2 (lenS ((nthI x0 s1.1).fText)))))
  ) else (
    some (.out (.go s1.2))
  )

noncomputable def gRef10Size (x0 : List Antiphonref10Unit) : Option Int :=
  ((loopF (gRef10Size.loop1 x0) (0, 0)).bind fun f => flC f fun (v1 : Int) =>
    some v1
  )

noncomputable def gRef10Put (x0 : Antiphonref10Maker) (x1 : Antiphonref10Unit) : Option (Antiphonref10Maker × List Antiphonref10Unit) :=
  ((
    bif (ltI 0 (lenL x0.fOpen)) then (
      need (InB (subI .i64 (lenL x0.fOpen) 1) (lenL x0.fOpen)) <|
      some (.go (pickB (pickB (eqI x1.fAt (addI .i64 ((nthI x0.fOpen (subI .i64 (lenL x0.fOpen) 1)).fAt) 1)) (eqI x1.fTime ((nthI x0.fOpen (subI .i64 (lenL x0.fOpen) 1)).fTime)) false) (notB x1.fStart) false))
    ) else (
      some (.go false)
    )
    : Option (Fl Bool (Antiphonref10Maker × List Antiphonref10Unit))).bind fun f => flC f fun (v1 : Bool) =>
    ((
      bif (notB v1) then (
        ((gRef10Drop x0)).bind fun r1 =>
        some (.go r1)
      ) else (
        some (.go x0)
      )
      : Option (Fl Antiphonref10Maker (Antiphonref10Maker × List Antiphonref10Unit))).bind fun f => flC f fun (v2 : Antiphonref10Maker) =>
      bif (pickB (pickB (notB v1) v2.fVideo false) (notB x1.fStart) false) then (
        some ((Antiphonref10Maker.mk v2.fVideo v2.fBytes v2.fUnits v2.fWait v2.fOpen v2.fWhole (addI .i64 v2.fLost 1)), [])
      ) else (
        need (AppB 0 (lenL v2.fOpen) 48) <|
        need (AppB (lenL v2.fOpen) 1 48) <|
        need (Under (ltI v2.fUnits ((lenL v2.fOpen) + 1)) false ((gRef10Size (appL (appL [] v2.fOpen) [x1])).isSome = true)) <|
        bif (pickB (ltI v2.fUnits ((lenL v2.fOpen) + 1)) true (ltI v2.fBytes ((gRef10Size (appL (appL [] v2.fOpen) [x1])).getD dflt))) then (
          ((gRef10Drop (Antiphonref10Maker.mk v2.fVideo v2.fBytes v2.fUnits v2.fWait (appL (appL [] v2.fOpen) [x1]) v2.fWhole v2.fLost))).bind fun r2 =>
          some (r2, [])
        ) else (
          bif (pickB v2.fVideo (notB x1.fMarker) false) then (
            some ((Antiphonref10Maker.mk v2.fVideo v2.fBytes v2.fUnits v2.fWait (appL (appL [] v2.fOpen) [x1]) v2.fWhole v2.fLost), [])
          ) else (
            some ((Antiphonref10Maker.mk v2.fVideo v2.fBytes v2.fUnits v2.fWait [] (addI .i64 v2.fWhole 1) v2.fLost), (appL (appL [] v2.fOpen) [x1]))
          )
        )
      )
    )
  )

noncomputable def gRef10Tick (x0 : Antiphonref10Maker) (x1 : Int) : Option (Antiphonref10Maker × Bool) :=
  need (Under (eqI (lenL x0.fOpen) 0) false (InB 0 (lenL x0.fOpen))) <|
  bif (pickB (eqI (lenL x0.fOpen) 0) true (ltI (subI .i64 x1 ((nthI x0.fOpen 0).fTick)) x0.fWait)) then (
    some (x0, false)
  ) else (
    ((gRef10Drop x0)).bind fun r1 =>
    some (r1, true)
  )
end Go.Proofs
end
