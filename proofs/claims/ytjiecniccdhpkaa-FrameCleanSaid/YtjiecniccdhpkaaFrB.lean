/- Contracts of package frame: Put and Tick of a maker, as plain functions on its fields. -/
import Derived.Test.YtjiecniccdhpkaaFrA
namespace Go.Proofs
open Go.Ab

/-! ### Put, Tick -/
def putF (m : FM) (u : FU) : FM × List FU × Bool :=
  let f := followsF m.opn u
  let m1 := if f then m else dropF m
  if !f && (m.Video && !u.Start) then ({ m1 with lost := IntKind.i64.wrap (m1.lost + 1) }, [], false)
  else
    let m2 := { m1 with opn := m1.opn ++ [u] }
    if (m2.opn.length : Int) > m.Units ∨ sizeF m2.opn > m.Bytes then (dropF m2, [], false)
    else if m.Video && !u.Marker then (m2, [], false)
    else ({ m2 with opn := [], whole := IntKind.i64.wrap (m2.whole + 1) }, m2.opn, true)

def putS : Sp
  | [.ptr i 0, .agg u], M => match M[i]? with
    | some (.blk [.lit (.bool v), .lit (.int .i64 b), .lit (.int .i64 un), .lit (.int .i64 w), .sl els _, .lit (.int .i64 wh), .lit (.int .i64 lo)]) =>
      let r := putF ⟨v, b, un, w, els.map FU.dec, wh, lo⟩ (FU.dec u)
      some { av := .tup [.agg [.sl (r.2.1.map FU.enc) .no], .lit (.bool r.2.2)], M := some (M.set i (.blk r.1.enc)), obl := els = (els.map FU.dec).map FU.enc ∧ els.length ≤ 1048575 ∧ u = (FU.dec u).enc }
    | _ => none
  | _, _ => none

theorem dropF_len (m : FM) : (dropF m).opn.length = 0 := rfl

set_option maxHeartbeats 1000000 in
theorem put_ok : SpecOk Try.prog 14 putS := by
  intro l M out h
  unfold putS at h
  split at h
  · rename_i i u
    split at h
    · rename_i v b un w els tok wh lo hM
      injection h with h
      refine call_of_awp Try.tyOk Try.func14 rfl (by kernel_rfl) rfl rfl (by simp) ?_
      intro ho hbM hbA
      rw [← h] at ho
      generalize els.map FU.dec = us at ho h
      generalize FU.dec u = uu at ho h
      simp only at ho
      obtain ⟨ho, hlen, hu⟩ := ho
      subst ho
      subst hu
      have hi := lt_of_some hM
      have hb := belM_blk hbM hM
      simp at hb hlen
      have hg := get_of_some hM
      obtain ⟨uAt, uTi, uMa, uSt, uKe, uTx, uTk⟩ := uu
      have hΓ := gamL_cons open_ok (gamL_cons follows_ok (gamL_cons drop_ok (gamL_cons clone_ok (gamL_cons size_ok (P := Try.prog) gamL_nil))))
      refine AWp.step fun y1 Q1 hy hQ1 => vc_sound Try.mixed Try.tyOk hΓ (kp := fun | 0 => [3, 4, 5] | 1 => [10] | 3 => [22] | 5 => [5] | 7 => [64] | 9 => [5] | 10 => [77] | 11 => [5] | 12 => [6] | 15 => [5] | _ => []) (cp := fun | 6 => [(0, 7), (0, 10), (7, 0), (8, 0), (10, 0), (10, 7), (11, 0), (11, 7), (12, 0), (12, 7)] | _ => []) ?_
      simp
      subst hy
      refine AWp.join (fun σ => (followsF us ⟨uAt, uTi, uMa, uSt, uKe, uTx, uTk⟩ || !(v && !uSt)) = true ∧ σ = ⟨[⟨0, none, .ptr i 0⟩, ⟨3, none, .ptr M.length 0⟩, ⟨4, none, .ptr (M.length + 1) 0⟩],
        (M.set i (.blk (FM.enc (if followsF us ⟨uAt, uTi, uMa, uSt, uKe, uTx, uTk⟩ then ⟨v, b, un, w, us, wh, lo⟩ else dropF ⟨v, b, un, w, us, wh, lo⟩)))) ++ [.blk [.lit (.int .i64 uAt), .lit (.int .i64 uTi), .lit (.bool uMa), .lit (.bool uSt), .lit (.bool uKe), .lit (.string uTx), .lit (.int .i64 uTk)], .blk [.sl [] .full]]⟩)
        (fun Q'' hQ'' => vc_sound Try.mixed Try.tyOk hΓ (kp := fun | 0 => [3, 4, 5] | 1 => [10] | 3 => [22] | 5 => [5] | 7 => [64] | 9 => [5] | 10 => [77] | 11 => [5] | 12 => [6] | 15 => [5] | _ => []) (cp := fun | 6 => [(0, 7), (0, 10), (7, 0), (8, 0), (10, 0), (10, 7), (11, 0), (11, 7), (12, 0), (12, 7)] | _ => []) ?_) ?_
      · cases hf : followsF us ⟨uAt, uTi, uMa, uSt, uKe, uTx, uTk⟩
        · simp [hg, hi, hb, hbM, followsS, dropS, List.getElem?_append_left, hf]
          refine ⟨by omega, fun hv hs => ?_, fun hvs => ⟨⟨M.length + 2, by omega, by omega, by omega, ?_, ?_⟩, ?_⟩⟩
          · subst hv
            subst hs
            rw [hQ'', hQ1, ← h]
            simp [putF, hf, dropF, FM.enc, hbM]
          · simp [dropF, FM.enc]
          · simp [hbM]
          · cases v <;> simp_all
        · simp [hg, hi, hb, hbM, followsS, dropS, List.getElem?_append_left, hf]
          refine ⟨by omega, M.length + 2, by omega, by omega, by omega, ?_, ?_⟩
          · simp
            exact .append' (.toSet hM (by simp [FM.enc])) (.refl _)
          · simp [hbM]
      · rintro _ ⟨hc, rfl⟩
        have hm1 : ∃ us1 wh1 lo1, (if followsF us ⟨uAt, uTi, uMa, uSt, uKe, uTx, uTk⟩ = true then (⟨v, b, un, w, us, wh, lo⟩ : FM) else dropF ⟨v, b, un, w, us, wh, lo⟩) = ⟨v, b, un, w, us1, wh1, lo1⟩ ∧ us1.length ≤ 1048575 := by
          split
          · exact ⟨_, _, _, rfl, hlen⟩
          · exact ⟨[], wh, IntKind.i64.wrap (lo + us.length), rfl, by simp⟩
        obtain ⟨us1, wh1, lo1, hm1, hl1⟩ := hm1
        have hp : putF ⟨v, b, un, w, us, wh, lo⟩ (FU.mk uAt uTi uMa uSt uKe uTx uTk) =
            if ((us1 ++ [FU.mk uAt uTi uMa uSt uKe uTx uTk]).length : Int) > un ∨ sizeF (us1 ++ [FU.mk uAt uTi uMa uSt uKe uTx uTk]) > b then (dropF ⟨v, b, un, w, us1 ++ [FU.mk uAt uTi uMa uSt uKe uTx uTk], wh1, lo1⟩, [], false)
            else if v && !uMa then (⟨v, b, un, w, us1 ++ [FU.mk uAt uTi uMa uSt uKe uTx uTk], wh1, lo1⟩, [], false)
            else (⟨v, b, un, w, [], IntKind.i64.wrap (wh1 + 1), lo1⟩, us1 ++ [FU.mk uAt uTi uMa uSt uKe uTx uTk], true) := by
          have hc' : (!followsF us ⟨uAt, uTi, uMa, uSt, uKe, uTx, uTk⟩ && (v && !uSt)) = false := by
            revert hc; cases followsF us ⟨uAt, uTi, uMa, uSt, uKe, uTx, uTk⟩ <;> cases v <;> cases uSt <;> simp
          simp only [putF, hm1, hc']
          simp
        rw [hm1]
        rw [hp] at h
        clear hp hm1 hc
        refine AWp.step fun y2 Q2 hy hQ2 => vc_sound Try.mixed Try.tyOk hΓ (kp := fun | 0 => [3, 4, 5] | 1 => [10] | 3 => [22] | 5 => [5] | 7 => [64] | 9 => [5] | 10 => [77] | 11 => [5] | 12 => [6] | 15 => [5] | _ => []) (cp := fun | 6 => [(0, 7), (0, 10), (7, 0), (8, 0), (10, 0), (10, 7), (11, 0), (11, 7), (12, 0), (12, 7)] | _ => []) ?_
        simp [hi, hbM, cloneS, List.getElem?_append_left, FM.enc]
        subst hy
        refine ⟨by omega, ?_, ?_⟩
        · show drawB _ _ _ _ = _
          kernel_rfl
        refine AWp.step fun y3 Q3 hy hQ3 => vc_sound Try.mixed Try.tyOk hΓ (kp := fun | 0 => [3, 4, 5] | 1 => [10] | 3 => [22] | 5 => [5] | 7 => [64] | 9 => [5] | 10 => [77] | 11 => [5] | 12 => [6] | 15 => [5] | _ => []) (cp := fun | 6 => [(0, 7), (0, 10), (7, 0), (8, 0), (10, 0), (10, 7), (11, 0), (11, 7), (12, 0), (12, 7)] | _ => []) ?_
        simp [hi, hbM, openS, sizeS, dropS, List.getElem?_append_left]
        subst hy
        refine ⟨fun _ => by omega, ?_, fun hgt => ?_, fun hle1 hle2 => ?_⟩
        · show drawB _ _ _ _ = _
          kernel_rfl
        · rw [hQ3, hQ2, hQ1, ← h]
          simp [hgt, dropF, FM.enc, hbM]
        · refine vc_sound Try.mixed Try.tyOk hΓ (kp := fun | 0 => [3, 4, 5] | 1 => [10] | 3 => [22] | 5 => [5] | 7 => [64] | 9 => [5] | 10 => [77] | 11 => [5] | 12 => [6] | 15 => [5] | _ => []) (cp := fun | 6 => [(0, 7), (0, 10), (7, 0), (8, 0), (10, 0), (10, 7), (11, 0), (11, 7), (12, 0), (12, 7)] | _ => []) ?_
          rw [hQ3, hQ2, hQ1, ← h]
          have hn1 : ¬ (un < (us1.length : Int) + 1) := by omega
          have hn2 : ¬ (b < sizeF (us1 ++ [FU.mk uAt uTi uMa uSt uKe uTx uTk])) := by omega
          cases v <;> cases uMa <;> simp [hi, hbM, List.getElem?_append_left, hn1, hn2, FM.enc]
    · cases h
  · cases h

def tickF (m : FM) (now : Int) : FM × Bool := match m.opn with
  | [] => (m, false)
  | u :: _ => if IntKind.i64.wrap (now - u.Tick) < m.Wait then (m, false) else (dropF m, true)

def tickS : Sp
  | [.ptr i 0, .lit (.int .i64 now)], M => match M[i]? with
    | some (.blk [.lit (.bool v), .lit (.int .i64 b), .lit (.int .i64 un), .lit (.int .i64 w), .sl els _, .lit (.int .i64 wh), .lit (.int .i64 lo)]) =>
      let r := tickF ⟨v, b, un, w, els.map FU.dec, wh, lo⟩ now
      some { av := .lit (.bool r.2), M := some (M.set i (.blk r.1.enc)), obl := els = (els.map FU.dec).map FU.enc ∧ els.length ≤ 1048575 }
    | _ => none
  | _, _ => none

theorem tick_ok : SpecOk Try.prog 43 tickS := by
  intro l M out h
  unfold tickS at h
  split at h
  · rename_i i now
    split at h
    · rename_i v b un w els tok wh lo hM
      cases h
      refine call_of_vc Try.mixed Try.tyOk (gamL_cons open_ok (gamL_cons drop_ok gamL_nil)) (fun | 0 => [4] | 1 => [25] | 2 => [4] | 4 => [4] | _ => []) (fun _ => []) Try.func43 rfl (by kernel_rfl) rfl rfl (by simp) ?_
      intro ho hbM hbA
      generalize els.map FU.dec = us at ho
      simp only at ho
      obtain ⟨ho, hlen⟩ := ho
      subst ho
      have hi := lt_of_some hM
      have hb := belM_blk hbM hM
      simp at hb hlen
      have hg := get_of_some hM
      have hw : WMem M (M.set i (.blk (FM.enc ⟨v, b, un, w, us, wh, lo⟩))) := .toSet hM (by simp [FM.enc])
      cases us with
      | nil =>
        simp [hg, hi, hbM, openS, dropS, tickF, FM.enc]
        refine ⟨?_, by simpa [FM.enc] using hw⟩
        show drawB _ _ _ _ = _
        kernel_rfl
      | cons u r =>
        simp only [tickF]
        by_cases hc : IntKind.i64.wrap (now - u.Tick) < w
        · simp [hg, hi, hbM, openS, dropS, hc, FM.enc]
          refine ⟨?_, by simpa [FM.enc] using hw⟩
          show drawB _ _ _ _ = _
          kernel_rfl
        · simp [hg, hi, hbM, openS, dropS, hc, dropF, FM.enc]
          refine ⟨?_, by omega⟩
          show drawB _ _ _ _ = _
          kernel_rfl
    · cases h
  · cases h
end Go.Proofs
