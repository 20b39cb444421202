/- FrameClean: its walk. -/
import Derived.Test.YtjiecniccdhpkaaFrC
import Derived.Test.YtjiecniccdhpkaaFrL
import Derived.Test.YtjiecniccdhpkaaNu
namespace Go.Proofs
open Go.Ab

def cleanS : Sp
  | [.sl els _, .lit (.int .i64 _)], _ => some { av := .lit (.bool true), obl := els = (els.map decI).map (encI .i64) ∧ els.length ≤ maxLen }
  | _, _ => none

def cleanM (w : Int) (a i n k : Nat) : FM := if k < n then ⟨true, 1000, 8, w, cleanRow a i n k, i, 0⟩ else ⟨true, 1000, 8, w, [], (i + 1 : Nat), 0⟩

set_option maxHeartbeats 1000000 in
theorem clean_ok : SpecOk Try.prog 5 cleanS := by
  intro l M out h
  unfold cleanS at h
  split at h
  · rename_i els tok b
    cases h
    refine call_of_awp Try.tyOk Try.func5 rfl (by kernel_rfl) rfl rfl (by simp) ?_
    intro ho hbM hbA
    generalize els.map decI = us at ho
    simp only at ho
    obtain ⟨ho, hlen⟩ := ho
    subst ho
    simp only [List.length_map] at hlen
    have hbt : tok.bel M.length := by simp at hbA; exact hbA
    have hΓ := gamL_cons awake_ok (gamL_cons new_ok (gamL_cons put_ok (gamL_cons size_ok (gamL_cons time_ok (gamL_cons key_ok (gamL_cons counts_ok (P := Try.prog) gamL_nil))))))
    have hb : bitsOp .and .i64 b 15 = b % 16 := and_mask' (j := 4) (by omega) b 15 rfl
    generalize hw : b % 16 = w at hb
    have hc : checkF 1000 8 w = 0 := by unfold checkF; split <;> omega
    refine AWp.steps Try.mixed Try.tyOk hΓ (kp := fun | 0 => [4] | 1 => [16] | 2 => [4] | 3 => [5, 6] | 4 => [25] | 5 => [4] | 6 => [7] | 7 => [8] | 8 => [33] | 9 => [8] | 10 => [9] | 11 => [42, 43] | 12 => [44] | 13 => [10] | 14 => [11, 12] | 15 => [7] | 16 => [103] | 17 => [4] | 18 => [43] | 19 => [13, 14] | 20 => [4] | _ => []) (cp := fun _ => []) 5 fun y1 Q1 hy1 hQ1 => ?_
    simp [awakeS, newS, hb, hc, FM.enc]
    subst hy1
    refine AWp.join (fun σ => σ = ⟨[⟨0, none, .sl (us.map (encI .i64)) .no⟩, ⟨5, none, .ptr (M.length + 1) 0⟩], M ++ [.dead, .blk (FM.enc ⟨true, 1000, 8, w, [], (min us.length 30 : Nat), 0⟩)]⟩) (fun Q2 hQ2 => ?_) ?_
    · refine AWp.steps Try.mixed Try.tyOk hΓ (kp := fun | 0 => [4] | 1 => [16] | 2 => [4] | 3 => [5, 6] | 4 => [25] | 5 => [4] | 6 => [7] | 7 => [8] | 8 => [33] | 9 => [8] | 10 => [9] | 11 => [42, 43] | 12 => [44] | 13 => [10] | 14 => [11, 12] | 15 => [7] | 16 => [103] | 17 => [4] | 18 => [43] | 19 => [13, 14] | 20 => [4] | _ => []) (cp := fun _ => []) 1 fun y3 Q3 hy3 hQ3 => ?_
      simp
      subst hy3
      refine AWp.block (AWp.loop' (fun k σ => ∃ i a : Nat, i ≤ us.length ∧ i ≤ 30 ∧ a ≤ 7 + 8 * i ∧ k = 30 - i ∧ σ = ⟨[⟨0, none, .sl (us.map (encI .i64)) .no⟩, ⟨5, none, .ptr (M.length + 1) 0⟩, ⟨7, none, .lit (.int .i64 a)⟩, ⟨8, none, .lit (.int .i64 i)⟩],
        M ++ [.dead, .blk (FM.enc ⟨true, 1000, 8, w, [], i, 0⟩)]⟩) 30 (M.length + 2) _ ?_ ⟨0, 7, by omega, by omega, by omega, rfl, rfl⟩ ?_)
      · simp [FM.enc, hbM]
      · rintro k σ ⟨i, a, hi, hi3, ha, rfl, rfl⟩
        refine AWp.steps Try.mixed Try.tyOk hΓ (kp := fun | 0 => [4] | 1 => [16] | 2 => [4] | 3 => [5, 6] | 4 => [25] | 5 => [4] | 6 => [7] | 7 => [8] | 8 => [33] | 9 => [8] | 10 => [9] | 11 => [42, 43] | 12 => [44] | 13 => [10] | 14 => [11, 12] | 15 => [7] | 16 => [103] | 17 => [4] | 18 => [43] | 19 => [13, 14] | 20 => [4] | _ => []) (cp := fun _ => []) 1 fun y4 Q4 hy4 hQ4 => ?_
        simp
        refine ⟨fun hil hi30 => ?_, fun hge => ?_⟩
        · subst hy4
          refine AWp.join (fun σ => ∃ a' : Nat, a' ≤ 7 + 8 * (i + 1) ∧ σ = ⟨[⟨0, none, .sl (us.map (encI .i64)) .no⟩, ⟨5, none, .ptr (M.length + 1) 0⟩, ⟨7, none, .lit (.int .i64 a')⟩, ⟨8, none, .lit (.int .i64 i)⟩],
            M ++ [.dead, .blk (FM.enc ⟨true, 1000, 8, w, [], (i + 1 : Nat), 0⟩)]⟩) (fun Q5 hQ5 => ?_) ?_
          · have hx : bitsOp .and .i64 (us[i]?.getD 0) 7 = (us[i]?.getD 0) % 8 := and_mask' (j := 3) (by omega) _ 7 rfl
            obtain ⟨n, hn, hn1, hn8⟩ : ∃ n : Nat, IntKind.i64.wrap (1 + (us[i]?.getD 0) % 8) = n ∧ 1 ≤ n ∧ n ≤ 8 := by
              refine ⟨(1 + (us[i]?.getD 0) % 8).toNat, ?_, by omega, by omega⟩
              rw [wrap_i64 (by omega) (by omega)]; omega
            refine AWp.block (AWp.steps Try.mixed Try.tyOk hΓ (kp := fun | 0 => [4] | 1 => [16] | 2 => [4] | 3 => [5, 6] | 4 => [25] | 5 => [4] | 6 => [7] | 7 => [8] | 8 => [33] | 9 => [8] | 10 => [9] | 11 => [42, 43] | 12 => [44] | 13 => [10] | 14 => [11, 12] | 15 => [7] | 16 => [103] | 17 => [4] | 18 => [43] | 19 => [13, 14] | 20 => [4] | _ => []) (cp := fun _ => []) 2 fun y6 Q6 hy6 hQ6 => ?_)
            simp [hx, hn]
            refine ⟨hil, ?_⟩
            subst hy6
            refine AWp.block (AWp.loop' (fun k σ => ∃ j : Nat, j ≤ n ∧ k = n - j ∧ σ = ⟨[⟨0, none, .sl (us.map (encI .i64)) .no⟩, ⟨5, none, .ptr (M.length + 1) 0⟩, ⟨7, none, .lit (.int .i64 (a + j : Nat))⟩, ⟨8, none, .lit (.int .i64 i)⟩, ⟨9, none, .lit (.int .i64 n)⟩, ⟨42, none, .lit (.int .i64 n)⟩, ⟨43, none, .lit (.int .i64 j)⟩],
              M ++ [.dead, .blk (cleanM w a i n j).enc]⟩) n (M.length + 2) _ ?_ ⟨0, by omega, rfl, rfl⟩ ?_)
            · have h0 : (0 : Nat) < n := hn1
              simp [cleanM, h0, cleanRow, FM.enc, hbM]
            · rintro k σ ⟨j, hj, rfl, rfl⟩
              refine AWp.steps Try.mixed Try.tyOk hΓ (kp := fun | 0 => [4] | 1 => [16] | 2 => [4] | 3 => [5, 6] | 4 => [25] | 5 => [4] | 6 => [7] | 7 => [8] | 8 => [33] | 9 => [8] | 10 => [9] | 11 => [42, 43] | 12 => [44] | 13 => [10] | 14 => [11, 12] | 15 => [7] | 16 => [103] | 17 => [4] | 18 => [43] | 19 => [13, 14] | 20 => [4] | _ => []) (cp := fun _ => []) 2 fun y7 Q7 hy7 hQ7 => ?_
              simp
              refine ⟨fun hjn => ?_, fun hjn => ?_⟩
              · subst hy7
                refine AWp.join (fun σ => σ = ⟨[⟨0, none, .sl (us.map (encI .i64)) .no⟩, ⟨5, none, .ptr (M.length + 1) 0⟩, ⟨7, none, .lit (.int .i64 (a + (j + 1) : Nat))⟩, ⟨8, none, .lit (.int .i64 i)⟩, ⟨9, none, .lit (.int .i64 n)⟩, ⟨42, none, .lit (.int .i64 n)⟩, ⟨43, none, .lit (.int .i64 j)⟩],
                  M ++ [.dead, .blk (cleanM w a i n (j + 1)).enc]⟩) (fun Q8 hQ8 => ?_) ?_
                · have e1 : IntKind.i64.wrap ((n : Int) - 1) = ((n - 1 : Nat) : Int) := by rw [wrap_i64 (by omega) (by omega)]; omega
                  have e2 : IntKind.i64.wrap ((a : Int) + j + 1) = (a : Int) + (j + 1) := by rw [wrap_i64 (by omega) (by omega)]; omega
                  have e3 : IntKind.i64.wrap (3 * (n : Int)) = 3 * n := wrap_i64 (by omega) (by omega)
                  have hp := put_clean a w i n j (by omega) hjn hn8 (by omega) (by omega)
                  have hu : FU.mk ((a : Int) + j) (i : Int) ((j : Int) == IntKind.i64.wrap ((n : Int) - 1)) ((j : Int) == 0) ((j : Int) == 0 && (i : Int) == 0) ⟨#[97, 98, 99]⟩ 0 = cleanU a i n j := by
                    rw [e1]
                    have h1 : ((j : Int) == ((n - 1 : Nat) : Int)) = (j + 1 == n) := by rw [Bool.eq_iff_iff]; simp; omega
                    have h2 : ((j : Int) == 0) = (j == 0) := by rw [Bool.eq_iff_iff]; simp
                    have h3 : ((i : Int) == 0) = (i == 0) := by rw [Bool.eq_iff_iff]; simp
                    rw [h1, h2, h3]; rfl
                  have hcm : cleanM w a i n j = ⟨true, 1000, 8, w, cleanRow a i n j, i, 0⟩ := by simp [cleanM, hjn]
                  have hrl : (cleanRow a i n j).length ≤ 1048575 := by simp [cleanRow]; omega
                  by_cases hjl : j + 1 = n
                  · rw [if_pos hjl] at hp
                    have hcm' : cleanM w a i n (j + 1) = ⟨true, 1000, 8, w, [], (i + 1 : Nat), 0⟩ := by simp [cleanM, hjl]
                    rw [hcm, hcm']
                    refine AWp.block (vc_sound Try.mixed Try.tyOk hΓ (kp := fun | 0 => [4] | 1 => [16] | 2 => [4] | 3 => [5, 6] | 4 => [25] | 5 => [4] | 6 => [7] | 7 => [8] | 8 => [33] | 9 => [8] | 10 => [9] | 11 => [42, 43] | 12 => [44] | 13 => [10] | 14 => [11, 12] | 15 => [7] | 16 => [103] | 17 => [4] | 18 => [43] | 19 => [13, 14] | 20 => [4] | _ => []) (cp := fun _ => []) ?_)
                    have ct := clean_time a i n n hn1
                    have ck : keyF (cleanRow a i n n) = ((i : Int) == 0) := by
                      rw [clean_key a i n n hn1, Bool.eq_iff_iff]; simp
                    have cs := clean_size a i n n (by omega)
                    have cl : (cleanRow a i n n).length = n := by simp [cleanRow]
                    have hjb : ((j : Int) == IntKind.i64.wrap ((n : Int) - 1)) = true := by rw [e1]; simp; omega
                    rw [hjb] at hu
                    simp [putS, timeS, keyS, sizeS, hu, hp, FM.enc, e2, e3, ct, ck, cs, cl, hjb]
                    exact ⟨by rw [← hu]; exact ⟨hrl, rfl, rfl, rfl, rfl, rfl, rfl, rfl⟩, by omega, M.length + 2, by omega, by omega, by omega, by simp, by simp [hbM]⟩
                  · rw [if_neg hjl] at hp
                    have hcm' : cleanM w a i n (j + 1) = ⟨true, 1000, 8, w, cleanRow a i n (j + 1), i, 0⟩ := by
                      have : j + 1 < n := by omega
                      simp [cleanM, this]
                    rw [hcm, hcm']
                    refine AWp.block (vc_sound Try.mixed Try.tyOk hΓ (kp := fun | 0 => [4] | 1 => [16] | 2 => [4] | 3 => [5, 6] | 4 => [25] | 5 => [4] | 6 => [7] | 7 => [8] | 8 => [33] | 9 => [8] | 10 => [9] | 11 => [42, 43] | 12 => [44] | 13 => [10] | 14 => [11, 12] | 15 => [7] | 16 => [103] | 17 => [4] | 18 => [43] | 19 => [13, 14] | 20 => [4] | _ => []) (cp := fun _ => []) ?_)
                    have hjb : ((j : Int) == IntKind.i64.wrap ((n : Int) - 1)) = false := by rw [e1]; simp; omega
                    rw [hjb] at hu
                    simp [putS, timeS, keyS, sizeS, hu, hp, FM.enc, e2, e3, hjb]
                    exact ⟨by rw [← hu]; exact ⟨hrl, rfl, rfl, rfl, rfl, rfl, rfl, rfl⟩, M.length + 2, by omega, by omega, by omega, by simp, by simp [hbM]⟩
                · rintro _ rfl
                  refine vc_sound Try.mixed Try.tyOk hΓ (kp := fun | 0 => [4] | 1 => [16] | 2 => [4] | 3 => [5, 6] | 4 => [25] | 5 => [4] | 6 => [7] | 7 => [8] | 8 => [33] | 9 => [8] | 10 => [9] | 11 => [42, 43] | 12 => [44] | 13 => [10] | 14 => [11, 12] | 15 => [7] | 16 => [103] | 17 => [4] | 18 => [43] | 19 => [13, 14] | 20 => [4] | _ => []) (cp := fun _ => []) ?_
                  have e1 : IntKind.i64.wrap ((j : Int) + 1) = ((j + 1 : Nat) : Int) := by rw [wrap_i64 (by omega) (by omega)]; omega
                  simp [e1]
                  rw [hQ7]
                  exact ⟨n - (j + 1), M.length + 2, _, by omega, by simp [hbM, FM.enc], j + 1, hjn, rfl, rfl⟩
              · have : j = n := by omega
                subst this
                rw [hQ7]
                simp only [thenS, blockS]
                rw [hQ6]
                exact ⟨M.length + 2, _, by simp [hbM, FM.enc, cleanM], a + j, by omega, rfl⟩
          · rintro _ ⟨a', ha', rfl⟩
            refine vc_sound Try.mixed Try.tyOk hΓ (kp := fun | 0 => [4] | 1 => [16] | 2 => [4] | 3 => [5, 6] | 4 => [25] | 5 => [4] | 6 => [7] | 7 => [8] | 8 => [33] | 9 => [8] | 10 => [9] | 11 => [42, 43] | 12 => [44] | 13 => [10] | 14 => [11, 12] | 15 => [7] | 16 => [103] | 17 => [4] | 18 => [43] | 19 => [13, 14] | 20 => [4] | _ => []) (cp := fun _ => []) ?_
            have e1 : IntKind.i64.wrap ((i : Int) + 1) = ((i + 1 : Nat) : Int) := by rw [wrap_i64 (by omega) (by omega)]; omega
            simp [e1]
            rw [hQ4]
            exact ⟨30 - (i + 1), M.length + 2, _, by omega, by simp [hbM, FM.enc], i + 1, a', by omega, by omega, ha', rfl, rfl⟩
        · have hmin : min us.length 30 = i := by omega
          rw [hQ4]
          simp only [thenS, blockS]
          rw [hQ3]
          exact ⟨M.length + 2, _, by simp [hbM, FM.enc, hmin], rfl⟩
    · rintro _ rfl
      refine vc_sound Try.mixed Try.tyOk hΓ (kp := fun | 0 => [4] | 1 => [16] | 2 => [4] | 3 => [5, 6] | 4 => [25] | 5 => [4] | 6 => [7] | 7 => [8] | 8 => [33] | 9 => [8] | 10 => [9] | 11 => [42, 43] | 12 => [44] | 13 => [10] | 14 => [11, 12] | 15 => [7] | 16 => [103] | 17 => [4] | 18 => [43] | 19 => [13, 14] | 20 => [4] | _ => []) (cp := fun _ => []) ?_
      rw [hQ1]
      simp [countsS, FM.enc, hbM]
      omega
  · cases h

theorem clean_call : ∀ xs, ShAll Try.prog Try.f5.params.toList xs → ∃ o : Prop, o ∧ CallOk Try.prog 5 xs [] { av := .lit (.bool true), obl := o } := by
  intro xs h
  rw [Try.params5] at h
  obtain ⟨a0, xs, rfl, h0, h⟩ := shAll_cons h
  obtain ⟨a1, xs, rfl, h1, h⟩ := shAll_cons h
  obtain rfl := shAll_nil h
  obtain ⟨v0, rfl, w0, _⟩ := shV_ints (k := .i64) (e := 3) (by kernel_rfl) (by kernel_rfl) h0
  obtain ⟨v1, rfl, w1⟩ := shV_int (k := .i64) (by kernel_rfl) h1
  exact ⟨_, ⟨by simp, by simpa using w0⟩, clean_ok _ _ _ rfl⟩
end Go.Proofs
