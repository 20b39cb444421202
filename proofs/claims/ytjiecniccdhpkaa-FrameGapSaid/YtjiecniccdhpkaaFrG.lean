/- FrameGap: its walk, and its law. -/
import Derived.Test.YtjiecniccdhpkaaFrC
import Derived.Test.YtjiecniccdhpkaaNu
namespace Go.Proofs
open Go.Ab

@[simp] theorem FM.eta (m : FM) : FM.mk m.Video m.Bytes m.Units m.Wait m.opn m.whole m.lost = m := rfl

def abc : ByteArray := ⟨#[97, 98, 99]⟩
/-- A maker, the number that comes next, how many frames were whole. -/
structure Gap where
  m : FM
  now : Int
  count : Int
def gapUnit (n : Nat) (s : Gap) (i k : Nat) : FU := ⟨s.now, i, k + 1 == n, k == 0, false, abc, 0⟩
def gapStep (n gone : Nat) (i : Nat) (s : Gap) (k : Nat) : Gap :=
  if i = 1 ∧ k = gone then ⟨s.m, IntKind.i64.wrap (s.now + 1), s.count⟩
  else let r := putF s.m (gapUnit n s i k); ⟨r.1, IntKind.i64.wrap (s.now + 1), if r.2.2 then IntKind.i64.wrap (s.count + 1) else s.count⟩
def gap0 : Gap := ⟨⟨true, 1000, 8, 9, [], 0, 0⟩, 7, 0⟩
def gapAt (n gone i k : Nat) : Gap := (List.range k).foldl (gapStep n gone i) ((List.range i).foldl (fun s i => (List.range n).foldl (gapStep n gone i) s) gap0)
theorem gapAt_zero (n gone : Nat) : gapAt n gone 0 0 = gap0 := rfl
theorem gapAt_succ (n gone i k : Nat) : gapAt n gone i (k + 1) = gapStep n gone i (gapAt n gone i k) k := by
  simp [gapAt, List.range_succ]
theorem gapAt_row (n gone i : Nat) : gapAt n gone (i + 1) 0 = gapAt n gone i n := by
  simp [gapAt, List.range_succ]
def gapGood (n gone : Nat) : Bool :=
  ((List.range 3).all fun i => (List.range n).all fun k => let s := gapAt n gone i k
    decide (s.m.opn.length ≤ 1048575) && ((i = 1 ∧ k = gone) || (let r := putF s.m (gapUnit n s i k); !r.2.2 || timeF r.2.1 != 1))) &&
  (let s := gapAt n gone 3 0; s.count == 2 && s.m.whole == 2 && s.m.lost == (n : Int) - 1)
theorem gapAll : ([2, 3, 4, 5].all fun n => (List.range n).all fun g => gapGood n g) = true := by kernel_rfl

def gapS : Sp
  | [.lit (.int .i64 _), .lit (.int .i64 _)], _ => some { av := .lit (.bool true) }
  | _, _ => none

set_option maxHeartbeats 1000000 in
theorem gap_ok : SpecOk Try.prog 6 gapS := by
  intro l M out h
  unfold gapS at h
  split at h
  · rename_i a b
    cases h
    refine call_of_awp Try.tyOk Try.func6 rfl (by kernel_rfl) rfl rfl (by simp) ?_
    intro _ hbM hbA
    have hΓ := gamL_cons awake_ok (gamL_cons new_ok (gamL_cons put_ok (gamL_cons time_ok (gamL_cons counts_ok (P := Try.prog) gamL_nil))))
    have hc : checkF 1000 8 9 = 0 := by kernel_rfl
    have ha : bitsOp .and .i64 a 3 = a % 4 := and_mask' (j := 2) (by omega) a 3 rfl
    have hb : bitsOp .and .i64 b 255 = b % 256 := and_mask' (j := 8) (by omega) b 255 rfl
    obtain ⟨n, hn, hn2, hn5⟩ : ∃ n : Nat, IntKind.i64.wrap (2 + a % 4) = n ∧ 2 ≤ n ∧ n ≤ 5 := by
      refine ⟨(2 + a % 4).toNat, ?_, by omega, by omega⟩
      rw [wrap_i64 (by omega) (by omega)]; omega
    obtain ⟨gone, hg, hgn⟩ : ∃ gone : Nat, (b % 256).tmod n = gone ∧ gone < n := by
      refine ⟨((b % 256).tmod n).toNat, ?_, ?_⟩
      · rw [Int.toNat_of_nonneg (Int.tmod_nonneg _ (by omega))]
      · have := Int.tmod_lt_of_pos (b % 256) (show (0 : Int) < n by omega)
        have := Int.tmod_nonneg (n : Int) (show 0 ≤ b % 256 by omega)
        omega
    have hgood : gapGood n gone = true := by
      have := List.all_eq_true.1 gapAll n (by simp; omega)
      exact List.all_eq_true.1 this gone (by simpa using hgn)
    refine AWp.steps Try.mixed Try.tyOk hΓ (kp := fun | 0 => [4] | 1 => [17] | 2 => [4] | 3 => [0] | 4 => [1] | 5 => [5] | 6 => [7] | 7 => [8] | 8 => [30] | 9 => [31] | 10 => [9] | 11 => [33, 34] | 12 => [35] | 13 => [10] | 14 => [11] | 15 => [7] | 16 => [54] | 17 => [12, 13] | 18 => [61] | 19 => [8] | 20 => [66] | 21 => [4] | 22 => [34] | 23 => [30] | 24 => [14, 15] | 25 => [4] | _ => []) (cp := fun _ => []) 7 fun y1 Q1 hy1 hQ1 => ?_
    simp [awakeS, newS, hc, ha, hb, hn, hg, FM.enc]
    refine ⟨by omega, ?_⟩
    subst hy1
    have hg2 := hgood
    simp only [gapGood, Bool.and_eq_true] at hg2
    obtain ⟨hall, hend⟩ := hg2
    refine AWp.join (fun σ => σ = ⟨[⟨0, none, .lit (.int .i64 n)⟩, ⟨5, none, .ptr (M.length + 1) 0⟩, ⟨8, none, .lit (.int .i64 (gapAt n gone 3 0).count)⟩], M ++ [.dead, .blk (gapAt n gone 3 0).m.enc]⟩) (fun Q2 hQ2 => ?_) ?_
    · refine AWp.steps Try.mixed Try.tyOk hΓ (kp := fun | 0 => [4] | 1 => [17] | 2 => [4] | 3 => [0] | 4 => [1] | 5 => [5] | 6 => [7] | 7 => [8] | 8 => [30] | 9 => [31] | 10 => [9] | 11 => [33, 34] | 12 => [35] | 13 => [10] | 14 => [11] | 15 => [7] | 16 => [54] | 17 => [12, 13] | 18 => [61] | 19 => [8] | 20 => [66] | 21 => [4] | 22 => [34] | 23 => [30] | 24 => [14, 15] | 25 => [4] | _ => []) (cp := fun _ => []) 1 fun y3 Q3 hy3 hQ3 => ?_
      simp
      subst hy3
      refine AWp.block (AWp.loop' (fun k σ => ∃ i : Nat, i ≤ 3 ∧ k = 3 - i ∧ σ = ⟨[⟨0, none, .lit (.int .i64 n)⟩, ⟨1, none, .lit (.int .i64 gone)⟩, ⟨5, none, .ptr (M.length + 1) 0⟩, ⟨7, none, .lit (.int .i64 (gapAt n gone i 0).now)⟩, ⟨8, none, .lit (.int .i64 (gapAt n gone i 0).count)⟩, ⟨30, none, .lit (.int .i64 i)⟩],
        M ++ [.dead, .blk (gapAt n gone i 0).m.enc]⟩) 3 (M.length + 2) _ ?_ ⟨0, by omega, rfl, rfl⟩ ?_)
      · simp [gapAt_zero, gap0, FM.enc, hbM]
      · rintro k σ ⟨i, hi, rfl, rfl⟩
        refine AWp.steps Try.mixed Try.tyOk hΓ (kp := fun | 0 => [4] | 1 => [17] | 2 => [4] | 3 => [0] | 4 => [1] | 5 => [5] | 6 => [7] | 7 => [8] | 8 => [30] | 9 => [31] | 10 => [9] | 11 => [33, 34] | 12 => [35] | 13 => [10] | 14 => [11] | 15 => [7] | 16 => [54] | 17 => [12, 13] | 18 => [61] | 19 => [8] | 20 => [66] | 21 => [4] | 22 => [34] | 23 => [30] | 24 => [14, 15] | 25 => [4] | _ => []) (cp := fun _ => []) 2 fun y4 Q4 hy4 hQ4 => ?_
        simp
        refine ⟨fun hi3 => ?_, fun hi3 => ?_⟩
        · subst hy4
          refine AWp.join (fun σ => σ = ⟨[⟨0, none, .lit (.int .i64 n)⟩, ⟨1, none, .lit (.int .i64 gone)⟩, ⟨5, none, .ptr (M.length + 1) 0⟩, ⟨7, none, .lit (.int .i64 (gapAt n gone (i + 1) 0).now)⟩, ⟨8, none, .lit (.int .i64 (gapAt n gone (i + 1) 0).count)⟩, ⟨30, none, .lit (.int .i64 i)⟩],
            M ++ [.dead, .blk (gapAt n gone (i + 1) 0).m.enc]⟩) (fun Q5 hQ5 => ?_) ?_
          · refine AWp.block (AWp.steps Try.mixed Try.tyOk hΓ (kp := fun | 0 => [4] | 1 => [17] | 2 => [4] | 3 => [0] | 4 => [1] | 5 => [5] | 6 => [7] | 7 => [8] | 8 => [30] | 9 => [31] | 10 => [9] | 11 => [33, 34] | 12 => [35] | 13 => [10] | 14 => [11] | 15 => [7] | 16 => [54] | 17 => [12, 13] | 18 => [61] | 19 => [8] | 20 => [66] | 21 => [4] | 22 => [34] | 23 => [30] | 24 => [14, 15] | 25 => [4] | _ => []) (cp := fun _ => []) 2 fun y6 Q6 hy6 hQ6 => ?_)
            simp
            subst hy6
            refine AWp.block (AWp.loop' (fun k σ => ∃ j : Nat, j ≤ n ∧ k = n - j ∧ σ = ⟨[⟨0, none, .lit (.int .i64 n)⟩, ⟨1, none, .lit (.int .i64 gone)⟩, ⟨5, none, .ptr (M.length + 1) 0⟩, ⟨7, none, .lit (.int .i64 (gapAt n gone i j).now)⟩, ⟨8, none, .lit (.int .i64 (gapAt n gone i j).count)⟩, ⟨30, none, .lit (.int .i64 i)⟩, ⟨9, none, .lit (.int .i64 i)⟩, ⟨33, none, .lit (.int .i64 n)⟩, ⟨34, none, .lit (.int .i64 j)⟩],
              M ++ [.dead, .blk (gapAt n gone i j).m.enc]⟩) n (M.length + 2) _ ?_ ⟨0, by omega, rfl, rfl⟩ ?_)
            · simp [FM.enc, hbM]
            · rintro k σ ⟨j, hj, rfl, rfl⟩
              refine AWp.steps Try.mixed Try.tyOk hΓ (kp := fun | 0 => [4] | 1 => [17] | 2 => [4] | 3 => [0] | 4 => [1] | 5 => [5] | 6 => [7] | 7 => [8] | 8 => [30] | 9 => [31] | 10 => [9] | 11 => [33, 34] | 12 => [35] | 13 => [10] | 14 => [11] | 15 => [7] | 16 => [54] | 17 => [12, 13] | 18 => [61] | 19 => [8] | 20 => [66] | 21 => [4] | 22 => [34] | 23 => [30] | 24 => [14, 15] | 25 => [4] | _ => []) (cp := fun _ => []) 2 fun y7 Q7 hy7 hQ7 => ?_
              simp
              refine ⟨fun hjn => ?_, fun hjn => ?_⟩
              · subst hy7
                have hgj := List.all_eq_true.1 (List.all_eq_true.1 hall i (by simp; omega)) j (by simpa using hjn)
                simp only [Bool.and_eq_true, decide_eq_true_eq] at hgj
                obtain ⟨hlen, hgj⟩ := hgj
                have hst := gapAt_succ n gone i j
                refine AWp.join (fun σ => σ = ⟨[⟨0, none, .lit (.int .i64 n)⟩, ⟨1, none, .lit (.int .i64 gone)⟩, ⟨5, none, .ptr (M.length + 1) 0⟩, ⟨7, none, .lit (.int .i64 (gapAt n gone i (j + 1)).now)⟩, ⟨8, none, .lit (.int .i64 (gapAt n gone i (j + 1)).count)⟩, ⟨30, none, .lit (.int .i64 i)⟩, ⟨9, none, .lit (.int .i64 i)⟩, ⟨33, none, .lit (.int .i64 n)⟩, ⟨34, none, .lit (.int .i64 j)⟩],
                  M ++ [.dead, .blk (gapAt n gone i (j + 1)).m.enc]⟩) (fun Q8 hQ8 => ?_) ?_
                · have e1 : IntKind.i64.wrap ((n : Int) - 1) = ((n - 1 : Nat) : Int) := by rw [wrap_i64 (by omega) (by omega)]; omega
                  generalize hs : gapAt n gone i j = s at *
                  by_cases hig : i = 1 ∧ j = gone
                  · obtain ⟨rfl, rfl⟩ := hig
                    rw [hst]
                    refine AWp.block (vc_sound Try.mixed Try.tyOk hΓ (kp := fun | 0 => [4] | 1 => [17] | 2 => [4] | 3 => [0] | 4 => [1] | 5 => [5] | 6 => [7] | 7 => [8] | 8 => [30] | 9 => [31] | 10 => [9] | 11 => [33, 34] | 12 => [35] | 13 => [10] | 14 => [11] | 15 => [7] | 16 => [54] | 17 => [12, 13] | 18 => [61] | 19 => [8] | 20 => [66] | 21 => [4] | 22 => [34] | 23 => [30] | 24 => [14, 15] | 25 => [4] | _ => []) (cp := fun _ => []) ?_)
                    simp [gapStep]
                    exact ⟨M.length + 2, by omega, by omega, by omega, by simp, by simp [hbM]⟩
                  · rw [hst]
                    refine AWp.block (vc_sound Try.mixed Try.tyOk hΓ (kp := fun | 0 => [4] | 1 => [17] | 2 => [4] | 3 => [0] | 4 => [1] | 5 => [5] | 6 => [7] | 7 => [8] | 8 => [30] | 9 => [31] | 10 => [9] | 11 => [33, 34] | 12 => [35] | 13 => [10] | 14 => [11] | 15 => [7] | 16 => [54] | 17 => [12, 13] | 18 => [61] | 19 => [8] | 20 => [66] | 21 => [4] | 22 => [34] | 23 => [30] | 24 => [14, 15] | 25 => [4] | _ => []) (cp := fun _ => []) ?_)
                    have hu : FU.mk s.now (i : Int) ((j : Int) == IntKind.i64.wrap ((n : Int) - 1)) ((j : Int) == 0) false ⟨#[97, 98, 99]⟩ 0 = gapUnit n s i j := by
                      rw [e1]
                      have h1 : ((j : Int) == ((n - 1 : Nat) : Int)) = (j + 1 == n) := by rw [Bool.eq_iff_iff]; simp; omega
                      have h2 : ((j : Int) == 0) = (j == 0) := by rw [Bool.eq_iff_iff]; simp
                      rw [h1, h2]; rfl
                    have hig1 : (i : Int) = 1 → ¬ (j : Int) = gone := fun h1 h2 => hig ⟨by omega, by omega⟩
                    have hig2 : ((i : Int) == 1 && (j : Int) == gone) = false := by
                      simp; exact hig1
                    generalize hr : putF s.m (gapUnit n s i j) = r at *
                    simp [gapStep, hig, hig2, putS, timeS, hu, hr, FM.enc]
                    refine ⟨by rw [← hu]; exact ⟨hlen, rfl, rfl, rfl, rfl, rfl, rfl, rfl⟩, fun hok => ⟨fun ht => ?_, fun ht => ?_⟩, fun hok => ?_⟩
                    · simp [hig, hok, ht] at hgj
                    · simp only [hok]
                      exact ⟨M.length + 2, by omega, by omega, by simp, by omega, by simp, by simp [hbM]⟩
                    · simp only [hok]
                      exact ⟨M.length + 2, by omega, by omega, by simp, by omega, by simp, by simp [hbM]⟩
                · rintro _ rfl
                  refine vc_sound Try.mixed Try.tyOk hΓ (kp := fun | 0 => [4] | 1 => [17] | 2 => [4] | 3 => [0] | 4 => [1] | 5 => [5] | 6 => [7] | 7 => [8] | 8 => [30] | 9 => [31] | 10 => [9] | 11 => [33, 34] | 12 => [35] | 13 => [10] | 14 => [11] | 15 => [7] | 16 => [54] | 17 => [12, 13] | 18 => [61] | 19 => [8] | 20 => [66] | 21 => [4] | 22 => [34] | 23 => [30] | 24 => [14, 15] | 25 => [4] | _ => []) (cp := fun _ => []) ?_
                  have e1 : IntKind.i64.wrap ((j : Int) + 1) = ((j + 1 : Nat) : Int) := by rw [wrap_i64 (by omega) (by omega)]; omega
                  simp [e1]
                  rw [hQ7]
                  exact ⟨n - (j + 1), M.length + 2, _, by omega, by simp [hbM, FM.enc], j + 1, hjn, rfl, rfl⟩
              · have : j = n := by omega
                subst this
                rw [hQ7]
                simp only [thenS, blockS]
                rw [hQ6]
                exact ⟨M.length + 2, _, by simp [hbM, FM.enc, gapAt_row], rfl⟩
          · rintro _ rfl
            refine vc_sound Try.mixed Try.tyOk hΓ (kp := fun | 0 => [4] | 1 => [17] | 2 => [4] | 3 => [0] | 4 => [1] | 5 => [5] | 6 => [7] | 7 => [8] | 8 => [30] | 9 => [31] | 10 => [9] | 11 => [33, 34] | 12 => [35] | 13 => [10] | 14 => [11] | 15 => [7] | 16 => [54] | 17 => [12, 13] | 18 => [61] | 19 => [8] | 20 => [66] | 21 => [4] | 22 => [34] | 23 => [30] | 24 => [14, 15] | 25 => [4] | _ => []) (cp := fun _ => []) ?_
            have e1 : IntKind.i64.wrap ((i : Int) + 1) = ((i + 1 : Nat) : Int) := by rw [wrap_i64 (by omega) (by omega)]; omega
            simp [e1]
            rw [hQ4]
            exact ⟨3 - (i + 1), M.length + 2, _, by omega, by simp [hbM, FM.enc], i + 1, by omega, rfl, rfl⟩
        · have : i = 3 := by omega
          subst this
          rw [hQ4]
          simp
          rw [hQ3]
          exact ⟨M.length + 2, _, by simp [hbM, FM.enc], rfl⟩
    · rintro _ rfl
      refine vc_sound Try.mixed Try.tyOk hΓ (kp := fun | 0 => [4] | 1 => [17] | 2 => [4] | 3 => [0] | 4 => [1] | 5 => [5] | 6 => [7] | 7 => [8] | 8 => [30] | 9 => [31] | 10 => [9] | 11 => [33, 34] | 12 => [35] | 13 => [10] | 14 => [11] | 15 => [7] | 16 => [54] | 17 => [12, 13] | 18 => [61] | 19 => [8] | 20 => [66] | 21 => [4] | 22 => [34] | 23 => [30] | 24 => [14, 15] | 25 => [4] | _ => []) (cp := fun _ => []) ?_
      rw [hQ1]
      simp [countsS, FM.enc, hbM]
      simp at hend
      rw [wrap_i64 (by omega) (by omega)]
      exact hend
  · cases h

theorem gap_call : ∀ xs, ShAll Try.prog Try.f6.params.toList xs → ∃ o : Prop, o ∧ CallOk Try.prog 6 xs [] { av := .lit (.bool true), obl := o } := by
  intro xs h
  rw [Try.params6] at h
  obtain ⟨a0, xs, rfl, h0, h⟩ := shAll_cons h
  obtain ⟨a1, xs, rfl, h1, h⟩ := shAll_cons h
  obtain rfl := shAll_nil h
  obtain ⟨v0, rfl, w0⟩ := shV_int (k := .i64) (by kernel_rfl) h0
  obtain ⟨v1, rfl, w1⟩ := shV_int (k := .i64) (by kernel_rfl) h1
  exact ⟨True, trivial, gap_ok _ _ _ rfl⟩
end Go.Proofs
