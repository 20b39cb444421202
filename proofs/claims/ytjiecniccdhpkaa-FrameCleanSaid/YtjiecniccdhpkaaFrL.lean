/- Plain laws of a maker's Put: sounds, and pictures whose packets come in order. -/
import Derived.Test.YtjiecniccdhpkaaFrB
namespace Go.Proofs
open Go.Ab

theorem sizeF_one (u : FU) : sizeF [u] = IntKind.i64.wrap (u.Text.size : Int) := by simp [sizeF]
theorem sizeF_snoc (l : List FU) (u : FU) : sizeF (l ++ [u]) = IntKind.i64.wrap (sizeF l + u.Text.size) := by simp [sizeF]
theorem sizeF_all {m : Nat} : ∀ (l : List FU), l.length ≤ 1000 → m ≤ 1000 → (∀ u ∈ l, u.Text.size = m) → sizeF l = (l.length : Int) * m := by
  intro l
  induction h : l.length generalizing l with
  | zero => intro _ _ _; rw [List.length_eq_zero_iff.1 h]; simp [sizeF]
  | succ n ih =>
    intro hl hm hu
    rcases List.eq_nil_or_concat l with rfl | ⟨r, v, rfl⟩
    · simp at h
    · rw [List.concat_eq_append] at *
      have hr : r.length = n := by simpa using h
      rw [sizeF_snoc, ih r hr (by omega) hm (fun u h' => hu u (by simp [h'])), hu v (by simp)]
      have h1 : ((n : Int)) * m ≤ 1000 * 1000 := Int.mul_le_mul (by omega) (by omega) (by omega) (by omega)
      have h2 : 0 ≤ ((n : Int)) * m := Int.mul_nonneg (by omega) (by omega)
      rw [wrap_i64 (by omega) (by omega)]
      push_cast
      rw [Int.add_mul]; omega

/-- Of sounds each unit is a frame, or lost. -/
theorem put_sound (most wh lo : Nat) (u : FU) (h1 : wh + lo < 1000) (hu : u.Text.size < 1000) :
    putF ⟨false, most, 1, 3, [], wh, lo⟩ u = if u.Text.size ≤ most then (⟨false, most, 1, 3, [], (wh + 1 : Nat), lo⟩, [u], true) else (⟨false, most, 1, 3, [], wh, (lo + 1 : Nat)⟩, [], false) := by
  have e1 : IntKind.i64.wrap ((lo : Int)) = lo := wrap_i64 (by omega) (by omega)
  have e2 : IntKind.i64.wrap ((lo : Int) + 1) = ((lo + 1 : Nat) : Int) := by rw [wrap_i64 (by omega) (by omega)]; omega
  have e3 : IntKind.i64.wrap ((wh : Int) + 1) = ((wh + 1 : Nat) : Int) := by rw [wrap_i64 (by omega) (by omega)]; omega
  have e4 : sizeF [u] = u.Text.size := by rw [sizeF_one, wrap_i64 (by omega) (by omega)]
  simp only [putF, followsF, List.getLast?_nil, dropF, List.length_nil]
  simp [e1, e2, e3, e4]
  by_cases h : u.Text.size ≤ most
  · simp [h, Nat.not_lt.2 h]
  · simp [h, Nat.lt_of_not_le h]

def cleanU (a0 : Int) (i n j : Nat) : FU := ⟨a0 + j, i, j + 1 == n, j == 0, j == 0 && i == 0, ⟨#[97, 98, 99]⟩, 0⟩
def cleanRow (a0 : Int) (i n k : Nat) : List FU := (List.range k).map (cleanU a0 i n)
theorem cleanRow_succ (a0 : Int) (i n k : Nat) : cleanRow a0 i n (k + 1) = cleanRow a0 i n k ++ [cleanU a0 i n k] := by simp [cleanRow, List.range_succ]
theorem clean_size (a0 : Int) (i n k : Nat) (hk : k ≤ 100) : sizeF (cleanRow a0 i n k) = 3 * k := by
  have := sizeF_all (m := 3) (cleanRow a0 i n k) (by simp [cleanRow]; omega) (by omega) (fun u hu => by
    obtain ⟨j, _, rfl⟩ := List.mem_map.1 hu
    rfl)
  rw [this]; simp [cleanRow]; omega
theorem clean_key (a0 : Int) (i n k : Nat) (hk : 0 < k) : keyF (cleanRow a0 i n k) = (i == 0) := by
  cases k with
  | zero => omega
  | succ k => simp [cleanRow, List.range_succ_eq_map, keyF, cleanU]
theorem clean_time (a0 : Int) (i n k : Nat) (hk : 0 < k) : timeF (cleanRow a0 i n k) = i := by
  cases k with
  | zero => omega
  | succ k => simp [cleanRow, List.range_succ_eq_map, timeF, cleanU]

/-- A picture's packets in their order: the last one makes it whole. -/
theorem put_clean (a0 : Int) (w : Int) (i n k : Nat) (hi : i < 1000) (hk : k < n) (hn : n ≤ 8) (ha : 0 ≤ a0) (ha' : a0 < 100000) :
    putF ⟨true, 1000, 8, w, cleanRow a0 i n k, i, 0⟩ (cleanU a0 i n k) =
      if k + 1 = n then (⟨true, 1000, 8, w, [], (i + 1 : Nat), 0⟩, cleanRow a0 i n n, true) else (⟨true, 1000, 8, w, cleanRow a0 i n (k + 1), i, 0⟩, [], false) := by
  have e3 : IntKind.i64.wrap ((i : Int) + 1) = ((i + 1 : Nat) : Int) := by rw [wrap_i64 (by omega) (by omega)]; omega
  have hf : followsF (cleanRow a0 i n k) (cleanU a0 i n k) = !(k == 0) := by
    cases k with
    | zero => rfl
    | succ k =>
      rw [cleanRow_succ]
      simp only [followsF, List.getLast?_append, List.getLast?_singleton, Option.some_or]
      have : IntKind.i64.wrap (a0 + k + 1) = a0 + ((k + 1 : Nat) : Int) := by rw [wrap_i64 (by omega) (by omega)]; omega
      simp [cleanU, this]
  have hm1 : (if (!(k == 0)) = true then (⟨true, 1000, 8, w, cleanRow a0 i n k, i, 0⟩ : FM) else dropF ⟨true, 1000, 8, w, cleanRow a0 i n k, i, 0⟩) = ⟨true, 1000, 8, w, cleanRow a0 i n k, i, 0⟩ := by
    cases k with
    | zero => simp [dropF, cleanRow]; kernel_rfl
    | succ k => simp
  have hs : (!(!(k == 0)) && (true && !(cleanU a0 i n k).Start)) = false := by
    simp [cleanU]
  have hz := clean_size a0 i n (k + 1) (by omega)
  have hl : (cleanRow a0 i n (k + 1)).length = k + 1 := by simp [cleanRow]
  simp only [putF, hf, hm1, hs]
  simp only [← cleanRow_succ, hz, hl]
  have h1 : ¬ (((k + 1 : Nat) : Int) > 8 ∨ (3 * ((k + 1 : Nat) : Int)) > 1000) := by omega
  simp only [h1, if_false, Bool.false_eq_true]
  by_cases h : k + 1 = n
  · have hmk : (true && !(cleanU a0 i n k).Marker) = false := by simp [cleanU, h]
    simp only [hmk, h, if_true, if_false, Bool.false_eq_true, e3]
  · have hmk : (true && !(cleanU a0 i n k).Marker) = true := by simp [cleanU, h]
    simp only [hmk, h, if_true, if_false]
end Go.Proofs
