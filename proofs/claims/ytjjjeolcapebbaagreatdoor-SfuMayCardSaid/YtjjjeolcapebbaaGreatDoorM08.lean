/- maps.Keys and slices.SortedFunc at links, as contracts. No condition. -/
import Derived.Test.YtjjjeolcapebbaaGreatDoorM11
import Derived.Test.YtjjjeolcapebbaaGreatDoorM13
import Derived.Test.YtjjjeolcapebbaaGreatDoorM05
import Derived.Test.YtjjjeolcapebbaaGreatDoorM06
import Derived.Test.YtjjjeolcapebbaaGreatDoorEs
import Derived.Test.YtjjjeolcapebbaaGreatDoorM04
import Derived.Test.YtjjjeolcapebbaaGreatDoorWq
import Derived.Test.YtjjjeolcapebbaaGreatDoorTy
section
set_option maxRecDepth 100000
namespace Go.Ab
open Go.Proofs Go.Maps Go.RowKit Go.Sort Go.Shelf Go.Lib ChangeMaps
def c3 (x : L3) : List AV := [.lit (.int .i64 x.1), .lit (.int .i64 x.2.1), .lit (.int .i64 x.2.2)]
def d3 : AV → L3
  | .agg [.lit (.int _ a), .lit (.int _ b), .lit (.int _ c)] => (a, b, c)
  | _ => (0, 0, 0)
def keys3 (es : List (AV × AV)) : List L3 := es.map fun e => d3 e.1
def Keys3Z (l : List L3) : Prop := l.length * 24 ≤ 140737488355328
def Keys3 (es : List (AV × AV)) : Prop := ∀ e ∈ es, e.1 = .agg (c3 (d3 e.1))
@[simp] def keysLS (k : Nat) : Sp
  | [.mp i], M => match M[i]? with
    | some (.mapo _) => some { av := .fn k [.mp i] }
    | _ => none
  | _, _ => none
@[simp] def sortedLS (k c : Nat) : Sp
  | [.fn k' [.mp i], .lit v], M => (match M[i]? with
    | some (.mapo es) => some { av := .sl ((srt3 (keys3 es)).map c3) .no, obl := Keys3 es ∧ Keys3Z (keys3 es) ∧ k' = k ∧ v = .func (.func c) #[] #[] }
    | _ => none)
  | _, _ => none
theorem keysL_c (mb : Option Nat) (w : World) : Calls Tryz.prog 186 #[.map mb] w fun e w' => e = .returned (.func (.func 272) #[] #[.pointer (some ⟨w.heap.size, 0, none⟩)]) ∧ w' = w.alloc (.cells #[.map mb] 52) := by
  go_enter Tryz.func186, Tryz.ntmps186
  go_wp2
  go_ret
  exact ⟨rfl, rfl⟩
theorem keysL_ok : SpecOk Tryz.prog 186 (keysLS 272) := by
  intro l M out h
  unfold keysLS at h
  split at h
  · rename_i i
    split at h
    · cases h
      intro g vs hM sm hr _
      cases hr with | cons hv hr => cases hr with | nil =>
      cases hv with
      | mp _ hi =>
      refine ⟨enters_of Tryz.func186 (by kernel_rfl) rfl _ _, ?_⟩
      refine (keysL_c _ _).mono fun e w' => ?_
      rintro ⟨rfl, rfl⟩
      have hw : (g.w.alloc (.cells #[.map (some (g.β i))] 52)).heap = g.w.heap.push (.cells #[.map (some (g.β i))] 52) := rfl
      refine ⟨_, rfl, g.β, g.ρ, ?_, ?_, ?_⟩
      · simp only [G.out, Option.getD_none]
        exact sim_push hw sm
      · simp only [G.out, Option.getD_none]
        refine .fn _ [.mp i] (fun _ => g.w.heap.size) (fun _ => .map (some (g.β i))) (fun j hj => ?_) (fun j hj hreg => ?_) (fun j hj => ?_)
        · simp [World.cell?, hw]
        · have := sm.inb _ hreg
          simp at this
        · have hj0 : j = 0 := by simp at hj; omega
          subst hj0
          exact .mp (g := { g with w := g.w.alloc (.cells #[.map (some (g.β i))] 52) }) i hi
      · simp only [G.out, Option.getD_none]
        exact keep_push hw
    · cases h
  · cases h
theorem R.rows3 {g : G} {w' : World} (sm : Sim g) {gb cap : Nat} {l : List L3} (hH : HoldsK cs3 3 w' gb 0 l.toArray) (hbase : g.w.heap.size ≤ gb) (hc : l.length ≤ cap) : R { g with w := w' } (.sl (l.map c3) .no) (.slice (some ⟨gb, 0, none⟩) l.length cap) := by
  have hlen : (l.map c3).length = l.length := by simp
  have q : R { g with w := w' } (.sl (l.map c3) .no) (.slice (some ⟨gb, 0, none⟩) (l.map c3).length cap) := by
    refine .sl _ .no gb 0 3 cap (fun i j => (cs3 l[i]!)[j]!) (fun i hi => by simp [c3]) (fun i j hi hj => ?_) (fun i j hi hj hr => ?_) (fun i j hi hj => ?_) (fun i j hi hj => ?_) trivial (by omega)
    · have h1 := (hH (i * 3 + j) (by simp only [size_flatK, List.size_toArray]; omega)).1
      rw [get_flatK _ _ _ _ (by simp only [List.size_toArray]; omega)] at h1
      have e1 : (i * 3 + j) / 3 = i := by omega
      have e2 : (i * 3 + j) % 3 = j := by omega
      rw [e1, e2] at h1
      simp only [id, ← Nat.add_assoc] at h1
      simpa using h1
    · have := sm.inb _ hr
      simp only at this
      omega
    · have hi' : i < l.length := by omega
      have hj' : j < 3 := by simpa [c3] using hj
      have e : l[i]! = l[i] := by simp [hi']
      simp only [List.getElem_map, e]
      rcases (show j = 0 ∨ j = 1 ∨ j = 2 by omega) with rfl | rfl | rfl <;> exact .lit _
    · rcases (show j = 0 ∨ j = 1 ∨ j = 2 by omega) with rfl | rfl | rfl <;> rfl
  rw [hlen] at q; exact q
theorem fn_inv3 {g : G} {f : Nat} {i : Nat} {v : Value} (h : R g (.fn f [.mp i]) v) : ∃ b, v = .func (.func f) #[] #[.pointer (some ⟨b, 0, none⟩)] ∧ g.w.cell? ⟨b, 0, none⟩ = some (.map (some (g.β i))) ∧ i < g.M.length := by
  cases h with
  | fn _ _ bs us h1 h2 h3 =>
    have h4 := h3 0 (by simp)
    simp only [List.getElem_cons_zero] at h4
    generalize hu : us 0 = u at h4
    cases h4 with
    | mp _ hi =>
      refine ⟨bs 0, by simp [List.range_succ], ?_, hi⟩
      have := h1 0 (by simp)
      rw [hu] at this; exact this
theorem sortedL_ok : SpecOk Tryz.prog 185 (sortedLS 272 187) := by
  intro l M out h
  unfold sortedLS at h
  split at h
  · rename_i k' i v0
    split at h
    · rename_i es hMi
      · cases h
        intro g vs hM sm hr ho
        subst hM
        obtain ⟨ho1, ho2, rfl, rfl⟩ := ho
        cases hr with | cons hv hr => cases hr with | cons hu hr => cases hr with | nil =>
        obtain ⟨b, rfl, hcell, hi⟩ := fn_inv3 hv
        obtain rfl := hu.lit_inv
        refine ⟨enters_of Tryz.func185 (by kernel_rfl) rfl _ _, ?_⟩
        obtain ⟨ents, clock, hh, hst, he⟩ := map_at sm hMi
        have hK : ents.toList.map (·.key) = (keys3 es).map kv3 := by
          have : ∀ (es : List (AV × AV)) (l : List MapEntry), EntR g es l → Keys3 es → l.map (·.key) = (keys3 es).map kv3 := by
            intro es l h
            induction h with
            | nil => intro _; rfl
            | @cons a v es e l hk hv r ih =>
              intro q
              have h1 := q (a, v) (.head _)
              simp only at h1
              rw [h1] at hk
              have h2 := hk.keyVal rfl
              simp only [List.map_cons, keys3]
              rw [h2, ih fun e he => q e (.tail _ he)]; rfl
          exact this es ents.toList he ho1
        refine (sorted3 b (g.β i) ents clock (keys3 es) hst.1 hst.2.1 hK ho2 g.w hcell hh).mono fun e w' => ?_
        rintro ⟨v, rfl, hbel, hrow⟩
        refine ⟨_, rfl, g.β, g.ρ, ?_, ?_, ?_⟩
        · simp only [G.out, Option.getD_none]; exact sim_below hbel sm
        · simp only [G.out, Option.getD_none]
          rcases hrow with ⟨rfl, hz⟩ | ⟨gb, cap, rfl, hbase, hc, _, hH⟩
          · have hn : srt3 (keys3 es) = [] := by rw [hz]; simp [srt3]
            rw [hn]; exact .nil _ trivial
          · have hl : (keys3 es).length = (srt3 (keys3 es)).length := by simp [srt3]
            rw [hl]
            exact R.rows3 sm hH hbase (by rw [← hl]; exact hc)
        · simp only [G.out, Option.getD_none]; exact keep_below hbel
    · cases h
  · cases h
end Go.Ab
end
section
set_option maxRecDepth 100000
namespace Go.Ab.A2
open Go.Proofs Go.Maps Go.RowKit Go.Sort Go.Shelf Go.Lib ChangeMaps
def c3 (x : L3) : List AV := [.lit (.int .i64 x.1), .lit (.int .i64 x.2.1), .lit (.int .i64 x.2.2)]
def d3 : AV → L3
  | .agg [.lit (.int _ a), .lit (.int _ b), .lit (.int _ c)] => (a, b, c)
  | _ => (0, 0, 0)
def keys3 (es : List (AV × AV)) : List L3 := es.map fun e => d3 e.1
def Keys3Z (l : List L3) : Prop := l.length * 24 ≤ 140737488355328
def Keys3 (es : List (AV × AV)) : Prop := ∀ e ∈ es, e.1 = .agg (c3 (d3 e.1))
@[simp] def keysLS (k : Nat) : Sp
  | [.mp i], M => match M[i]? with
    | some (.mapo _) => some { av := .fn k [.mp i] }
    | _ => none
  | _, _ => none
@[simp] def sortedLS (k c : Nat) : Sp
  | [.fn k' [.mp i], .lit v], M => (match M[i]? with
    | some (.mapo es) => some { av := .sl ((srt3 (keys3 es)).map c3) .no, obl := Keys3 es ∧ Keys3Z (keys3 es) ∧ k' = k ∧ v = .func (.func c) #[] #[] }
    | _ => none)
  | _, _ => none
theorem keysL_c (mb : Option Nat) (w : World) : Calls Tryz.prog 286 #[.map mb] w fun e w' => e = .returned (.func (.func 338) #[] #[.pointer (some ⟨w.heap.size, 0, none⟩)]) ∧ w' = w.alloc (.cells #[.map mb] 86) := by
  go_enter Tryz.func286, Tryz.ntmps286
  go_wp2
  go_ret
  exact ⟨rfl, rfl⟩
theorem keysL_ok : SpecOk Tryz.prog 286 (keysLS 338) := by
  intro l M out h
  unfold keysLS at h
  split at h
  · rename_i i
    split at h
    · cases h
      intro g vs hM sm hr _
      cases hr with | cons hv hr => cases hr with | nil =>
      cases hv with
      | mp _ hi =>
      refine ⟨enters_of Tryz.func286 (by kernel_rfl) rfl _ _, ?_⟩
      refine (keysL_c _ _).mono fun e w' => ?_
      rintro ⟨rfl, rfl⟩
      have hw : (g.w.alloc (.cells #[.map (some (g.β i))] 86)).heap = g.w.heap.push (.cells #[.map (some (g.β i))] 86) := rfl
      refine ⟨_, rfl, g.β, g.ρ, ?_, ?_, ?_⟩
      · simp only [G.out, Option.getD_none]
        exact sim_push hw sm
      · simp only [G.out, Option.getD_none]
        refine .fn _ [.mp i] (fun _ => g.w.heap.size) (fun _ => .map (some (g.β i))) (fun j hj => ?_) (fun j hj hreg => ?_) (fun j hj => ?_)
        · simp [World.cell?, hw]
        · have := sm.inb _ hreg
          simp at this
        · have hj0 : j = 0 := by simp at hj; omega
          subst hj0
          exact .mp (g := { g with w := g.w.alloc (.cells #[.map (some (g.β i))] 86) }) i hi
      · simp only [G.out, Option.getD_none]
        exact keep_push hw
    · cases h
  · cases h
theorem R.rows3 {g : G} {w' : World} (sm : Sim g) {gb cap : Nat} {l : List L3} (hH : HoldsK cs3 3 w' gb 0 l.toArray) (hbase : g.w.heap.size ≤ gb) (hc : l.length ≤ cap) : R { g with w := w' } (.sl (l.map c3) .no) (.slice (some ⟨gb, 0, none⟩) l.length cap) := by
  have hlen : (l.map c3).length = l.length := by simp
  have q : R { g with w := w' } (.sl (l.map c3) .no) (.slice (some ⟨gb, 0, none⟩) (l.map c3).length cap) := by
    refine .sl _ .no gb 0 3 cap (fun i j => (cs3 l[i]!)[j]!) (fun i hi => by simp [c3]) (fun i j hi hj => ?_) (fun i j hi hj hr => ?_) (fun i j hi hj => ?_) (fun i j hi hj => ?_) trivial (by omega)
    · have h1 := (hH (i * 3 + j) (by simp only [size_flatK, List.size_toArray]; omega)).1
      rw [get_flatK _ _ _ _ (by simp only [List.size_toArray]; omega)] at h1
      have e1 : (i * 3 + j) / 3 = i := by omega
      have e2 : (i * 3 + j) % 3 = j := by omega
      rw [e1, e2] at h1
      simp only [id, ← Nat.add_assoc] at h1
      simpa using h1
    · have := sm.inb _ hr
      simp only at this
      omega
    · have hi' : i < l.length := by omega
      have hj' : j < 3 := by simpa [c3] using hj
      have e : l[i]! = l[i] := by simp [hi']
      simp only [List.getElem_map, e]
      rcases (show j = 0 ∨ j = 1 ∨ j = 2 by omega) with rfl | rfl | rfl <;> exact .lit _
    · rcases (show j = 0 ∨ j = 1 ∨ j = 2 by omega) with rfl | rfl | rfl <;> rfl
  rw [hlen] at q; exact q
theorem fn_inv3 {g : G} {f : Nat} {i : Nat} {v : Value} (h : R g (.fn f [.mp i]) v) : ∃ b, v = .func (.func f) #[] #[.pointer (some ⟨b, 0, none⟩)] ∧ g.w.cell? ⟨b, 0, none⟩ = some (.map (some (g.β i))) ∧ i < g.M.length := by
  cases h with
  | fn _ _ bs us h1 h2 h3 =>
    have h4 := h3 0 (by simp)
    simp only [List.getElem_cons_zero] at h4
    generalize hu : us 0 = u at h4
    cases h4 with
    | mp _ hi =>
      refine ⟨bs 0, by simp [List.range_succ], ?_, hi⟩
      have := h1 0 (by simp)
      rw [hu] at this; exact this
theorem sortedL_ok : SpecOk Tryz.prog 185 (sortedLS 338 287) := by
  intro l M out h
  unfold sortedLS at h
  split at h
  · rename_i k' i v0
    split at h
    · rename_i es hMi
      · cases h
        intro g vs hM sm hr ho
        subst hM
        obtain ⟨ho1, ho2, rfl, rfl⟩ := ho
        cases hr with | cons hv hr => cases hr with | cons hu hr => cases hr with | nil =>
        obtain ⟨b, rfl, hcell, hi⟩ := fn_inv3 hv
        obtain rfl := hu.lit_inv
        refine ⟨enters_of Tryz.func185 (by kernel_rfl) rfl _ _, ?_⟩
        obtain ⟨ents, clock, hh, hst, he⟩ := map_at sm hMi
        have hK : ents.toList.map (·.key) = (keys3 es).map kv3 := by
          have : ∀ (es : List (AV × AV)) (l : List MapEntry), EntR g es l → Keys3 es → l.map (·.key) = (keys3 es).map kv3 := by
            intro es l h
            induction h with
            | nil => intro _; rfl
            | @cons a v es e l hk hv r ih =>
              intro q
              have h1 := q (a, v) (.head _)
              simp only at h1
              rw [h1] at hk
              have h2 := hk.keyVal rfl
              simp only [List.map_cons, keys3]
              rw [h2, ih fun e he => q e (.tail _ he)]; rfl
          exact this es ents.toList he ho1
        refine (sorted3 b (g.β i) ents clock (keys3 es) hst.1 hst.2.1 hK ho2 g.w hcell hh).mono fun e w' => ?_
        rintro ⟨v, rfl, hbel, hrow⟩
        refine ⟨_, rfl, g.β, g.ρ, ?_, ?_, ?_⟩
        · simp only [G.out, Option.getD_none]; exact sim_below hbel sm
        · simp only [G.out, Option.getD_none]
          rcases hrow with ⟨rfl, hz⟩ | ⟨gb, cap, rfl, hbase, hc, _, hH⟩
          · have hn : srt3 (keys3 es) = [] := by rw [hz]; simp [srt3]
            rw [hn]; exact .nil _ trivial
          · have hl : (keys3 es).length = (srt3 (keys3 es)).length := by simp [srt3]
            rw [hl]
            exact R.rows3 sm hH hbase (by rw [← hl]; exact hc)
        · simp only [G.out, Option.getD_none]; exact keep_below hbel
    · cases h
  · cases h
end Go.Ab.A2
end
section
set_option maxRecDepth 100000
namespace Go.Ab
open Go.Proofs Go.Maps Go.RowKit Go.Sort Go.Shelf Go.Lib ChangeMaps
theorem keysLS_free {k : Nat} (l : List AV) (M : List AObj) (o : Out) (h : keysLS k l M = some o) : o.obl := by
  unfold keysLS at h
  split at h
  · split at h <;> first | (cases h; trivial) | cases h
  · cases h
theorem libCloneI.ok : SpecOk Tryz.prog 35 (cloneS 1 8) := by
  intro l M out h
  unfold cloneS at h
  split at h
  · rename_i els tok
    cases h
    refine callOk_nil ?_ ?_
    · refine call_of_vc Tryz.mixed Tryz.tyOk gamL_nil (fun | 0 => [2] | 1 => [4] | 2 => [2] | 3 => [2] | _ => []) (fun _ => []) Tryz.func35 rfl (by kernel_rfl) rfl rfl (by simp) ?_
      intro _ hbM hbA
      simp [hbM]
    · refine call_of_vc Tryz.mixed Tryz.tyOk gamL_nil (fun | 0 => [2] | 1 => [4] | 2 => [2] | 3 => [2] | _ => []) (fun _ => []) Tryz.func35 rfl (by kernel_rfl) rfl rfl (by simp) ?_
      intro ho hbM hbA
      simp at hbA ho
      simp [hbA, hbM, ho, appL]
      try exact ho.1
  · cases h
theorem libCloneU.ok : SpecOk Tryz.prog 131 (cloneS 1 4) := by
  intro l M out h
  unfold cloneS at h
  split at h
  · rename_i els tok
    cases h
    refine callOk_nil ?_ ?_
    · refine call_of_vc Tryz.mixed Tryz.tyOk gamL_nil (fun | 0 => [2] | 1 => [4] | 2 => [2] | 3 => [2] | _ => []) (fun _ => []) Tryz.func131 rfl (by kernel_rfl) rfl rfl (by simp) ?_
      intro _ hbM hbA
      simp [hbM]
    · refine call_of_vc Tryz.mixed Tryz.tyOk gamL_nil (fun | 0 => [2] | 1 => [4] | 2 => [2] | 3 => [2] | _ => []) (fun _ => []) Tryz.func131 rfl (by kernel_rfl) rfl rfl (by simp) ?_
      intro ho hbM hbA
      simp at hbA ho
      simp [hbA, hbM, ho, appL]
      try exact ho.1
  · cases h
theorem libCloneF.ok : SpecOk Tryz.prog 283 (cloneS 7 48) := by
  intro l M out h
  unfold cloneS at h
  split at h
  · rename_i els tok
    cases h
    refine callOk_nil ?_ ?_
    · refine call_of_vc Tryz.mixed Tryz.tyOk gamL_nil (fun | 0 => [2] | 1 => [4] | 2 => [2] | 3 => [2] | _ => []) (fun _ => []) Tryz.func283 rfl (by kernel_rfl) rfl rfl (by simp) ?_
      intro _ hbM hbA
      simp [hbM]
    · refine call_of_vc Tryz.mixed Tryz.tyOk gamL_nil (fun | 0 => [2] | 1 => [4] | 2 => [2] | 3 => [2] | _ => []) (fun _ => []) Tryz.func283 rfl (by kernel_rfl) rfl rfl (by simp) ?_
      intro ho hbM hbA
      simp at hbA ho
      simp [hbA, hbM, ho, appL]
      try exact ho.1
  · cases h
/-- Letters and digits among the first 256 runes. -/
@[simp] def letterA : Sp
  | [.lit (.int .i32 r)], _ => if Lib.latin1 r then some { av := .lit (.bool (Lib.isLetterL r)) } else none
  | _, _ => none
theorem letterA_ok : LibOk Tryz.prog 196 letterA := by
  intro l M o q
  unfold letterA at q
  split at q
  · rename_i r
    split at q
    · rename_i h
      cases q
      have hr : 0 ≤ r ∧ r ≤ 255 := by simpa [Lib.latin1] using h
      have e : letterR r = Lib.isLetterL r := by unfold letterR Lib.isLetterU; rw [if_pos h]
      refine ⟨?_, trivial⟩
      intro g vs hM sm hv _
      have := gIsLetter.ok [.lit (.int .i32 r)] M { av := .lit (.bool (letterR r)), obl := I32B r } rfl g vs hM sm hv ⟨by omega, by omega⟩
      rw [e] at this; exact this
    · cases q
  · cases q
@[simp] def digitA : Sp
  | [.lit (.int .i32 r)], _ => if Lib.latin1 r then some { av := .lit (.bool (Lib.isDigitL r)) } else none
  | _, _ => none
theorem digitA_ok : LibOk Tryz.prog 197 digitA := by
  intro l M o q
  unfold digitA at q
  split at q
  · rename_i r
    split at q
    · rename_i h
      cases q
      have hr : 0 ≤ r ∧ r ≤ 255 := by simpa [Lib.latin1] using h
      have e : digitR r = Lib.isDigitL r := by unfold digitR Lib.isDigitU; rw [if_pos hr.2]
      refine ⟨?_, trivial⟩
      intro g vs hM sm hv _
      have := gIsDigit.ok [.lit (.int .i32 r)] M { av := .lit (.bool (digitR r)), obl := I32B r } rfl g vs hM sm hv ⟨by omega, by omega⟩
      rw [e] at this; exact this
    · cases q
  · cases q
/-- Small letters of the first 128 runes. -/
@[simp] def lowerA : Sp
  | [.lit (.int .i32 r)], _ => if r ≤ 127 then some { av := .lit (.int .i32 (if 65 ≤ r ∧ r ≤ 90 then r + 32 else r)) } else none
  | _, _ => none
theorem lowerA_ok : LibOk Tryz.prog 341 lowerA := by
  intro l M o q
  unfold lowerA at q
  split at q
  · rename_i r
    split at q
    · rename_i h
      cases q
      have e : lowerR r = if 65 ≤ r ∧ r ≤ 90 then r + 32 else r := by unfold lowerR Lib.toLowerU; rw [if_pos h]
      refine ⟨?_, trivial⟩
      intro g vs hM sm hv _
      have := gToLower.ok [.lit (.int .i32 r)] M { av := .lit (.int .i32 (lowerR r)) } rfl g vs hM sm hv trivial
      rw [e] at this; exact this
    · cases q
  · cases q
instance (bs : List Int) : Decidable (TextE bs) := inferInstanceAs (Decidable (∀ x ∈ bs, 0 ≤ x ∧ x < 256))
def textEOb (T E : TypeId) (l : List AV) (M : List AObj) : Bool := isWr T E M l && decide (TextE (wrBs M l))
theorem textEOb_spec {T E : TypeId} (l : List AV) (M : List AObj) (o : Out) (h : wrTextE T E l M = some o) (hb : textEOb T E l M = true) : o.obl := by
  unfold textEOb at hb
  simp only [Bool.and_eq_true, decide_eq_true_eq] at hb
  unfold wrTextE at h
  split at h
  · split at h
    · rename_i φ hM
      cases h
      have := hb.2
      simp only [wrBs, hM] at this
      exact ⟨isWr_spec hb.1 hM, this⟩
    · cases h
  · cases h
def isC3 : AV → Bool
  | .agg [.lit (.int .i64 _), .lit (.int .i64 _), .lit (.int .i64 _)] => true
  | _ => false
theorem isC3_spec {a : AV} (h : isC3 a = true) : a = .agg (c3 (d3 a)) := by
  unfold isC3 at h
  split at h
  · rfl
  · cases h
def isFn (c : Nat) : Value → Bool
  | .func (.func c') ⟨[]⟩ ⟨[]⟩ => c' == c
  | _ => false
theorem isFn_spec {c : Nat} {v : Value} (h : isFn c v = true) : v = .func (.func c) #[] #[] := by
  unfold isFn at h
  split at h
  · rw [eq_of_beq h]
  · cases h
def sortedLOb (k c : Nat) (l : List AV) (M : List AObj) : Bool := match l with
  | [.fn k' [.mp i], .lit v] => match M[i]? with
    | some (.mapo es) => (es.all fun e => isC3 e.1) && decide ((keys3 es).length * 24 ≤ 140737488355328) && k' == k && isFn c v
    | _ => false
  | _ => false
theorem sortedLOb_spec {k c : Nat} (l : List AV) (M : List AObj) (o : Out) (h : sortedLS k c l M = some o) (hb : sortedLOb k c l M = true) : o.obl := by
  unfold sortedLS at h
  split at h
  · rename_i k' i v
    split at h
    · rename_i es hM
      cases h
      simp only [sortedLOb, hM, Bool.and_eq_true, decide_eq_true_eq] at hb
      exact ⟨fun e he => isC3_spec (List.all_eq_true.1 hb.1.1.1 e he), hb.1.1.2, eq_of_beq hb.1.2, isFn_spec hb.2⟩
    · cases h
  · cases h
theorem srt3_srtX (l : List L3) : srt3 l = srtX le3 l :=
  mergeSort_srtX (le := le3) (fun a b c h1 h2 => by
    simp only [le3, Bool.not_eq_true'] at *
    exact swo3.ntrans c b a h2 h1) (fun a b => by
    simp only [le3, lt3, Bool.or_eq_true, Bool.not_eq_true', decide_eq_false_iff_not]; omega) (fun a b h1 h2 => by
    simp only [le3, Bool.not_eq_true'] at h1 h2
    exact tot3 a b h2 h1) l
@[simp] def sortedLI (k c : Nat) : Sp
  | [.fn k' [.mp i], .lit v], M => (match M[i]? with
    | some (.mapo es) => some { av := .sl ((srtX le3 (keys3 es)).map c3) .no, obl := Keys3 es ∧ Keys3Z (keys3 es) ∧ k' = k ∧ v = .func (.func c) #[] #[] }
    | _ => none)
  | _, _ => none
theorem sortedLI_eq (k c : Nat) : sortedLI k c = sortedLS k c := by
  funext l M
  unfold sortedLI sortedLS
  simp only [srt3_srtX] <;> rfl
theorem chkLI {P : Program} {f k c : Nat} (h : SpecOk P f (sortedLS k c)) : LibOk P f (chkS (sortedLI k c) (sortedLOb k c)) := by
  rw [sortedLI_eq]
  exact .chk h sortedLOb_spec
theorem chkI {P : Program} {f k : Nat} (h : SpecOk P f (sortedS k)) : LibOk P f (chkS (sortedI k) sortedOb) := by
  rw [sortedI_eq]
  exact .chk h sortedOb_spec
namespace A2
theorem keysLS_free {k : Nat} (l : List AV) (M : List AObj) (o : Out) (h : keysLS k l M = some o) : o.obl := by
  unfold keysLS at h
  split at h
  · split at h <;> first | (cases h; trivial) | cases h
  · cases h
theorem isC3_spec' {a : AV} (h : isC3 a = true) : a = .agg (c3 (d3 a)) := by
  unfold isC3 at h
  split at h
  · rfl
  · cases h
def sortedLOb (k c : Nat) (l : List AV) (M : List AObj) : Bool := match l with
  | [.fn k' [.mp i], .lit v] => match M[i]? with
    | some (.mapo es) => (es.all fun e => isC3 e.1) && decide ((keys3 es).length * 24 ≤ 140737488355328) && k' == k && isFn c v
    | _ => false
  | _ => false
theorem sortedLOb_spec {k c : Nat} (l : List AV) (M : List AObj) (o : Out) (h : sortedLS k c l M = some o) (hb : sortedLOb k c l M = true) : o.obl := by
  unfold sortedLS at h
  split at h
  · rename_i k' i v
    split at h
    · rename_i es hM
      cases h
      simp only [sortedLOb, hM, Bool.and_eq_true, decide_eq_true_eq] at hb
      exact ⟨fun e he => isC3_spec' (List.all_eq_true.1 hb.1.1.1 e he), hb.1.1.2, eq_of_beq hb.1.2, isFn_spec hb.2⟩
    · cases h
  · cases h
theorem srt3_srtX (l : List L3) : srt3 l = srtX le3 l :=
  mergeSort_srtX (le := le3) (fun a b c h1 h2 => by
    simp only [le3, Bool.not_eq_true'] at *
    exact swo3.ntrans c b a h2 h1) (fun a b => by
    simp only [le3, lt3, Bool.or_eq_true, Bool.not_eq_true', decide_eq_false_iff_not]; omega) (fun a b h1 h2 => by
    simp only [le3, Bool.not_eq_true'] at h1 h2
    exact tot3 a b h2 h1) l
@[simp] def sortedLI (k c : Nat) : Sp
  | [.fn k' [.mp i], .lit v], M => (match M[i]? with
    | some (.mapo es) => some { av := .sl ((srtX le3 (keys3 es)).map c3) .no, obl := Keys3 es ∧ Keys3Z (keys3 es) ∧ k' = k ∧ v = .func (.func c) #[] #[] }
    | _ => none)
  | _, _ => none
theorem sortedLI_eq (k c : Nat) : sortedLI k c = sortedLS k c := by
  funext l M
  unfold sortedLI sortedLS
  simp only [srt3_srtX] <;> rfl
theorem chkLI {P : Program} {f k c : Nat} (h : SpecOk P f (sortedLS k c)) : LibOk P f (chkS (sortedLI k c) (sortedLOb k c)) := by
  rw [sortedLI_eq]
  exact .chk h sortedLOb_spec
end A2
end Go.Ab
end
