/- The keys of a map that is empty, collected: numbers of 32 bits, in this program. No condition. -/
import Derived.Test.YtpamnignoocogaaGreatDoorM06
import Derived.Test.YtpamnignoocogaaGreatDoorM11
import Derived.Test.YtpamnignoocogaaGreatDoorProg
import Derived.Sort.CutIn
import Derived.Test.YtpamnignoocogaaGreatDoorM05
import Derived.Test.YtpamnignoocogaaGreatDoorM10
import Derived.Test.YtpamnignoocogaaGreatDoorM09
import Derived.Test.YtpamnignoocogaaGreatDoorWq
import Derived.Test.YtpamnignoocogaaGreatDoorM01
import Derived.Test.YtpamnignoocogaaGreatDoorM07
import Derived.Test.YtpamnignoocogaaGreatDoorTy
section
set_option maxRecDepth 100000
set_option maxHeartbeats 2000000
namespace Go.Ab
open Go.Proofs Go.Maps Go.RowKit Go.Sort Go.Shelf ChangeMaps
def kvU (x : Int) : Value := .int .u32 x
theorem keysU_in (F : Fence) (n : Nat) (h10 : F.fn 237) (hro : F.round = none) (_hn : 1 ≤ n) (l Bm b : Nat) (clock : Nat) (J : List Int → World → Prop)
    (W : World) (hJ : AbidesFrom W.heap.size J) (hm : W.cell? ⟨Bm, 0, none⟩ = some (.map (some b))) (hb : W.heap[b]? = some (.map #[] clock)) (h0 : J [] W) :
    CallsIn F n Tryz.prog 237 #[.func (.yield l) #[] #[], .pointer (some ⟨Bm, 0, none⟩)] W fun e W' => (∃ v, e = .returned v) ∧ ∃ ss : List Int, ss = [] ∧ J ss W' := by
  refine callsIn_of_wp Tryz.func237 rfl h10 ?_ hro
  simp only [Tryz.ntmps237, List.size_toArray, List.length_cons, List.length_nil, Nat.reduceAdd, Nat.reduceSub, Array.replicate_succ, Array.replicate_zero, List.push_toArray, List.append_toArray, List.nil_append, List.cons_append]
  gi_wp2_with (first
    | (gi_at_range; refine wpListIn_range_K rfl _ _ rfl (k := 116) (e := 272) (b := b) (ents := #[]) (clock := clock) (by kernel_rfl) rfl hb ?_; intro w0 hrg0 hg0 hs0)
    | gi_in)
  go_frame
  gi_loopw [3] (fun _ wr => KR wr b W.heap.size #[] clock [] ∧ J [] wr) (fun _ _ => 0)
  case atStart =>
    exact ⟨hrg0, hJ [] W w0 none h0 hg0 (fun r e => by cases e)⟩
  case round =>
    obtain ⟨hrg, hJs⟩ := hrel
    gi_wp2_with (first
      | (gi_at_next; refine wpListIn_next_K rfl _ rfl rfl hrg (fun _ h => by cases h) .nil ?_ ?_)
      | gi_in)
    go_end0
    exact ⟨⟨_, rfl⟩, [], rfl, hJs⟩
/-- What a range over a function assigns, and its body. -/
def rfOf : Code → Option (Code × Code)
  | .rangeFunc _ _ a c => some (a, c)
  | .seq x y => match rfOf x with
    | some r => some r
    | none => rfOf y
  | .block _ x => rfOf x
  | _ => none
def apRecU (asg bod : Code) (fn : FuncId) (sv : Value) (Bs D : Nat) (st : LoopState) (pend : Option Code) : Loop :=
  { state := st, pending := pend, fn, tmps := #[.slice none 0 0, sv, .pointer (some ⟨Bs, 0, none⟩), undef, .slice none 0 0, undef, sv, undef, undef, undef, undef, undef, undef], params := #[7], assign := asg, body := bod, defers := D }
structure ApAtU (asg bod : Code) (w0 : World) (fn : FuncId) (sv : Value) (Bs l D : Nat) (ss : List Int) (W : World) : Prop where
  nil : ss = []
  box : W.heap[Bs]? = some (.cells #[.slice none 0 0] 30 (0, 0))
  L : W.heap[l]? = some (.loop (apRecU asg bod fn sv Bs D .ready none))
  K : W.heap[D]? = some (.deferred (some []))
  below : Below w0.heap.size w0 W
theorem ap_abidesU (asg bod : Code) (w0 : World) (fn : FuncId) (sv : Value) (Bs l D B : Nat) (hB : w0.heap.size ≤ B) : AbidesFrom B (ApAtU asg bod w0 fn sv Bs l D) := fun s W W' row h hg hrow => by
  have hrow' : ∀ r, row = some r → ∃ o : Obj, W.heap[r]? = some o ∧ o.isWalk = true := fun r e => (hrow r e).2
  exact ⟨h.nil, (grownBy_keeps hg hrow' h.box rfl).trans h.box, (grownBy_keeps hg hrow' h.L rfl).trans h.L, (grownBy_keeps hg hrow' h.K rfl).trans h.K,
    h.below.grown hg h.below.size (fun k e => Nat.le_trans hB (hrow k e).1)⟩
theorem appendSeqU (F : Fence) (n : Nat) (h11 : F.fn 333) (hro : F.round = none) (hn : 2 ≤ n) (g : Nat) (lb : Array Value) (hFg : F.fn g) (eg : ∀ args w, (callFunc g args).run Tryz.prog w = .ok (.enter g args) w)
    (w : World) (hseq : SeqGives F (n - 1) Tryz.prog g lb kvU (fun ss => ss = []) 0 w) :
    CallsIn F n Tryz.prog 333 #[.slice none 0 0, .func (.func g) #[] lb] w fun e w' => e = .returned (.slice none 0 0) ∧ Below w.heap.size w w' := by
  have h1 : 1 ≤ n := by omega
  refine callsIn_of_wp_marks Tryz.func333 rfl h11 ?_ hro
  simp only [Tryz.ntmps333, List.size_toArray, List.length_cons, List.length_nil, Nat.reduceAdd, Nat.reduceSub, Array.replicate_succ, Array.replicate_zero, List.push_toArray, List.append_toArray, List.nil_append, List.cons_append]
  gi_wp2
  refine wpIn_rangeFunc ?_
  intro fn hfn
  rw [hro]
  obtain ⟨W0, hW0⟩ : ∃ W0, w.alloc (.cells #[.slice none 0 0] 30) = W0 := ⟨_, rfl⟩
  have hs0 : W0.heap.size = w.heap.size + 1 := by rw [← hW0]; simp
  have hv0 : W0.heap[w.heap.size]? = some (.cells #[.slice none 0 0] 30 (0, 0)) := by rw [← hW0]; exact World.alloc_heap_new w _
  have hb0 : Below w.heap.size w W0 := by rw [← hW0]; exact (Below.refl _ w).alloc (Nat.le_refl _) _
  rw [hW0]
  obtain ⟨asg, bod, hcode⟩ : ∃ asg bod, (Tryz.f333.body).bind rfOf = some (asg, bod) := ⟨_, _, rfl⟩
  have hc := hcode
  simp only [Tryz.f333, rfOf, Option.bind_some, Option.some.injEq, Prod.mk.injEq] at hc
  obtain ⟨hca, hcb⟩ := hc
  obtain ⟨W1, hW1⟩ : ∃ W1, (W0.alloc (.deferred (some []))).alloc (.loop (apRecU asg bod fn (.func (.func g) #[] lb) w.heap.size W0.heap.size .ready none)) = W1 := ⟨_, rfl⟩
  have hold : ∀ k, k < W0.heap.size → W1.heap[k]? = W0.heap[k]? := fun k hk => by
    rw [← hW1]; exact (Below.heap_alloc _ _ k (by simp; omega)).trans (Below.heap_alloc _ _ k hk)
  have hb1 : Below w.heap.size w W1 := by rw [← hW1]; exact (hb0.alloc hb0.size _).alloc (by have := hb0.size; simp; omega) _
  have hs1 : W1.heap.size = W0.heap.size + 2 := by rw [← hW1]; simp
  have hM : ApAtU asg bod w fn (.func (.func g) #[] lb) w.heap.size (W0.heap.size + 1) W0.heap.size [] W1 :=
    ⟨rfl, (hold w.heap.size (by omega)).trans hv0,
     by rw [← hW1]; have := World.alloc_heap_new (W0.alloc (.deferred (some []))) (.loop (apRecU asg bod fn (.func (.func g) #[] lb) w.heap.size W0.heap.size .ready none)); rwa [World.size_alloc] at this,
     by rw [← hW1]; exact (Below.heap_alloc _ _ _ (by simp)).trans (World.alloc_heap_new W0 _), hb1⟩
  refine ⟨W0.heap.size + 1, [{ target := .collected W0.heap.size, args := #[] }], W1, { target := .fn (.func g) lb, args := #[.func (.yield (W0.heap.size + 1)) #[] #[]] }, W1, g,
    #[.func (.yield (W0.heap.size + 1)) #[] #[]] ++ lb, W1, ?_, ?_, ?_, ?_, fun _ => h1, ?_⟩
  · rw [← hW1, ← hca, ← hcb]; exact run_enterLoop_outer _ _ _ _ _
  · simp [resolve, go_sem]
  · intro f' hf'; simp [Target.leads] at hf'; subst hf'; exact hFg
  · simp [invoke, go_sem, eg]
  · refine (hseq (W0.heap.size + 1) (ApAtU asg bod w fn (.func (.func g) #[] lb) w.heap.size (W0.heap.size + 1) W0.heap.size) W1 hb1 (ap_abidesU _ _ _ _ _ _ _ _ _ hb1.size)
      (fun pre x W hJ hl => absurd hl (Nat.not_lt_zero _)) hM).mono ?_
    rintro e W2 ⟨⟨v0, rfl⟩, ss, hS, h2⟩
    have hv := h2.box
    have hend := run_endLoop (P := Tryz.prog) h2.L (by simp [apRecU])
    obtain ⟨W3, hW3⟩ : ∃ W3, W2.putObj (W0.heap.size + 1) (.loop { apRecU asg bod fn (.func (.func g) #[] lb) w.heap.size W0.heap.size .ready none with state := .exhausted }) = W3 := ⟨_, rfl⟩
    rw [hW3] at hend
    have hg3 : W2.grownBy W3 (some (W0.heap.size + 1)) := by rw [← hW3]; exact grownBy_putObj_a _ _ _
    have hv3 : W3.heap[w.heap.size]? = some (.cells #[.slice none 0 0] 30 (0, 0)) := by rw [← hW3]; exact (World.putObj_heap_other (by omega)).trans hv
    have hK3 : W3.heap[W0.heap.size]? = some (.deferred (some [])) := by rw [← hW3]; exact (World.putObj_heap_other (by omega)).trans h2.K
    have hb3 : Below w.heap.size w W3 := h2.below.grown hg3 h2.below.size (fun k e => by cases e; omega)
    obtain ⟨hc3, hf3⟩ := cell_of_box_a hv3
    clear hW3
    refine ⟨none, W3, hend, ?_⟩
    gi_wp2
    rw [← hs0]
    refine ⟨by simp, .inl ⟨_, _, rfl, run_takeDeferred hK3, ?_⟩⟩
    exact ⟨_, results_tmp rfl _ _ _, rfl, hb3.grown (grownBy_putObj_a _ _ _) hb3.size (fun k e => by cases e; omega)⟩
theorem collectU (F : Fence) (n : Nat) (h8 : F.fn 235) (h11 : F.fn 333) (hro : F.round = none) (hn : 3 ≤ n) (g : Nat) (lb : Array Value) (hFg : F.fn g) (eg : ∀ args w, (callFunc g args).run Tryz.prog w = .ok (.enter g args) w)
    (w : World) (hseq : SeqGives F (n - 1 - 1) Tryz.prog g lb kvU (fun ss => ss = []) 0 w) :
    CallsIn F n Tryz.prog 235 #[.func (.func g) #[] lb] w fun e w' => e = .returned (.slice none 0 0) ∧ Below w.heap.size w w' := by
  have h1 : 1 ≤ n := by omega
  refine callsIn_of_wp Tryz.func235 rfl h8 ?_ hro
  simp only [Tryz.ntmps235, List.size_toArray, List.length_cons, List.length_nil, Nat.reduceAdd, Nat.reduceSub, Array.replicate_succ, Array.replicate_zero, List.push_toArray, List.append_toArray, List.nil_append, List.cons_append]
  gi_wp2
  refine (appendSeqU F (n - 1) h11 hro (by omega) g lb hFg eg _ hseq).mono ?_
  rintro e w' ⟨rfl, hb⟩
  gi_wp2
  go_ret
  exact ⟨rfl, hb⟩
/-- Collecting the keys of an empty map. -/
def collectES (k : Nat) : Sp
  | [.fn k' [.mp i]], M => if k' = k then (match M[i]? with
    | some (.mapo []) => some { av := .sl [] .no }
    | _ => none) else none
  | _, _ => none
theorem fn_invU {g : G} {f : Nat} {i : Nat} {v : Value} (h : R g (.fn f [.mp i]) v) : ∃ b, v = .func (.func f) #[] #[.pointer (some ⟨b, 0, none⟩)] ∧ g.w.cell? ⟨b, 0, none⟩ = some (.map (some (g.β i))) ∧ i < g.M.length := by
  cases h with
  | fn _ _ bs us h1 h2 h3 =>
    have h4 := h3 0 (by simp)
    simp only [List.getElem_cons_zero] at h4
    generalize hu : us 0 = u at h4
    cases h4 with
    | mp _ hi =>
      refine ⟨bs 0, by simp [List.range_succ], ?_, hi⟩
      have := h1 0 (by simp)
      rw [hu] at this; exact this
theorem collectE_ok : SpecOk Tryz.prog 235 (collectES 237) := by
  intro l M out h
  unfold collectES at h
  split at h
  · rename_i k' i
    split at h
    · rename_i hk
      subst hk
      split at h
      · rename_i hMi
        cases h
        intro g vs hM sm hr ho
        subst hM
        cases hr with | cons hv hr => cases hr with | nil =>
        obtain ⟨b, rfl, hcell, hi⟩ := fn_invU hv
        refine ⟨enters_of Tryz.func235 (by kernel_rfl) rfl _ _, ?_⟩
        obtain ⟨ents, clock, hh, hst, he⟩ := map_at sm hMi
        have hn : ents = #[] := by
          obtain ⟨es⟩ := ents
          cases es with
          | nil => rfl
          | cons x r => cases he
        subst hn
        have hseq : SeqGives Fence.wide (5 - 1 - 1) Tryz.prog 237 #[.pointer (some ⟨b, 0, none⟩)] kvU (fun ss => ss = []) 0 g.w := fun l J W hW hJ _ h0 =>
          keysU_in Fence.wide _ trivial rfl (by omega) l b (g.β i) clock J W hJ ((hW.cell (p := ⟨b, 0, none⟩) (cell_lt hcell)).trans hcell) ((hW.block (g.β i) (Array.getElem?_eq_some_iff.1 hh).1).trans hh) h0
        have hcol := (callsIn_wide (n := 5)).1 (collectU Fence.wide 5 trivial trivial rfl (by omega) 237 #[.pointer (some ⟨b, 0, none⟩)] trivial
          (enters_of Tryz.func237 (by kernel_rfl) rfl) g.w hseq)
        refine hcol.mono ?_
        rintro e w' ⟨rfl, hbel⟩
        exact ⟨_, rfl, g.β, g.ρ, by simp only [G.out, Option.getD_none]; exact sim_below hbel sm, .nil _ trivial, by simp only [G.out, Option.getD_none]; exact keep_below hbel⟩
      · cases h
    · cases h
  · cases h
end Go.Ab
end
section
set_option maxRecDepth 100000
namespace Go.Ab
open Go.Proofs Go.Maps Go.RowKit Go.Sort Go.Shelf Go.Lib ChangeMaps
theorem keysU_c (mb : Option Nat) (w : World) : Calls Tryz.prog 169 #[.map mb] w fun e w' => e = .returned (.func (.func 237) #[] #[.pointer (some ⟨w.heap.size, 0, none⟩)]) ∧ w' = w.alloc (.cells #[.map mb] 148) := by
  go_enter Tryz.func169, Tryz.ntmps169
  go_wp2
  go_ret
  exact ⟨rfl, rfl⟩
theorem keysU_ok : SpecOk Tryz.prog 169 (keysLS 237) := by
  intro l M out h
  unfold keysLS at h
  split at h
  · rename_i i
    split at h
    · cases h
      intro g vs hM sm hr _
      cases hr with | cons hv hr => cases hr with | nil =>
      cases hv with
      | mp _ hi =>
      refine ⟨enters_of Tryz.func169 (by kernel_rfl) rfl _ _, ?_⟩
      refine (keysU_c _ _).mono fun e w' => ?_
      rintro ⟨rfl, rfl⟩
      have hw : (g.w.alloc (.cells #[.map (some (g.β i))] 148)).heap = g.w.heap.push (.cells #[.map (some (g.β i))] 148) := rfl
      refine ⟨_, rfl, g.β, g.ρ, ?_, ?_, ?_⟩
      · simp only [G.out, Option.getD_none]
        exact sim_push hw sm
      · simp only [G.out, Option.getD_none]
        refine .fn _ [.mp i] (fun _ => g.w.heap.size) (fun _ => .map (some (g.β i))) (fun j hj => ?_) (fun j hj hreg => ?_) (fun j hj => ?_)
        · simp [World.cell?, hw]
        · have := sm.inb _ hreg
          simp at this
        · have hj0 : j = 0 := by simp at hj; omega
          subst hj0
          exact .mp (g := { g with w := g.w.alloc (.cells #[.map (some (g.β i))] 148) }) i hi
      · simp only [G.out, Option.getD_none]
        exact keep_push hw
    · cases h
  · cases h
theorem keysLS_free {k : Nat} (l : List AV) (M : List AObj) (o : Out) (h : keysLS k l M = some o) : o.obl := by
  unfold keysLS at h
  split at h
  · split at h <;> first | (cases h; trivial) | cases h
  · cases h
theorem collectES_free {k : Nat} (l : List AV) (M : List AObj) (o : Out) (h : collectES k l M = some o) : o.obl := by
  unfold collectES at h
  split at h
  · split at h
    · split at h <;> first | (cases h; trivial) | cases h
    · cases h
  · cases h
theorem libCloneI.ok : SpecOk Tryz.prog 155 (cloneS 1 8) := by
  intro l M out h
  unfold cloneS at h
  split at h
  · rename_i els tok
    cases h
    refine callOk_nil ?_ ?_
    · refine call_of_vc Tryz.mixed Tryz.tyOk gamL_nil (fun | 0 => [2] | 1 => [4] | 2 => [2] | 3 => [2] | _ => []) (fun _ => []) Tryz.func155 rfl (by kernel_rfl) rfl rfl (by simp) ?_
      intro _ hbM hbA
      simp [hbM]
    · refine call_of_vc Tryz.mixed Tryz.tyOk gamL_nil (fun | 0 => [2] | 1 => [4] | 2 => [2] | 3 => [2] | _ => []) (fun _ => []) Tryz.func155 rfl (by kernel_rfl) rfl rfl (by simp) ?_
      intro ho hbM hbA
      simp at hbA ho
      simp [hbA, hbM, ho, appL]
      try exact ho.1
  · cases h
/-- Letters and digits among the first 256 runes. -/
@[simp] def letterA : Sp
  | [.lit (.int .i32 r)], _ => if Lib.latin1 r then some { av := .lit (.bool (Lib.isLetterL r)) } else none
  | _, _ => none
theorem letterA_ok : LibOk Tryz.prog 75 letterA := by
  intro l M o q
  unfold letterA at q
  split at q
  · rename_i r
    split at q
    · rename_i h
      cases q
      have hr : 0 ≤ r ∧ r ≤ 255 := by simpa [Lib.latin1] using h
      have e : letterR r = Lib.isLetterL r := by unfold letterR Lib.isLetterU; rw [if_pos h]
      refine ⟨?_, trivial⟩
      intro g vs hM sm hv _
      have := gIsLetter.ok [.lit (.int .i32 r)] M { av := .lit (.bool (letterR r)), obl := I32B r } rfl g vs hM sm hv ⟨by omega, by omega⟩
      rw [e] at this; exact this
    · cases q
  · cases q
@[simp] def digitA : Sp
  | [.lit (.int .i32 r)], _ => if Lib.latin1 r then some { av := .lit (.bool (Lib.isDigitL r)) } else none
  | _, _ => none
theorem digitA_ok : LibOk Tryz.prog 76 digitA := by
  intro l M o q
  unfold digitA at q
  split at q
  · rename_i r
    split at q
    · rename_i h
      cases q
      have hr : 0 ≤ r ∧ r ≤ 255 := by simpa [Lib.latin1] using h
      have e : digitR r = Lib.isDigitL r := by unfold digitR Lib.isDigitU; rw [if_pos hr.2]
      refine ⟨?_, trivial⟩
      intro g vs hM sm hv _
      have := gIsDigit.ok [.lit (.int .i32 r)] M { av := .lit (.bool (digitR r)), obl := I32B r } rfl g vs hM sm hv ⟨by omega, by omega⟩
      rw [e] at this; exact this
    · cases q
  · cases q
instance (bs : List Int) : Decidable (TextE bs) := inferInstanceAs (Decidable (∀ x ∈ bs, 0 ≤ x ∧ x < 256))
def textEOb (T E : TypeId) (l : List AV) (M : List AObj) : Bool := isWr T E M l && decide (TextE (wrBs M l))
theorem textEOb_spec {T E : TypeId} (l : List AV) (M : List AObj) (o : Out) (h : wrTextE T E l M = some o) (hb : textEOb T E l M = true) : o.obl := by
  unfold textEOb at hb
  simp only [Bool.and_eq_true, decide_eq_true_eq] at hb
  unfold wrTextE at h
  split at h
  · split at h
    · rename_i φ hM
      cases h
      have := hb.2
      simp only [wrBs, hM] at this
      exact ⟨isWr_spec hb.1 hM, this⟩
    · cases h
  · cases h
def isC3 : AV → Bool
  | .agg [.lit (.int .i64 _), .lit (.int .i64 _), .lit (.int .i64 _)] => true
  | _ => false
theorem isC3_spec {a : AV} (h : isC3 a = true) : a = .agg (c3 (d3 a)) := by
  unfold isC3 at h
  split at h
  · rfl
  · cases h
def isFn (c : Nat) : Value → Bool
  | .func (.func c') ⟨[]⟩ ⟨[]⟩ => c' == c
  | _ => false
theorem isFn_spec {c : Nat} {v : Value} (h : isFn c v = true) : v = .func (.func c) #[] #[] := by
  unfold isFn at h
  split at h
  · rw [eq_of_beq h]
  · cases h
def sortedLOb (k c : Nat) (l : List AV) (M : List AObj) : Bool := match l with
  | [.fn k' [.mp i], .lit v] => match M[i]? with
    | some (.mapo es) => (es.all fun e => isC3 e.1) && decide ((keys3 es).length * 24 ≤ 140737488355328) && k' == k && isFn c v
    | _ => false
  | _ => false
theorem sortedLOb_spec {k c : Nat} (l : List AV) (M : List AObj) (o : Out) (h : sortedLS k c l M = some o) (hb : sortedLOb k c l M = true) : o.obl := by
  unfold sortedLS at h
  split at h
  · rename_i k' i v
    split at h
    · rename_i es hM
      cases h
      simp only [sortedLOb, hM, Bool.and_eq_true, decide_eq_true_eq] at hb
      exact ⟨fun e he => isC3_spec (List.all_eq_true.1 hb.1.1.1 e he), hb.1.1.2, eq_of_beq hb.1.2, isFn_spec hb.2⟩
    · cases h
  · cases h
end Go.Ab
end
