import Derived.Test.YtpamnignoocogaaGreatDoorM16
import Derived.Test.YtpamnignoocogaaGreatDoorM04
import Derived.Test.YtpamnignoocogaaGreatDoorM14
import Derived.Test.YtpamnignoocogaaGreatDoorM09
import Derived.Test.YtpamnignoocogaaGreatDoorProg
import Derived.Sort.CutIn
import Derived.Test.YtpamnignoocogaaGreatDoorTy
import Derived.WalkKit
import Derived.StillTailTactics
section
namespace Go.Proofs
open Go.Ab
noncomputable def gS (x0 : Int) : Option Int :=
 some (ixbS ⟨#[48, 49, 50, 51, 52, 53, 54, 55, 56, 57, 97, 98, 99, 100, 101, 102]⟩ x0)
noncomputable def gE.loop1 (x0 : ByteArray) (s1 : Int × List Int) : Option (Fl (Int × List Int) (Fl (List Int) (ByteArray × Bool))) :=
 bif (ltI s1.1 (lenS x0)) then (
  need (InB s1.1 (lenS x0)) <|
  ((gS (idxS x0 s1.1))).bind fun r1 =>
  need (InB (addI .i64 s1.1 1) (lenS x0)) <|
  ((gS (idxS x0 (addI .i64 s1.1 1)))).bind fun r2 =>
  bif (pickB (ltI r1 0) true (ltI r2 0)) then (
   some (.out (.out (⟨#[]⟩, false)))
  ) else (
    need (AppB (lenL s1.2) 1 1) <|
    some (.go ((addI .i64 s1.1 2), (appL s1.2 [(cvtI .u8 (addI .i64 (mulI .i64 16 r1) r2))])))
  )
 ) else (
   some (.out (.go s1.2))
 )
noncomputable def gE (x0 : ByteArray) : Option (ByteArray × Bool) :=
 need (NonZ 2) <|
 bif (neI (remI (lenS x0) 2) 0) then (
  some (⟨#[]⟩, false)
 ) else (
   need (NonZ 2) <|
   need (RepB (quoI .i64 (lenS x0) 2) (quoI .i64 (lenS x0) 2) 1) <|
   ((loopF (gE.loop1 x0) (0, [])).bind fun f => flC f fun (v1 : List Int) =>
     some ((strOfNums v1), true)
   )
 )
noncomputable def gal.loop1 (x0 : ByteArray) (s1 : Int × List Int) : Option (Fl (Int × List Int) (Fl (List Int) ByteArray)) :=
 bif (ltI s1.1 (lenS x0)) then (
  need (InB s1.1 (lenS x0)) <|
  need (NonN 4) <|
  need (InB (shrI .u8 (idxS x0 s1.1) 4) (lenS ⟨#[48, 49, 50, 51, 52, 53, 54, 55, 56, 57, 97, 98, 99, 100, 101, 102]⟩)) <|
  need (AppB (lenL s1.2) 1 1) <|
  need (InB s1.1 (lenS x0)) <|
  need (InB (bitsOp .and .u8 (idxS x0 s1.1) 15) (lenS ⟨#[48, 49, 50, 51, 52, 53, 54, 55, 56, 57, 97, 98, 99, 100, 101, 102]⟩)) <|
  need (AppB ((lenL s1.2) + 1) 1 1) <|
  some (.go ((addI .i64 s1.1 1), (appL (appL s1.2 [(idxS ⟨#[48, 49, 50, 51, 52, 53, 54, 55, 56, 57, 97, 98, 99, 100, 101, 102]⟩ (shrI .u8 (idxS x0 s1.1) 4))]) [(idxS ⟨#[48, 49, 50, 51, 52, 53, 54, 55, 56, 57, 97, 98, 99, 100, 101, 102]⟩ (bitsOp .and .u8 (idxS x0 s1.1) 15))])))
 ) else (
   some (.out (.go s1.2))
 )
noncomputable def gal (x0 : ByteArray) : Option ByteArray :=
 ((loopF (gal.loop1 x0) (0, [])).bind fun f => flC f fun (v1 : List Int) =>
   need (TextE v1) <|
   some (strOfNums v1)
 )
end Go.Proofs
end
section
namespace Go.Ab
section
variable {P : Program}
def anyR (T : EvT) (run : Nat → Code → St → Option (Exit × St)) (n : Nat) (x : Code) (σ : St) : Option (Exit × St) := match x with
 | .loop y => match anyX T run n y σ with
   | some r => some r
   | none => run n x σ
 | _ => run n x σ
theorem anyR_ok {T : EvT} (hT : EvOk P T) {run : Nat → Code → St → Option (Exit × St)} (hr : RunOk P run) : RunOk P (anyR T run) := by
 intro n B c σ e σ' h ht;unfold anyR at h;split at h
 ·split at h
  ·rename_i r hx;cases h;exact any_ok hT hr hx ht
  ·exact hr n B _ σ e σ' h ht
 ·exact hr n B _ σ e σ' h ht
def evC (T : EvT) : Nat → Nat → Code → St → Option (Exit × St)
 | 0, _, _, _ => none
 | k + 1, n, c, σ => match c with
   | .skip => some (.normal, σ)
   | .ret => some (.ret, σ)
   | .exit id => some (.exit id, σ)
   | .seq x y => match evC T k n x σ with
     | some (.normal, σ') => evC T k n y σ'
     | r => r
   | .cond c x y => match evX σ.A [] c with
     | some (.lit (.bool true)) => evC T k n x σ
     | some (.lit (.bool false)) => evC T k n y σ
     | _ => none
   | .block id x => match anyR T (evC T k) n x σ with
     | some (.exit id', σ') => if id' = id then some (.normal, σ') else some (.exit id', σ')
     | r => r
   | .loop x => match evC T k n x σ with
     | some (.normal, σ') => evC T k n (.loop x) σ'
     | r => r
   | .region _ ops draw => (regY T (callX T (evC T k)) n ops draw σ).map fun σ' => (.normal, σ')
   | _ => none
def evF (T : EvT) (k : Nat) : Gam := callX T (evC T k)
theorem evC_ok {T : EvT} (hT : EvOk P T) (k0 : Nat) : RunOk P (evC T k0) := by
 induction k0 using Nat.strongRecOn with
 | _ k0 ihs =>
 match k0, ihs with
 | 0, _ => exact fun n B c σ e σ' h => by cases h
 | k + 1, ihs =>
   have ih := ihs k (Nat.lt_succ_self k);have ihA := anyR_ok hT ih;intro n B c σ e σ' h ht;have hall := h;unfold evC at h;split at h
   ·cases h; exact AWp.skip ⟨rfl, rfl, ht⟩
   ·cases h; exact AWp.ret ⟨rfl, rfl, ht⟩
   ·cases h; exact AWp.exit ⟨rfl, rfl, ht⟩
   ·rename_i x y;refine AWp.seq ?_;split at h
    ·rename_i σ1 h1;refine AWp.mono (ih n B x σ _ σ1 h1 ht) fun e' σ'' q => ?_;obtain ⟨rfl, rfl, q3⟩ := q;exact ih n B y _ _ _ h q3
    ·rename_i hne;refine AWp.mono (ih n B x σ _ σ' h ht) fun e' σ'' q => ?_;obtain ⟨rfl, rfl, q3⟩ := q;cases e' with
     | normal => exact absurd h (hne _)
     | _ => exact ⟨rfl, rfl, q3⟩
   ·rename_i c x y;split at h
    ·rename_i hc;exact AWp.cond hc (fun _ => ih n B x σ _ σ' h ht) (fun hb => by cases hb)
    ·rename_i hc;exact AWp.cond hc (fun hb => by cases hb) (fun _ => ih n B y σ _ σ' h ht)
    ·cases h
   ·rename_i id x;refine AWp.block ?_;split at h
    ·rename_i id' σ1 h1;refine AWp.mono (ihA n B x σ _ σ1 h1 ht) fun e' σ'' q => ?_;obtain ⟨rfl, rfl, q3⟩ := q;simp only [blockS];split at h
     ·rename_i hid; cases h; rw [if_pos hid]; exact ⟨rfl, rfl, q3⟩
     ·rename_i hid; cases h; rw [if_neg hid]; exact ⟨rfl, rfl, q3⟩
    ·rename_i hne;refine AWp.mono (ihA n B x σ _ σ' h ht) fun e' σ'' q => ?_;obtain ⟨rfl, rfl, q3⟩ := q;cases e' with
     | exit id' => exact absurd h (hne _ _)
     | _ => exact ⟨rfl, rfl, q3⟩
   ·rename_i x;refine AWp.loop (fun j τ => j ≤ k + 1 ∧ evC T j n (.loop x) τ = some (e, σ') ∧ noTags τ.A = true) (k + 1) ⟨Nat.le_refl _, hall, ht⟩ ?_;rintro j τ ⟨hj, hev, hτ⟩
    match j, hj, hev with
    | 0, _, hev => cases hev
    | j + 1, hj, hev =>
      have ihj := ihs j (by omega);unfold evC at hev;simp only at hev;split at hev
      ·rename_i σ1 h1;refine AWp.mono (ihj n B x τ _ σ1 h1 hτ) fun e' σ'' q => ?_;obtain ⟨rfl, rfl, q3⟩ := q;exact ⟨j, Nat.lt_succ_self j, by omega, hev, q3⟩
      ·rename_i hne;refine AWp.mono (ihj n B x τ _ σ' hev hτ) fun e' σ'' q => ?_;obtain ⟨rfl, rfl, q3⟩ := q;cases e' with
       | normal => exact absurd hev (hne _)
       | _ => exact ⟨rfl, rfl, q3⟩
   ·obtain ⟨σ1, h1, e1⟩ := Option.map_eq_some_iff.1 h;cases e1;exact regY_ok hT (callX_ok hT ih) (callX_free hT) h1 ht
   ·cases h
theorem evF_ok {T : EvT} (hT : EvOk P T) (k : Nat) {f : FuncId} {l : List AV} {M : List AObj} {o : Out} (h : evF T k f l M = some o) : CallOk P f l M o := (callX_ok hT (evC_ok hT k)).h f l M o h
def chkS (S : Sp) (ob : List AV → List AObj → Bool) : Sp := fun l M => if ob l M then (S l M).map fun o => { o with obl := True } else none
theorem chkS_ok {f : FuncId} {S : Sp} {ob : List AV → List AObj → Bool} (h : SpecOk P f S) (hob : ∀ l M o, S l M = some o → ob l M = true → o.obl) {l : List AV} {M : List AObj} {o : Out} (q : chkS S ob l M = some o) : CallOk P f l M o ∧ o.obl := by
 unfold chkS at q;split at q
 ·rename_i hb;obtain ⟨o', h1, rfl⟩ := Option.map_eq_some_iff.1 q;exact ⟨fun g vs hM sm hr _ => h l M o' h1 g vs hM sm hr (hob l M o' h1 hb), trivial⟩
 ·cases q
def isWr (T E : TypeId) (M : List AObj) : List AV → Bool
 | .ptr i 0 :: _ => match M[i]? with
   | some (.opq φ) => decide (φ.k = some (T, E))
   | _ => false
 | _ => false
theorem isWr_spec {T E : TypeId} {M : List AObj} {i : Nat} {l : List AV} {φ : Opq} (h : isWr T E M (.ptr i 0 :: l) = true) (hM : M[i]? = some (.opq φ)) : φ = wrO T E φ.bs := by
 unfold isWr at h;simp only [hM] at h;have := of_decide_eq_true h;obtain ⟨bs, k⟩ := φ;simp only at this;subst this;rfl
end
end Go.Ab
end
section
set_option maxRecDepth 100000
set_option maxHeartbeats 2000000
namespace Go.Ab
open Go.Proofs Go.Maps Go.RowKit Go.Sort Go.Shelf ChangeMaps
def kvU (x : Int) : Value := .int .u32 x
theorem keysU_in (F : Fence) (n : Nat) (h10 : F.fn 237) (hro : F.round = none) (_hn : 1 ≤ n) (l Bm b : Nat) (clock : Nat) (J : List Int → World → Prop)
  (W : World) (hJ : AbidesFrom W.heap.size J) (hm : W.cell? ⟨Bm, 0, none⟩ = some (.map (some b))) (hb : W.heap[b]? = some (.map #[] clock)) (h0 : J [] W) :
  CallsIn F n Tryz.prog 237 #[.func (.yield l) #[] #[], .pointer (some ⟨Bm, 0, none⟩)] W fun e W' => (∃ v, e = .returned v) ∧ ∃ ss : List Int, ss = [] ∧ J ss W' := by
 refine callsIn_of_wp Tryz.func237 rfl h10 ?_ hro;simp only [Tryz.ntmps237, List.size_toArray, List.length_cons, List.length_nil, Nat.reduceAdd, Nat.reduceSub, Array.replicate_succ, Array.replicate_zero, List.push_toArray, List.append_toArray, List.nil_append, List.cons_append]
 gi_wp2_with (first
  | (gi_at_range; refine wpListIn_range_K rfl _ _ rfl (k := 116) (e := 272) (b := b) (ents := #[]) (clock := clock) (by kernel_rfl) rfl hb ?_; intro w0 hrg0 hg0 hs0)
  | gi_in)
 go_frame
 gi_loopw [3] (fun _ wr => KR wr b W.heap.size #[] clock [] ∧ J [] wr) (fun _ _ => 0)
 case atStart =>
  exact ⟨hrg0, hJ [] W w0 none h0 hg0 (fun r e => by cases e)⟩
 case round =>
  obtain ⟨hrg, hJs⟩ := hrel
  gi_wp2_with (first
   | (gi_at_next; refine wpListIn_next_K rfl _ rfl rfl hrg (fun _ h => by cases h) .nil ?_ ?_)
   | gi_in)
  go_end0
  exact ⟨⟨_, rfl⟩, [], rfl, hJs⟩
def rfOf : Code → Option (Code × Code)
 | .rangeFunc _ _ a c => some (a, c)
 | .seq x y => match rfOf x with
   | some r => some r
   | none => rfOf y
 | .block _ x => rfOf x
 | _ => none
def apRecU (asg bod : Code) (fn : FuncId) (sv : Value) (Bs D : Nat) (st : LoopState) (pend : Option Code) : Loop :=
 { state := st, pending := pend, fn, tmps := #[.slice none 0 0, sv, .pointer (some ⟨Bs, 0, none⟩), undef, .slice none 0 0, undef, sv, undef, undef, undef, undef, undef, undef], params := #[7], assign := asg, body := bod, defers := D }
structure ApAtU (asg bod : Code) (w0 : World) (fn : FuncId) (sv : Value) (Bs l D : Nat) (ss : List Int) (W : World) : Prop where
 nil : ss = []
 box : W.heap[Bs]? = some (.cells #[.slice none 0 0] 30 (0, 0))
 L : W.heap[l]? = some (.loop (apRecU asg bod fn sv Bs D .ready none))
 K : W.heap[D]? = some (.deferred (some []))
 below : Below w0.heap.size w0 W
theorem ap_abidesU (asg bod : Code) (w0 : World) (fn : FuncId) (sv : Value) (Bs l D B : Nat) (hB : w0.heap.size ≤ B) : AbidesFrom B (ApAtU asg bod w0 fn sv Bs l D) := fun s W W' row h hg hrow => by
 have hrow' : ∀ r, row = some r → ∃ o : Obj, W.heap[r]? = some o ∧ o.isWalk = true := fun r e => (hrow r e).2
 exact ⟨h.nil, (grownBy_keeps hg hrow' h.box rfl).trans h.box, (grownBy_keeps hg hrow' h.L rfl).trans h.L, (grownBy_keeps hg hrow' h.K rfl).trans h.K,
  h.below.grown hg h.below.size (fun k e => Nat.le_trans hB (hrow k e).1)⟩
theorem appendSeqU (F : Fence) (n : Nat) (h11 : F.fn 333) (hro : F.round = none) (hn : 2 ≤ n) (g : Nat) (lb : Array Value) (hFg : F.fn g) (eg : ∀ args w, (callFunc g args).run Tryz.prog w = .ok (.enter g args) w)
    (w : World) (hseq : SeqGives F (n - 1) Tryz.prog g lb kvU (fun ss => ss = []) 0 w) :
    CallsIn F n Tryz.prog 333 #[.slice none 0 0, .func (.func g) #[] lb] w fun e w' => e = .returned (.slice none 0 0) ∧ Below w.heap.size w w' := by
  have h1 : 1 ≤ n := by omega
  refine callsIn_of_wp_marks Tryz.func333 rfl h11 ?_ hro;simp only [Tryz.ntmps333, List.size_toArray, List.length_cons, List.length_nil, Nat.reduceAdd, Nat.reduceSub, Array.replicate_succ, Array.replicate_zero, List.push_toArray, List.append_toArray, List.nil_append, List.cons_append]
  gi_wp2
  refine wpIn_rangeFunc ?_;intro fn hfn;rw [hro];obtain ⟨W0, hW0⟩ : ∃ W0, w.alloc (.cells #[.slice none 0 0] 30) = W0 := ⟨_, rfl⟩;have hs0 : W0.heap.size = w.heap.size + 1 := by rw [← hW0]; simp
  have hv0 : W0.heap[w.heap.size]? = some (.cells #[.slice none 0 0] 30 (0, 0)) := by rw [← hW0]; exact World.alloc_heap_new w _
  have hb0 : Below w.heap.size w W0 := by rw [← hW0]; exact (Below.refl _ w).alloc (Nat.le_refl _) _
  rw [hW0];obtain ⟨asg, bod, hcode⟩ : ∃ asg bod, (Tryz.f333.body).bind rfOf = some (asg, bod) := ⟨_, _, rfl⟩;have hc := hcode;simp only [Tryz.f333, rfOf, Option.bind_some, Option.some.injEq, Prod.mk.injEq] at hc;obtain ⟨hca, hcb⟩ := hc;obtain ⟨W1, hW1⟩ : ∃ W1, (W0.alloc (.deferred (some []))).alloc (.loop (apRecU asg bod fn (.func (.func g) #[] lb) w.heap.size W0.heap.size .ready none)) = W1 := ⟨_, rfl⟩
  have hold : ∀ k, k < W0.heap.size → W1.heap[k]? = W0.heap[k]? := fun k hk => by
    rw [← hW1]; exact (Below.heap_alloc _ _ k (by simp; omega)).trans (Below.heap_alloc _ _ k hk)
  have hb1 : Below w.heap.size w W1 := by rw [← hW1]; exact (hb0.alloc hb0.size _).alloc (by have := hb0.size; simp; omega) _
  have hs1 : W1.heap.size = W0.heap.size + 2 := by rw [← hW1]; simp
  have hM : ApAtU asg bod w fn (.func (.func g) #[] lb) w.heap.size (W0.heap.size + 1) W0.heap.size [] W1 :=
    ⟨rfl, (hold w.heap.size (by omega)).trans hv0,
     by rw [← hW1]; have := World.alloc_heap_new (W0.alloc (.deferred (some []))) (.loop (apRecU asg bod fn (.func (.func g) #[] lb) w.heap.size W0.heap.size .ready none)); rwa [World.size_alloc] at this,
     by rw [← hW1]; exact (Below.heap_alloc _ _ _ (by simp)).trans (World.alloc_heap_new W0 _), hb1⟩
  refine ⟨W0.heap.size + 1, [{ target := .collected W0.heap.size, args := #[] }], W1, { target := .fn (.func g) lb, args := #[.func (.yield (W0.heap.size + 1)) #[] #[]] }, W1, g,
    #[.func (.yield (W0.heap.size + 1)) #[] #[]] ++ lb, W1, ?_, ?_, ?_, ?_, fun _ => h1, ?_⟩
  · rw [← hW1, ← hca, ← hcb]; exact run_enterLoop_outer _ _ _ _ _
  · simp [resolve, go_sem]
  · intro f' hf'; simp [Target.leads] at hf'; subst hf'; exact hFg
  · simp [invoke, go_sem, eg]
  · refine (hseq (W0.heap.size + 1) (ApAtU asg bod w fn (.func (.func g) #[] lb) w.heap.size (W0.heap.size + 1) W0.heap.size) W1 hb1 (ap_abidesU _ _ _ _ _ _ _ _ _ hb1.size)
      (fun pre x W hJ hl => absurd hl (Nat.not_lt_zero _)) hM).mono ?_
    rintro e W2 ⟨⟨v0, rfl⟩, ss, hS, h2⟩;have hv := h2.box;have hend := run_endLoop (P := Tryz.prog) h2.L (by simp [apRecU]);obtain ⟨W3, hW3⟩ : ∃ W3, W2.putObj (W0.heap.size + 1) (.loop { apRecU asg bod fn (.func (.func g) #[] lb) w.heap.size W0.heap.size .ready none with state := .exhausted }) = W3 := ⟨_, rfl⟩;rw [hW3] at hend;have hg3 : W2.grownBy W3 (some (W0.heap.size + 1)) := by rw [← hW3]; exact grownBy_putObj_a _ _ _
    have hv3 : W3.heap[w.heap.size]? = some (.cells #[.slice none 0 0] 30 (0, 0)) := by rw [← hW3]; exact (World.putObj_heap_other (by omega)).trans hv
    have hK3 : W3.heap[W0.heap.size]? = some (.deferred (some [])) := by rw [← hW3]; exact (World.putObj_heap_other (by omega)).trans h2.K
    have hb3 : Below w.heap.size w W3 := h2.below.grown hg3 h2.below.size (fun k e => by cases e; omega);obtain ⟨hc3, hf3⟩ := cell_of_box_a hv3;clear hW3;refine ⟨none, W3, hend, ?_⟩
    gi_wp2
    rw [← hs0];refine ⟨by simp, .inl ⟨_, _, rfl, run_takeDeferred hK3, ?_⟩⟩;exact ⟨_, results_tmp rfl _ _ _, rfl, hb3.grown (grownBy_putObj_a _ _ _) hb3.size (fun k e => by cases e; omega)⟩
theorem collectU (F : Fence) (n : Nat) (h8 : F.fn 235) (h11 : F.fn 333) (hro : F.round = none) (hn : 3 ≤ n) (g : Nat) (lb : Array Value) (hFg : F.fn g) (eg : ∀ args w, (callFunc g args).run Tryz.prog w = .ok (.enter g args) w)
  (w : World) (hseq : SeqGives F (n - 1 - 1) Tryz.prog g lb kvU (fun ss => ss = []) 0 w) :
  CallsIn F n Tryz.prog 235 #[.func (.func g) #[] lb] w fun e w' => e = .returned (.slice none 0 0) ∧ Below w.heap.size w w' := by
 have h1 : 1 ≤ n := by omega
 refine callsIn_of_wp Tryz.func235 rfl h8 ?_ hro;simp only [Tryz.ntmps235, List.size_toArray, List.length_cons, List.length_nil, Nat.reduceAdd, Nat.reduceSub, Array.replicate_succ, Array.replicate_zero, List.push_toArray, List.append_toArray, List.nil_append, List.cons_append]
 gi_wp2
 refine (appendSeqU F (n - 1) h11 hro (by omega) g lb hFg eg _ hseq).mono ?_;rintro e w' ⟨rfl, hb⟩
 gi_wp2
 go_ret;exact ⟨rfl, hb⟩
def collectES (k : Nat) : Sp
 | [.fn k' [.mp i]], M => if k' = k then (match M[i]? with
   | some (.mapo []) => some { av := .sl [] .no }
   | _ => none) else none
 | _, _ => none
theorem fn_invU {g : G} {f : Nat} {i : Nat} {v : Value} (h : R g (.fn f [.mp i]) v) : ∃ b, v = .func (.func f) #[] #[.pointer (some ⟨b, 0, none⟩)] ∧ g.w.cell? ⟨b, 0, none⟩ = some (.map (some (g.β i))) ∧ i < g.M.length := by
 cases h with
 | fn _ _ bs us h1 h2 h3 =>
   have h4 := h3 0 (by simp);simp only [List.getElem_cons_zero] at h4;generalize hu : us 0 = u at h4;cases h4 with
   | mp _ hi =>
     refine ⟨bs 0, by simp [List.range_succ], ?_, hi⟩;have := h1 0 (by simp);rw [hu] at this; exact this
theorem collectE_ok : SpecOk Tryz.prog 235 (collectES 237) := by
 intro l M out h;unfold collectES at h;split at h
 ·rename_i k' i;split at h
  ·rename_i hk;subst hk;split at h
   ·rename_i hMi;cases h;intro g vs hM sm hr ho;subst hM;cases hr with | cons hv hr => cases hr with | nil =>
    obtain ⟨b, rfl, hcell, hi⟩ := fn_invU hv;refine ⟨enters_of Tryz.func235 (by kernel_rfl) rfl _ _, ?_⟩;obtain ⟨ents, clock, hh, hst, he⟩ := map_at sm hMi
    have hn : ents = #[] := by
     obtain ⟨es⟩ := ents;cases es with
     | nil => rfl
     | cons x r => cases he
    subst hn
    have hseq : SeqGives Fence.wide (5 - 1 - 1) Tryz.prog 237 #[.pointer (some ⟨b, 0, none⟩)] kvU (fun ss => ss = []) 0 g.w := fun l J W hW hJ _ h0 =>
     keysU_in Fence.wide _ trivial rfl (by omega) l b (g.β i) clock J W hJ ((hW.cell (p := ⟨b, 0, none⟩) (cell_lt hcell)).trans hcell) ((hW.block (g.β i) (Array.getElem?_eq_some_iff.1 hh).1).trans hh) h0
    have hcol := (callsIn_wide (n := 5)).1 (collectU Fence.wide 5 trivial trivial rfl (by omega) 237 #[.pointer (some ⟨b, 0, none⟩)] trivial
     (enters_of Tryz.func237 (by kernel_rfl) rfl) g.w hseq)
    refine hcol.mono ?_;rintro e w' ⟨rfl, hbel⟩;exact ⟨_, rfl, g.β, g.ρ, by simp only [G.out, Option.getD_none]; exact sim_below hbel sm, .nil _ trivial, by simp only [G.out, Option.getD_none]; exact keep_below hbel⟩
   ·cases h
  ·cases h
 ·cases h
end Go.Ab
end
section
set_option maxRecDepth 100000
set_option maxHeartbeats 4000000
namespace Go.Proofs
open Go.Ab
@[simp] def gad.out (_x0 : Int) (r : Int) : Out := { av := .lit (.int .i64 r), M := none }
theorem gad.can (x0 : Int) (r : Int) (hr : gad x0 = some r) : CallOk Tryz.prog 74 [.lit (.int .i32 x0)] [] (gad.out x0 r) := by
 unfold gad at hr;have hΓ := gamL_nil (P := Tryz.prog);refine cw Tryz.func74 rfl (by kernel_rfl) rfl rfl (by simp) fun _ _ _ => ?_;refine tq hΓ [] [] ?_;refine AWp.seq ?_;refine tq hΓ [4] [] ?_;refine AWp.cnd hr (by simp) (fun h4 hr => ?_) (fun h4 hr => ?_)
 ·refine tq hΓ [2] [4, 0] ?_ (by simp [h4]; exact rr);obtain rfl := La hr;exact AWp.ret (Ld (by simp))
 ·refine AWp.skip ?_;refine AWp.seq ?_;refine tq hΓ [6] [4] ?_ (by simp [h4]; exact rr);refine AWp.cnd hr (by simp) (fun h5 hr => ?_) (fun h5 hr => ?_)
  ·refine tq hΓ [2] [6, 0] ?_ (by simp [h5]; exact rr);obtain rfl := La hr;exact AWp.ret (Ld (by simp))
  ·refine AWp.skip ?_;refine AWp.seq ?_;refine tq hΓ [8] [6, 0] ?_ (by simp [h5]; exact rr);refine AWp.cnd hr (by simp) (fun h6 hr => ?_) (fun h6 hr => ?_)
   ·refine tq hΓ [2] [8] ?_ (by simp [h6]; exact rr);obtain rfl := La hr;exact AWp.ret (Ld (by simp))
   ·refine AWp.skip ?_;refine tq hΓ [2] [8] ?_ (by simp [h6]; exact rr);obtain rfl := La hr;exact AWp.ret (Ld (by simp))
@[simp] noncomputable def gad.S : Sp
  | [.lit (.int .i32 x0)], _ => some { av := .lit (.int .i64 ((gad x0).getD dflt)), M := none, obl := (gad x0).isSome = true }
  | _, _ => none
theorem gad.ok : SpecOk Tryz.prog 74 gad.S := by
 intro l M out h;unfold gad.S at h;split at h
 ·rename_i x0;cases h;refine callOk_of fun ho => ?_;have hs := ho;obtain ⟨r, hr⟩ := so1 hs;simp only [hr, gd1];have q := Lg (M := M) [] (gad.can x0 r hr) (by simp) rfl ixn;exact callOk_conv q trivial (by simp) (by simp [frameOut]) (by simp [frameOut])
 ·cases h
@[simp] def gT.out (_x0 : Int) (r : Int) : Out := { av := .lit (.int .i64 r), M := none }
theorem gT.can (x0 : Int) (r : Int) (hr : gT x0 = some r) : CallOk Tryz.prog 38 [.lit (.int .i32 x0)] [] (gT.out x0 r) := by
 unfold gT at hr;have hΓ := (gamL_cons gau.ok (gamL_cons gat.ok (gamL_nil)) : GamOk Tryz.prog _);refine cw Tryz.func38 rfl (by kernel_rfl) rfl rfl (by simp) fun _ _ _ => ?_;refine tq hΓ [] [] ?_;refine AWp.seq ?_;refine tq hΓ [12] [] ?_;refine AWp.cnd hr (by simp) (fun h6 hr => ?_) (fun h6 hr => ?_)
 ·refine tq hΓ [2] [12, 0] ?_ (by simp [h6]; exact rr);obtain rfl := La hr;exact AWp.ret (Ld (by simp))
 ·refine AWp.skip ?_;refine AWp.seq ?_;obtain ⟨h7, hr⟩ := Lb hr;refine tq hΓ [14] [12] ?_ (by simp [h6, h7]; exact rr);refine AWp.cnd hr (by simp) (fun h8 hr => ?_) (fun h8 hr => ?_)
  ·refine tq hΓ [2] [14, 0] ?_ (by simp [h8]; exact rr);obtain rfl := La hr;exact AWp.ret (Ld (by simp))
  ·refine AWp.skip ?_;refine AWp.seq ?_;obtain ⟨h9, hr⟩ := Lb hr;refine tq hΓ [16] [14, 0] ?_ (by simp [h7, h8]; exact rr);refine AWp.cnd hr (by simp) (fun h10 hr => ?_) (fun h10 hr => ?_)
   ·refine tq hΓ [2] [16] ?_ (by simp [h10]; exact rr);obtain rfl := La hr;exact AWp.ret (Ld (by simp))
   ·refine AWp.skip ?_;refine tq hΓ [2] [16] ?_ (by simp [h10]; exact rr);obtain rfl := La hr;exact AWp.ret (Ld (by simp))
@[simp] noncomputable def gT.S : Sp
  | [.lit (.int .i32 x0)], _ => some { av := .lit (.int .i64 ((gT x0).getD dflt)), M := none, obl := (gT x0).isSome = true }
  | _, _ => none
theorem gT.ok : SpecOk Tryz.prog 38 gT.S := by
 intro l M out h;unfold gT.S at h;split at h
 ·rename_i x0;cases h;refine callOk_of fun ho => ?_;have hs := ho;obtain ⟨r, hr⟩ := so1 hs;simp only [hr, gd1];have q := Lg (M := M) [] (gT.can x0 r hr) (by simp) rfl ixn;exact callOk_conv q trivial (by simp) (by simp [frameOut]) (by simp [frameOut])
 ·cases h
@[simp] def gG.out (_x0 : ByteArray) (r : List Int × Bool) : Out := { av := .tup [.sl (r.1.map (eNum .i32)) .no, .lit (.bool r.2)], M := none }
def gG.fin (x0 : ByteArray) (r : List Int × Bool) (σ : St) : Prop := finK (gG.out x0 r) [] σ.M (resA Tryz.ty σ.A σ.M Tryz.f37.results.toList)
theorem gG.can (x0 : ByteArray) (r : List Int × Bool) (hr : gG x0 = some r) : CallOk Tryz.prog 37 [.lit (.string x0)] [] (gG.out x0 r) := by
 unfold gG at hr;have hΓ := (gamL_cons gad.ok (gamL_nil) : GamOk Tryz.prog _);refine cw Tryz.func37 rfl (by kernel_rfl) rfl rfl (by simp) fun _ _ _ => ?_;refine tq hΓ [] [] ?_;refine tq hΓ [4] [] ?_;refine tq hΓ [5] [] ?_;refine AWp.seq ?_;refine tq hΓ [11] [] ?_;refine AWp.equip 4 1 (els := []) (by simp) (by simp) ?_;refine AWp.loopE (fun (s1 : Int × List Int × Nat) (γ1 : Nat) => ⟨[⟨11, none, .it 0⟩, ⟨5, none, .n s1.1⟩, ⟨4, none, .sl (s1.2.1.map (eNum .i32)) (.own 1 (γ1) 1)⟩, ⟨0, none, .s x0⟩], [.iter x0 s1.2.2, .room (γ1)]⟩) (fun (v1 : List Int) (γ1a : Nat) => ⟨[⟨4, none, .sl (v1.map (eNum .i32)) (.own 1 (γ1a) 1)⟩], [.dead, .room (γ1a)]⟩) (gG.fin x0) hr 0 2 (by simp) (fun s1 f γ1 hr => ?_) (fun v1 γ1a σ1 m1 hr hc => ?_) (fun _ h => h)
 ·unfold gG.loop1 at hr;cases h6 : (nextB x0 s1.2.2) with
  | true =>
    have hr := cond_t h6 hr;refine tq hΓ [12, 13] [] ?_ (by simp [h6]; exact rr);refine AWp.seq ?_;refine AWp.cond (b := true) (by simp) (fun hb => ?_) (fun hb => ?_)
    ·refine AWp.skip ?_;refine AWp.block ?_;refine tq hΓ [7] [12, 13] ?_ (by simp; exact rr);obtain ⟨r1, h7, hr⟩ := Le hr;refine tq hΓ [8] [] ?_ (by simp [h7]; exact rr);refine AWp.seq ?_;obtain ⟨h8, hr⟩ := Lb hr;refine td hΓ [34] [] [] [(false, []), (false, []), (false, []), (false, []), (false, []), (false, []), (false, []), (false, [23]), (false, [23]), (false, [23]), (false, [23]), (false, [23]), (false, [23]), (false, [23]), (false, [23]), (false, [23]), (false, [23]), (false, [])] (by simp [h8]; exact rr) ?_;refine AWp.cnd hr (by simp) (fun h9 hr => ?_) (fun h9 hr => ?_)
     ·refine tq hΓ [2, 3] [34, 8, 7, 11, 5, 4, 0] ?_ (by simp [h9]; exact rr);refine AWp.ret ?_;obtain rfl := La hr;refine round_ret ?_;refine Ld ?_;simp
     ·refine AWp.skip ?_;refine tq hΓ [5] [34, 8] ?_ (by simp [h9]; exact rr);obtain ⟨h10, hr⟩ := Lb hr;refine tl hΓ [4] [7] ?_ (by simp [h10]; exact rr);obtain rfl := La hr;exact Lo (γ1 + 1) 2 (by first | (simp; done) | simp [h6, h7, h8, h9, h10])
    ·cases hb
  | false =>
    have hr := cond_f h6 hr;refine tq hΓ [12, 13] [] ?_ (by simp [h6]; exact rr);refine AWp.seq ?_;refine AWp.cond (b := false) (by simp) (fun hb => ?_) (fun hb => ?_)
    ·cases hb
    ·refine AWp.exit ?_;obtain rfl := La hr;exact Lp (γ1) 2 (by first | (simp; done) | simp [h6])
 ·refine AWp.conv hc ?_;refine tq hΓ [2, 3] [4] ?_;obtain rfl := La hr;exact AWp.ret (Ld (by simp))
@[simp] noncomputable def gG.S : Sp
  | [.lit (.string x0)], _ => some { av := .tup [.sl ((((gG x0).getD dflt).1).map (eNum .i32)) .no, .lit (.bool (((gG x0).getD dflt).2))], M := none, obl := (gG x0).isSome = true }
  | _, _ => none
theorem gG.ok : SpecOk Tryz.prog 37 gG.S := by
 intro l M out h;unfold gG.S at h;split at h
 ·rename_i x0;cases h;refine callOk_of fun ho => ?_;have hs := ho;obtain ⟨r, hr⟩ := so1 hs;simp only [hr, gd1];have q := Lg (M := M) [] (gG.can x0 r hr) (by simp) rfl ixn;exact callOk_conv q trivial (by simp) (by simp [frameOut]) (by simp [frameOut])
 ·cases h
@[simp] def gF.out (_x0 : ByteArray) (r : Bool) : Out := { av := .lit (.bool r), M := none }
def gF.fin (x0 : ByteArray) (r : Bool) (σ : St) : Prop := finK (gF.out x0 r) [] σ.M (resA Tryz.ty σ.A σ.M Tryz.f17.results.toList)
theorem gF.can (x0 : ByteArray) (r : Bool) (hr : gF x0 = some r) : CallOk Tryz.prog 17 [.lit (.string x0)] [] (gF.out x0 r) := by
 unfold gF at hr;have hΓ := (gamL_cons gT.ok (gamL_cons gG.ok (gamL_nil)) : GamOk Tryz.prog _);refine cw Tryz.func17 rfl (by kernel_rfl) rfl rfl (by simp) fun _ _ _ => ?_;refine tq hΓ [] [] ?_;obtain ⟨r1, h9, hr⟩ := Le hr;refine tq hΓ [3, 4] [0] ?_ (by simp [h9]; exact rr);refine AWp.seq ?_;refine tq hΓ [24] [4] ?_ (by simp; exact rr);refine AWp.cnd hr (by simp) (fun h10 hr => ?_) (fun h10 hr => ?_)
 ·refine tq hΓ [2] [24, 3] ?_ (by simp [h10]; exact rr);obtain rfl := La hr;exact AWp.ret (Ld (by simp))
 ·refine AWp.skip ?_;refine AWp.seq ?_;refine tq hΓ [25, 26, 27] [24] ?_ (by simp [h10]; exact rr);refine AWp.loopE (fun (s1 : Int) (γ1 : Unit) => ⟨[⟨25, none, .sl (r1.1.map (eNum .i32)) .no⟩, ⟨26, none, .n (lenL r1.1)⟩, ⟨27, none, .n s1⟩, ⟨3, none, .sl (r1.1.map (eNum .i32)) .no⟩], []⟩) (fun (v1 : Unit) (γ1a : Unit) => ⟨[], []⟩) (gF.fin x0) hr () 0 (by simp) (fun s1 f γ1 hr => ?_) (fun v1 γ1a σ1 m1 hr hc => ?_) (fun _ h => h)
  ·unfold gF.loop1 at hr;refine tq hΓ [28] [] ?_ (by simp; exact rr);refine AWp.seq ?_;refine AWp.cnd hr (by simp) (fun h11 hr => ?_) (fun h11 hr => ?_)
   ·refine AWp.skip ?_;refine AWp.seq ?_;refine AWp.block ?_;obtain ⟨h12, hr⟩ := Lb hr;refine tq hΓ [5, 6] [28] ?_ (by simp [h11, h12]; exact rr);obtain ⟨r2, h13, hr⟩ := Le hr;refine tq hΓ [7] [6] ?_ (by simp [h13]; exact rr);obtain ⟨h14, hr⟩ := Lb hr;obtain ⟨h15, hr⟩ := Lb hr;refine tq hΓ [59] [7, 5] ?_ (by simp [h14, h15]; exact rr);refine AWp.cnd hr (by simp) (fun h16 hr => ?_) (fun h16 hr => ?_)
    ·refine tq hΓ [2] [59, 25, 26, 27, 3] ?_ (by simp [h16]; exact rr);refine AWp.ret ?_;obtain rfl := La hr;refine round_ret ?_;refine Ld ?_;simp
    ·refine AWp.skip ?_;refine tl hΓ [27] [59] ?_ (by simp [h16]; exact rr);obtain rfl := La hr;exact Lo () 0 (by first | (simp; done) | simp [h9, h10, h11, h12, h13, h14, h15, h16])
   ·refine AWp.exit ?_;obtain rfl := La hr;exact Lp () 0 (by first | (simp; done) | simp [h9, h10, h11])
  ·refine AWp.conv hc ?_;refine tq hΓ [2] [] ?_ (by simp; exact rr);obtain rfl := La hr;exact AWp.ret (Ld (by simp))
@[simp] noncomputable def gF.S : Sp
  | [.lit (.string x0)], _ => some { av := .lit (.bool ((gF x0).getD dflt)), M := none, obl := (gF x0).isSome = true }
  | _, _ => none
theorem gF.ok : SpecOk Tryz.prog 17 gF.S := by
 intro l M out h;unfold gF.S at h;split at h
 ·rename_i x0;cases h;refine callOk_of fun ho => ?_;have hs := ho;obtain ⟨r, hr⟩ := so1 hs;simp only [hr, gd1];have q := Lg (M := M) [] (gF.can x0 r hr) (by simp) rfl ixn;exact callOk_conv q trivial (by simp) (by simp [frameOut]) (by simp [frameOut])
 ·cases h
end Go.Proofs
end
section
set_option maxRecDepth 100000
set_option maxHeartbeats 2000000
namespace Go.Ab
open Go.Proofs Go.RowKit
theorem splitL_last (c : UInt8) : ∀ l : List UInt8, ∃ pre last, splitL c l = pre ++ [last] ∧ splitL c (l ++ [c]) = pre ++ [last] ++ [[]] ∧ ∀ b, b ≠ c → splitL c (l ++ [b]) = pre ++ [last ++ [b]]
 | [] => ⟨[], [], rfl, by rw [List.nil_append, splitL_eq_c]; rfl, fun b hb => by rw [List.nil_append, splitL_ne_c hb (show splitL c [] = [] :: [] from rfl)]; rfl⟩
 | a :: l => by
   obtain ⟨pre, last, h1, h2, h3⟩ := splitL_last c l;by_cases ha : a = c
   ·subst ha;refine ⟨[] :: pre, last, ?_, ?_, fun b hb => ?_⟩
    ·rw [splitL_eq_c, h1]; rfl
    ·rw [List.cons_append, splitL_eq_c, h2]; rfl
    ·rw [List.cons_append, splitL_eq_c, h3 b hb]; rfl
   ·cases pre with
    | nil =>
      refine ⟨[], a :: last, ?_, ?_, fun b hb => ?_⟩
      ·rw [splitL_ne_c ha h1]; rfl
      ·rw [List.cons_append, splitL_ne_c ha h2]; rfl
      ·rw [List.cons_append, splitL_ne_c ha (h3 b hb)]; rfl
    | cons q pre =>
      refine ⟨(a :: q) :: pre, last, ?_, ?_, fun b hb => ?_⟩
      ·rw [splitL_ne_c ha h1]; rfl
      ·rw [List.cons_append, splitL_ne_c ha h2]; rfl
      ·rw [List.cons_append, splitL_ne_c ha (h3 b hb)]; rfl
def strV (p : List UInt8) : Value := .string ⟨p.toArray⟩
end Go.Ab
namespace Go.Proofs
open Go.Ab Go.RowKit
theorem Tryz.infoStr : (Tryz.prog.info? 9).map (fun i => (i.zero, i.size, i.bytes)) = some (some (.string ⟨#[]⟩), 1, 16) := by kernel_rfl
theorem Tryz.undStrs : Tryz.prog.underlying 27 = some (.slice 9) := by kernel_rfl
theorem split_walk (s : ByteArray) (c : UInt8) (hs : s.size ≤ 400) (w : World) :
  Calls Tryz.prog 8 #[.string s, .int .u8 (c.toNat : Int)] w fun e w' => ∃ v, e = .returned v ∧ w'.ownsRow w.heap.size 9 1 v (splitT s c).length ((splitT s c).map Value.string) ∧ Below w.heap.size w w' := by
 obtain ⟨i0, hi, hz0, hz1, hz2⟩ := info_parts Tryz.infoStr
 go_enter Tryz.func8, Tryz.ntmps8
 go_wp2
 go_loopw [5, 6] (fun v i wr => ∃ (k : Nat) (pre : List (List UInt8)) (last : List UInt8) (g cap : Nat), i = .int .i64 k ∧ k ≤ s.size ∧ splitL c (s.data.toList.take k) = pre ++ [last] ∧ v = .slice (some ⟨g, 0, none⟩) (pre.length + 1) cap ∧
   wr.ownsRow w.heap.size 9 1 v (pre.length + 1) ((pre ++ [last]).map strV) ∧ Below w.heap.size w wr)
  (fun _ i _ => s.size - (intOf i).toNat)
 case atStart =>
  refine ⟨0, [], [], w.heap.size, 1, rfl, Nat.zero_le _, rfl, rfl, ?_, ?_⟩
  ·exact ⟨rfl, .inr ⟨w.heap.size, 1, #[.string ⟨#[]⟩], rfl, Nat.le_refl _, by rw [show (w.alloc (.cells #[.string ⟨#[]⟩] 9)).heap = w.heap.push (.cells #[.string ⟨#[]⟩] 9) from rfl]; simp, Nat.le_refl _, by decide, rfl, rfl⟩⟩
  ·exact (Below.refl _ w).alloc (Nat.le_refl _) _
 case round =>
  obtain ⟨k, pre, last, g, cap, rfl, hk, hsp, rfl, hown, hb⟩ := hrel;have hsz : s.data.toList.length = s.size := Array.length_toList;obtain ⟨pre', last', e1, e2, e3⟩ := splitL_last c (s.data.toList.take k);obtain ⟨rfl, hl'⟩ := List.append_inj' (hsp.symm.trans e1) rfl;obtain rfl : last = last' := by simpa using hl'
  clear e1 hl'
  have hll : last.length ≤ 400 := by
   have := splitL_mem c (s.data.toList.take k) last (by rw [hsp]; simp);rw [List.length_take] at this; omega
  have hpl : pre.length ≤ 400 := by
   have := splitL_len c (s.data.toList.take k);rw [hsp, List.length_append, List.length_take] at this;simp only [List.length_cons, List.length_nil] at this; omega
  by_cases hlt : k < s.size
  ·have hlt' : k < s.data.toList.length := by omega
   have hget : s.data.toList[k] = s[k] := rfl;have htk : s.data.toList.take (k + 1) = s.data.toList.take k ++ [s[k]] := by rw [List.take_succ_eq_append_getElem hlt']; rfl
   by_cases hc : s[k] = c
   ·have hcb : ((s[k].toNat : Int) == (c.toNat : Int)) = true := by rw [hc]; simp
    go_wp2_with (first
     | (at_builtin; refine wpList_append_own _ rfl _ _ 27 rfl w.heap.size 9 i0 (.string ⟨#[]⟩) 1 16 Tryz.undStrs hi hz0 hz1 hz2 rfl (by decide) _ _ _ rfl (hown.alloc _) ⟨wr.heap.size, 0, none⟩ 1 1 [.string ⟨#[]⟩] rfl rfl ?c1 ?c2 ?c3 ?c4 ?c5 ?_)
     | go_in)
    case c1 =>
     intro j u hj
     match j, hj with
     | 0, hj => simp at hj; subst hj; simp [Addr.add]
    case c2 => intro u hu; simp at hu; subst hu; rfl
    case c3 => unfold maxLen; omega
    case c4 => omega
    case c5 => have := hb.size; simp; omega
    ·intro v' w1 hown' hgrow _;have hb1 : Below w.heap.size w w1 := (hb.alloc hb.size _).grown hgrow (by have := hb.size; simp; omega) (fun q e => (hown.lt q e).1)
     obtain ⟨g', cap', rfl⟩ : ∃ g' cap', v' = .slice (some ⟨g', 0, none⟩) (pre.length + 1 + 1) cap' := by
      rcases hown'.2 with ⟨_, h0⟩ | ⟨g', cap', _, e, _⟩
      ·omega
      ·exact ⟨g', cap', e⟩
     go_wp2;refine ⟨⟨k + 1, pre ++ [last], [], g', cap', by simp, hlt, by rw [htk, hc, e2], by simp, ?_, hb1⟩, by simp [intOf]; omega⟩;rw [show (pre ++ [last]).length + 1 = pre.length + 1 + 1 by simp, show List.map strV (pre ++ [last] ++ [[]]) = List.map strV pre ++ [strV last, Value.string ⟨#[]⟩] by simp [strV]];exact hown'
   ·have hcb : ((s[k].toNat : Int) == (c.toNat : Int)) = false := by
     simp only [beq_eq_false_iff_ne, ne_eq];exact fun e => hc (UInt8.toNat_inj.1 (by omega))
    go_wp2
    have hcell : wr.cell? ⟨g, pre.length, none⟩ = some (.string ⟨last.toArray⟩) := by
     rw [hown.cellAt pre.length (by omega)]; simp [strV]
    have hfr := hown.frozenAt pre.length;have hown2 := hown.drew;have hb2 := hb.drew;have hw1 : IntKind.i64.wrap (pre.length : Int) = (pre.length : Int) := by rw [IntKind.wrap_i64]; omega
    have hw2 : IntKind.i64.wrap ((k : Int) + 1) = (k : Int) + 1 := by rw [IntKind.wrap_i64]; omega
    have hp1 : (pre.length : Int) < (pre.length : Int) + 1 := by omega
    have hk1 : (k : Int) ≤ (k : Int) + 1 := by omega
    have hk2 : (k : Int) + 1 ≤ (s.size : Int) := by omega
    have hs1 : ¬ 9223372036854775807 < last.length + (min (k + 1) s.size - k) := by omega
    go_still_tail 12, Tryz.mixed
    change wpList _ _ _ _ _ wr.drew;have hcell2 : wr.drew.cell? ⟨g, pre.length, none⟩ = some (.string ⟨last.toArray⟩) := hcell;have hfr2 : wr.drew.frozen? ⟨g, pre.length, none⟩ = false := hfr;clear hown hb hcell hfr;generalize wr.drew = w2 at hown2 hb2 hcell2 hfr2 ⊢;go_wp2
    have hx : (⟨last.toArray⟩ : ByteArray) ++ s.extract k (k + 1) = ⟨(last ++ [s[k]]).toArray⟩ := by
     have e : ((⟨last.toArray⟩ : ByteArray) ++ s.extract k (k + 1)).data.toList = last ++ [s[k]] := by
      rw [ByteArray.data_append, Array.toList_append, ByteArray.data_extract, Array.toList_extract, List.extract_eq_take_drop];rw [show k + 1 - k = 1 by omega, List.drop_eq_getElem_cons hlt', List.take_succ_cons, List.take_zero];rfl
     have e' : ((⟨last.toArray⟩ : ByteArray) ++ s.extract k (k + 1)).data = (last ++ [s[k]]).toArray := Array.toList_inj.1 (by rw [e]);rw [← e']
    refine ⟨⟨k + 1, pre, last ++ [s[k]], g, cap, by simp, hlt, by rw [htk, e3 _ hc], rfl, ?_, hb2.setCell (hown2.lt g rfl).1 _⟩, by simp [intOf]; omega⟩;rw [hx];have hst := (hown2.stored pre.length (strV (last ++ [s[k]]))).1;have hset : (List.map strV (pre ++ [last])).set pre.length (strV (last ++ [s[k]])) = List.map strV (pre ++ [last ++ [s[k]]]) := by simp
    rw [hset] at hst;exact hst
  ·have hks : k = s.size := by omega
   go_wp2;go_ret;have hall : splitL c s.data.toList = pre ++ [last] := by rw [← hsp, List.take_of_length_le (by omega)]
   have hm : (splitT s c).map Value.string = (pre ++ [last]).map strV := by unfold splitT; rw [hall, List.map_map]; rfl
   have hl : (splitT s c).length = pre.length + 1 := by unfold splitT; rw [hall]; simp
   exact ⟨_, rfl, by rw [hm, hl]; exact hown, hb⟩
theorem R.texts {g : G} {w' : World} (sm : Sim g) {e : TypeId} {v : Value} {l : List ByteArray} (h : w'.ownsRow g.w.heap.size e 1 v l.length (l.map Value.string)) : R { g with w := w' } (.sl (l.map eTxt) .no) v := by
 rcases h.2 with ⟨rfl, hz⟩ | ⟨gb, cap, cur, rfl, hbase, hgb, hcap, _, hsz, htake⟩
 ·have : l = [] := List.eq_nil_of_length_eq_zero hz;subst this;exact .nil _ trivial
 ·have hlen : (l.map eTxt).length = l.length := by simp
  have q : R { g with w := w' } (.sl (l.map eTxt) .no) (.slice (some ⟨gb, 0, none⟩) (l.map eTxt).length cap) := by
   have hcur : ∀ i (hi : i < l.length), cur[i]? = some (.string l[i]) := fun i hi => by
    have : (cur.toList.take (l.length * 1))[i]? = some (.string l[i]) := by
     rw [htake, List.getElem?_map];simp [hi]
    rw [List.getElem?_take_of_lt (by omega)] at this;simpa using this
   refine .sl _ .no gb 0 1 cap (fun i _ => ((l[i]?).map Value.string).getD undef) (fun i hi => by simp) (fun i j hi hj => ?_) (fun i j hi hj hr => ?_) (fun i j hi hj => ?_) (fun i j hi hj => ?_) trivial (by omega)
   ·have hj0 : j = 0 := by omega
    subst hj0;have hi' : i < l.length := by omega
    have := hcur i hi';simp only [World.cell?, hgb, Nat.zero_add, Nat.mul_one, Nat.add_zero];rw [List.getElem?_eq_getElem hi'];simpa using this
   ·have := sm.inb _ hr;simp only at this;omega
   ·have hi' : i < l.length := by omega
    have hj0 : j = 0 := by simpa using hj
    subst hj0;simp only [List.getElem_map, List.getElem?_eq_getElem hi', Option.map_some, Option.getD_some];exact .lit _
   ·have hi' : i < l.length := by omega
    simp only [List.getElem?_eq_getElem hi', Option.map_some, Option.getD_some];rfl
  rw [hlen] at q; exact q
@[simp] def refSplitS : Sp
  | [.lit (.string s), .lit (.int .u8 c)], _ => some { av := .sl ((splitT s (byteI c)).map eTxt) .no, obl := lenS s ≤ 400 ∧ 0 ≤ c ∧ c < 256 }
  | _, _ => none
theorem gaw.ok : SpecOk Tryz.prog 8 refSplitS := by
 intro l M out h;unfold refSplitS at h;split at h
 ·rename_i s c;cases h;intro g vs hM sm hr ho;cases hr with | cons hv hr => cases hr with | cons hp hr => cases hr with | nil =>
  cases hv;cases hp;obtain ⟨h1, h2, h3⟩ := ho;have hsz : s.size ≤ 400 := by unfold lenS at h1; omega
  have hc : (((byteI c).toNat : Nat) : Int) = c := by simp [byteI]; omega
  refine ⟨enters_of Tryz.func8 (by kernel_rfl) rfl _ _, ?_⟩;have hw := split_walk s (byteI c) hsz g.w;rw [hc] at hw;refine hw.mono ?_;rintro e w' ⟨v, rfl, hown, hb⟩;exact ⟨_, rfl, g.β, g.ρ, sim_below hb sm, R.texts sm hown, keep_below hb⟩
 ·cases h
end Go.Proofs
end
section
namespace Go.Proofs
open Go.Ab
noncomputable def Tryz.tyN : TyTab := ⟨tyOf Tryz.prog, methOf Tryz.prog, implOf Tryz.prog, some 2⟩
@[simp] theorem Tryz.tyN_nl : Tryz.tyN.nl = some 2 := by simp only [Tryz.tyN]
@[simp] theorem Tryz.tyN_tab (t : TypeId) : Tryz.tyN.tab t = tyOf Tryz.prog t := by simp only [Tryz.tyN]
@[simp] theorem Tryz.tyN_meth : Tryz.tyN.meth = methOf Tryz.prog := by simp only [Tryz.tyN]
@[simp] theorem Tryz.tyN_impl : Tryz.tyN.impl = implOf Tryz.prog := by simp only [Tryz.tyN]
theorem Tryz.tyOkN : TyOk Tryz.prog Tryz.tyN := ⟨fun _ _ h => by rw [Tryz.tyN_tab] at h; exact h, fun _ _ _ h => by rw [Tryz.tyN_meth] at h; exact h, fun _ _ _ h => by rw [Tryz.tyN_impl] at h; exact h⟩
@[simp] theorem neI_00 : neI 0 0 = false := rfl
@[simp] theorem neI_40 : neI 4 0 = true := rfl
theorem cwN {f : FuncId} {fn : Func} {c : Code} (hf : Tryz.prog.funcs[f]? = some fn) (hb : fn.body = some c) (hname : (fn.name == "runtime.NumGoroutine") = false) {l : List AV} {M : List AObj} {out : Out} {rs : List ResultVar} (hrs : fn.results.toList = rs) {n : Nat} (hn : fn.ntmps = n) (hl : l.length ≤ n)
  (h : out.obl → belM M.length M → belL M.length l → AWp Tryz.prog n M.length c (retPost Tryz.tyN rs out M) ⟨argsE 0 l, M⟩) : CallOk Tryz.prog f l M out := call_of_awp Tryz.tyOkN hf hb hname hrs hn hl h
theorem tqN {Γ : Gam} (hΓ : GamOk Tryz.prog Γ) {n B : Nat} {Q : Exit → St → Prop} {σ : St} {id : Nat} {ops : Array Oper} (keep dead : List Nat) {A : Env} {M : List AObj} {y : Code} (h2 : AWp Tryz.prog n B y Q ⟨A, M⟩) (h : regE keep dead ops.toList σ ⟨A, M⟩ (runR Tryz.tyN Γ ops ops.toList σ.A σ.M) := by simp; exact rr) (hd : dstsOk ops n ops.toList [] = true := by kernel_rfl) (hn : noTags σ.A = true := by rfl) : AWp Tryz.prog n B (.seq (.region id ops false) y) Q σ := AWp.thn (AWp.reg Tryz.tyOkN hΓ (keep := keep) (dead := dead) hd hn h) h2
theorem tlN {Γ : Gam} (hΓ : GamOk Tryz.prog Γ) {n B : Nat} {Q : Exit → St → Prop} {σ : St} {id : Nat} {ops : Array Oper} (keep dead : List Nat) {A : Env} {M : List AObj} (h2 : Q .normal ⟨A, M⟩) (h : regE keep dead ops.toList σ ⟨A, M⟩ (runR Tryz.tyN Γ ops ops.toList σ.A σ.M) := by simp; exact rr) (hd : dstsOk ops n ops.toList [] = true := by kernel_rfl) (hn : noTags σ.A = true := by rfl) : AWp Tryz.prog n B (.region id ops false) Q σ := AWp.lst (AWp.reg Tryz.tyOkN hΓ (keep := keep) (dead := dead) hd hn h) h2
end Go.Proofs
end
