/- What these functions compute, as plain functions. No condition. -/
import Derived.Test.YtoiieebljbhpbaaGreatDoorTs
import Derived.Test.YtoiieebljbhpbaaGreatDoorM16
import Derived.Test.YtoiieebljbhpbaaGreatDoorM13
import Derived.Test.YtoiieebljbhpbaaGreatDoorNq
import Derived.Shelf.Strings.CaseAny
import Derived.Stop.Joined
section
namespace Go.Proofs
open Go.Ab
noncomputable def gao : Option Tj :=
 some (Tj.mk [] 0)

noncomputable def gI (x0 : Tj) : Option Int :=
 some (lenL x0.fe)

noncomputable def gP (x0 : Tj) (x1 : Int) : Option (Ta × Bool) :=
 some ((getM eqI x1 (Ta.mk 0 ⟨⟨[]⟩⟩ ⟨⟨[]⟩⟩) x0.fe), (hasM eqI x1 x0.fe))

noncomputable def gF.loop1 (x0 : Tj) (x1 : ByteArray) (s1 : Int × List Ta) : Option (Fl (Int × List Ta) (Fl (List Ta) (List Ta))) :=
 bif (ltI s1.1 (lenL (sortL (keysM x0.fe)))) then (
  need (InB s1.1 (lenL (sortL (keysM x0.fe)))) <|
  ((gW ((getM eqI (nthI (sortL (keysM x0.fe)) s1.1) (Ta.mk 0 ⟨⟨[]⟩⟩ ⟨⟨[]⟩⟩) x0.fe).fm) x1)).bind fun r1 =>
  bif r1 then (
   need (AppB (lenL s1.2) 1 40) <|
   some (.go ((addI .i64 s1.1 1), (appL s1.2 [(getM eqI (nthI (sortL (keysM x0.fe)) s1.1) (Ta.mk 0 ⟨⟨[]⟩⟩ ⟨⟨[]⟩⟩) x0.fe)])))
  ) else (
    some (.go ((addI .i64 s1.1 1), s1.2))
  )
 ) else (
   some (.out (.go s1.2))
 )

noncomputable def gF (x0 : Tj) (x1 : ByteArray) : Option (List Ta) :=
 need (KeysB (keysM x0.fe)) <|
 ((loopF (gF.loop1 x0 x1) (0, [])).bind fun f => flC f fun (v1 : List Ta) =>
   some v1
 )

noncomputable def gR (x0 : Tj) (x1 : Int) : Option (Int × Tj) :=
 bif (notB (hasM eqI x1 x0.fe)) then (
  some (8, x0)
 ) else (
   some (0, (Tj.mk (delM eqI x1 x0.fe) x0.fj))
 )

noncomputable def gw (x0 : Tj) (x1 : Int) (x2 : Int) : Option Bool :=
 need (Under (pickB (pickB (hasM eqI x1 x0.fe) (hasM eqI x2 x0.fe) false) (neI x1 x2) false) true ((gW ((getM eqI x1 (Ta.mk 0 ⟨⟨[]⟩⟩ ⟨⟨[]⟩⟩) x0.fe).fm) ((getM eqI x2 (Ta.mk 0 ⟨⟨[]⟩⟩ ⟨⟨[]⟩⟩) x0.fe).fm)).isSome = true)) <|
 some (pickB (pickB (pickB (hasM eqI x1 x0.fe) (hasM eqI x2 x0.fe) false) (neI x1 x2) false) ((gW ((getM eqI x1 (Ta.mk 0 ⟨⟨[]⟩⟩ ⟨⟨[]⟩⟩) x0.fe).fm) ((getM eqI x2 (Ta.mk 0 ⟨⟨[]⟩⟩ ⟨⟨[]⟩⟩) x0.fe).fm)).getD dflt) false)
end Go.Proofs
end
section
namespace Go.Proofs
open Go.Ab
noncomputable def gV : Option Th :=
 (gao).bind fun r1 =>
 some (Th.mk (Tj.mk r1.fe r1.fj) [] [] [])

noncomputable def gu (x0 : Th) (x1 : Tc) : Option (Te × Bool) :=
 need (AppB 0 (lenL ((getM Tc.eq x1 (Te.mk false false []) x0.fc).fa)) 4) <|
 some ((getM Tc.eq x1 (Te.mk false false []) x0.fc), (hasM Tc.eq x1 x0.fc))

noncomputable def gM (x0 : Th) (x1 : Tb) : Option (Tg × Bool) :=
 some ((getM Tb.eq x1 (Tg.mk 0 false) x0.ff), (hasM Tb.eq x1 x0.ff))

noncomputable def gq (x0 : Th) (x1 : Int) : Option (Tf × Bool) :=
 some ((getM eqI x1 (Tf.mk (Tc.mk 0 0) 0) x0.fg), (hasM eqI x1 x0.fg))

noncomputable def gg (x0 : Th) : Option (List Tb) :=
 need (Keys3B (keysM x0.ff)) <|
 some (sortLk (keysM x0.ff))

noncomputable def gk.loop1 (x1 : Tc) (r1 : List Tb) (s1 : Int × List Int) : Option (Fl (Int × List Int) (Fl (List Int) (List Int))) :=
 bif (ltI s1.1 (lenL r1)) then (
  need (InB s1.1 (lenL r1)) <|
  bif (pickB (eqI ((nthI r1 s1.1).fOf.fd) x1.fd) (eqI ((nthI r1 s1.1).fOf.fh) x1.fh) false) then (
   need (AppB (lenL s1.2) 1 8) <|
   some (.go ((addI .i64 s1.1 1), (appL s1.2 [(nthI r1 s1.1).fu])))
  ) else (
    some (.go ((addI .i64 s1.1 1), s1.2))
  )
 ) else (
   some (.out (.go s1.2))
 )

noncomputable def gk (x0 : Th) (x1 : Tc) : Option (List Int) :=
 ((gg x0)).bind fun r1 =>
 ((loopF (gk.loop1 x1 r1) (0, [])).bind fun f => flC f fun (v1 : List Int) =>
   some v1
 )
end Go.Proofs
end
section
namespace Go.Proofs
open Go.Ab

open Classical in
noncomputable def nubL {α : Type} : List α → List α
 | [] => []
 | a :: l => if a ∈ l then nubL l else a :: nubL l
theorem mem_nubL {α : Type} {x : α} : ∀ {l : List α}, x ∈ nubL l ↔ x ∈ l
 | [] => by simp [nubL]
 | a :: l => by
   rw [nubL]
   split
   ·rename_i h
    rw [mem_nubL (l := l), List.mem_cons]
    exact ⟨.inr, fun q => q.elim (fun e => e ▸ h) id⟩
   ·rw [List.mem_cons, List.mem_cons, mem_nubL (l := l)]
theorem nodup_nubL {α : Type} : ∀ (l : List α), (nubL l).Nodup
 | [] => by simp [nubL]
 | a :: l => by
   rw [nubL]
   split
   ·exact nodup_nubL l
   ·rename_i h
    exact List.nodup_cons.2 ⟨fun q => h (mem_nubL.1 q), nodup_nubL l⟩
noncomputable def foldsM (m : List (Int × Ta)) : List ByteArray := m.map fun e => (gQ e.2.fm).getD dflt
noncomputable def gap (x0 : Tj) : Option (List ByteArray) :=
 need (∀ e ∈ x0.fe, (gQ e.2.fm).isSome = true) <|
 need (KeysBS (foldsM x0.fe)) <|
 some (sortS (nubL (foldsM x0.fe)))
theorem sortS_perm {l l' : List ByteArray} (h : l.Perm l') : sortS l = sortS l' := by
 unfold sortS
 rw [Go.mergeSort_of_perm (h.map kbytesOf)]
end Go.Proofs
end
section
namespace Go.Ab
@[simp] theorem decL_d {α : Type} (d : List AV → α) (els : List (List AV)) (tok : Tok) : decL d [.sl els tok] = els.map d := rfl
/-! ### One state says what another one says: twice -/
theorem Weak.trans {a b : AV} (h : Weak a b) : ∀ {c : AV}, Weak b c → Weak a c := by
 induction h with
 | refl a => intro c h; exact h
 | tok els tok =>
   intro c h
   cases h with
   | refl => exact .tok _ _
   | tok => exact .tok _ _
 | agg l l' hl h ih =>
   intro c h'
   cases h' with
   | refl => exact .agg _ _ hl h
   | agg _ l'' hl' h'' => exact .agg _ _ (hl.trans hl') fun j h1 h2 => ih j h1 (by omega) (h'' j (by omega) h2)
 | tup l l' hl h ih =>
   intro c h'
   cases h' with
   | refl => exact .tup _ _ hl h
   | tup _ l'' hl' h'' => exact .tup _ _ (hl.trans hl') fun j h1 h2 => ih j h1 (by omega) (h'' j (by omega) h2)
theorem WObj.trans {a b c : AObj} (h : WObj a b) (h' : WObj b c) : WObj a c := by
 cases h with
 | refl => exact h'
 | dead =>
   cases h' with
   | refl => exact .dead _
   | dead => exact .dead _
 | mapr es vis cur t =>
   cases h' with
   | refl => exact .mapr _ _ _ _
   | dead => exact .dead _
 | blk l l' hl h =>
   cases h' with
   | refl => exact .blk _ _ hl h
   | dead => exact .dead _
   | blk _ l'' hl' h'' => exact .blk _ _ (hl.trans hl') fun j h1 h2 => (h j h1 (by omega)).trans (h'' j (by omega) h2)
theorem WMem.trans {a b : List AObj} (h : WMem a b) : ∀ {c : List AObj}, WMem b c → WMem a c := by
 induction h with
 | nil => intro c h; exact h
 | cons h _ ih =>
   intro c h'
   cases h' with
   | cons q r => exact .cons (h.trans q) (ih r)
theorem WMem.take {a b : List AObj} (h : WMem a b) : ∀ n : Nat, WMem (a.take n) (b.take n) := by
 induction h with
 | nil => intro n; simp only [List.take_nil]; exact .nil
 | cons h _ ih =>
   intro n
   cases n with
   | zero => exact .nil
   | succ n => exact .cons h (ih n)
theorem subE_mem {A : Env} : ∀ {A' : Env}, subE A A' → ∀ e ∈ A', e.tag = none ∧ ∃ av, ent A e.t = some (none, av) ∧ Weak av e.av
 | ⟨t, tag, av⟩ :: r, h, e, he => by
   obtain ⟨h1, h2⟩ := h
   rcases List.mem_cons.1 he with rfl | he
   ·split at h1
    ·rename_i av' htag hent
     exact ⟨htag, av', hent, h1⟩
    ·exact h1.elim
   ·exact subE_mem h2 e he
theorem subE_of {A : Env} : ∀ {A' : Env}, (∀ e ∈ A', e.tag = none ∧ ∃ av, ent A e.t = some (none, av) ∧ Weak av e.av) → subE A A'
 | [], _ => trivial
 | ⟨t, tag, av⟩ :: r, h => by
   obtain ⟨h1, av', h2, h3⟩ := h _ (.head _)
   simp only at h1 h2 h3
   refine ⟨?_, subE_of fun e he => h e (.tail _ he)⟩
   simp only [h1, h2]
   exact h3
theorem Conv.trans {B m m' : Nat} {σ σ' σ'' : St} (h : Conv B m σ σ') (h' : Conv B m' σ' σ'') : Conv B m' σ σ'' := by
 obtain ⟨a1, a2, a3, a4, a5, a6⟩ := h
 obtain ⟨b1, b2, b3, b4, b5, b6⟩ := h'
 have hl := a5.length
 rw [List.length_take] at hl
 have hm : m' ≤ m := by omega
 refine ⟨b1, by omega, subE_of fun e he => ?_, b4, ?_, b6⟩
 ·obtain ⟨e1, av, e2, e3⟩ := subE_mem b3 e he
  obtain ⟨_, av', e5, e6⟩ := subE_mem a3 _ (ent_mem e2)
  exact ⟨e1, av', e5, e6.trans e3⟩
 ·have := a5.take m'
  rw [List.take_take, Nat.min_eq_left hm] at this
  exact this.trans b5
/-! ### Rows of numbers in blocks of one's own, as simp leaves them -/
end Go.Ab
end
section
namespace Go.Proofs
open Go.Ab Go.Lib

/-! ### Folded -/
theorem lower_rng {r : Int} (h0 : 0 ≤ r) (h1 : r ≤ 1114111) : I32B (lowerR r) := by
 obtain ⟨n, rfl⟩ : ∃ n : Nat, r = n := ⟨r.toNat, by omega⟩
 have := toLowerU_range n (by omega)
 unfold lowerR
 exact ⟨by omega, by omega⟩
theorem lower_S (s : ByteArray) (pos : Nat) : I32B (lowerR (runeS s pos)) := by
 rw [runeS_d]
 have := rune_rng (restS s pos)
 exact lower_rng this.1 this.2
noncomputable def foldS (s : ByteArray) : ByteArray := runesBytes ((scan s 0).map lowerR)
theorem foldS_b (s : ByteArray) : bytesOf (foldS s) = ((scan s 0).map lowerR).flatMap encodeRune := runes_b _
theorem runeZ_len (r : Int) : 1 ≤ (runeZ r).length ∧ (runeZ r).length ≤ 4 := encodeRuneZ_length r

theorem fold_loop (s : ByteArray) : ∀ (m pos : Nat) (out : List Int), (restS s pos).length ≤ m → out.length + 4 * m ≤ 100000000 →
  loopF (gQ.loop1 s) (out, pos) = some (.go (out ++ (scan s pos).flatMap fun r => runeZ (lowerR r))) := by
 intro m
 induction m with
 | zero =>
   intro pos out hm _
   have h : restS s pos = [] := List.eq_nil_of_length_eq_zero (by omega)
   rw [loopF_eq]
   simp [gQ.loop1, nextB_f h, scan_f h]
 | succ m ih =>
   intro pos out hm hb
   by_cases h : restS s pos = []
   ·rw [loopF_eq]
    simp [gQ.loop1, nextB_f h, scan_f h]
   have hst := step_gt s pos
   have hl := restS_len s pos
   have hl' := restS_len s (stepS s pos)
   have hpos := List.length_pos_iff.2 h
   have hz := runeZ_len (lowerR (runeS s pos))
   rw [loopF_eq, scan_t h]
   simp only [gQ.loop1, nextB_t h, cond_true]
   rw [Lf (lower_S s pos), Lf (by unfold AppB lenL; omega)]
   simp only []
   rw [ih _ _ (by omega) (by simp only [appL, List.length_append]; omega)]
   simp [appL]

theorem fold_d {s : ByteArray} (hs : s.size ≤ 1000000) (h0 : bytesOf s ≠ []) : gQ s = some (foldS s) := by
 unfold gQ
 rw [fold_loop s s.size 0 [] (by rw [restS_len]; exact Nat.le_refl _) (by simp only [List.length_nil]; omega)]
 simp only [Lc, flC_go, List.nil_append]
 have e : ((scan s 0).flatMap fun r => runeZ (lowerR r)) = ((scan s 0).map lowerR).flatMap runeZ := by rw [List.flatMap_map]
 rw [e, Lf]
 ·congr 1
  exact bytes_ext (by rw [numsRune_b, foldS_b])
 ·refine ⟨?_, fun x hx => ?_⟩
  ·have hb0 : restS s 0 = bytesOf s := rfl
   rw [scan_t (by rw [hb0]; exact h0), List.map_cons, List.flatMap_cons]
   intro q
   have := congrArg List.length q
   have hz := runeZ_len (lowerR (runeS s 0))
   simp only [List.length_append, List.length_nil] at this
   omega
  ·obtain ⟨r, _, hx⟩ := List.mem_flatMap.1 hx
   exact encodeRuneZ_byte r x hx

theorem rfold_loop (s : ByteArray) : ∀ (m pos : Nat) (out : List Int), (restS s pos).length ≤ m → out.length + m ≤ 10000000 →
  loopF (gae.loop1 s) (out, pos) = some (.go (out ++ (scan s pos).map lowerR)) := by
 intro m
 induction m with
 | zero =>
   intro pos out hm _
   have h : restS s pos = [] := List.eq_nil_of_length_eq_zero (by omega)
   rw [loopF_eq]
   simp [gae.loop1, nextB_f h, scan_f h]
 | succ m ih =>
   intro pos out hm hb
   by_cases h : restS s pos = []
   ·rw [loopF_eq]
    simp [gae.loop1, nextB_f h, scan_f h]
   have hst := step_gt s pos
   have hl := restS_len s pos
   have hl' := restS_len s (stepS s pos)
   have hpos := List.length_pos_iff.2 h
   rw [loopF_eq, scan_t h]
   simp only [gae.loop1, nextB_t h, cond_true]
   rw [Lf (by unfold AppB lenL; omega)]
   simp only []
   rw [ih _ _ (by omega) (by simp only [appL, List.length_append, List.length_cons, List.length_nil]; omega)]
   simp [appL]
theorem rfold_d {s : ByteArray} (hs : s.size ≤ 1000000) : gae s = some (foldS s) := by
 unfold gae
 rw [rfold_loop s s.size 0 [] (by rw [restS_len]; exact Nat.le_refl _) (by simp only [List.length_nil]; omega)]
 rfl
theorem same_d {a b : ByteArray} (ha : a.size ≤ 1000000) (hb : b.size ≤ 1000000) (ha0 : bytesOf a ≠ []) (hb0 : bytesOf b ≠ []) : gW a b = some (eqS (foldS a) (foldS b)) := by
 unfold gW
 rw [fold_d ha ha0, fold_d hb hb0]
 rfl
theorem eqS_self (a : ByteArray) : eqS a a = true := (eqS_iff a a).2 rfl
end Go.Proofs
end
section
namespace Go.Ab
open Go.ChangeShapes Go.WideShapes Go.ChangeAt Go.RowKit

variable {H : Type} {enc : TypeId × Value → H} {P : Program}
theorem law_lifted_laid {C : Checked} {os : Os} {f : FuncId} {fn : Func} {s : ChangeSpec} {conds : List PathCond} {tb : TypeId} {l : List TypeId} {laid : List (String × DataW Unit)}
  (own : ownKnob C.prog.godebug = none) (started : os.Started) (noInit : C.prog.inits.idxOf? f = none) (hfn : C.prog.funcs[f]? = some fn)
  (witness : ∃ (w : World) (tape : Tape) (i : Input), w.os = os ∧ (w.forCall tape i).Shaped C.prog ∧ i.vars = [] ∧ Input.okWide C.prog (w.forCall tape i) .any w.heap.size f i ∧
   ((s.pre enc C.prog fn conds false (w.forCall tape i).memory i.args ∧ laidMetH C.prog laid (w.forCall tape i).memory) ∧ sizedMet enc C.prog fn (OpenSpec.ofChange s) false (w.forCall tape i).memory i.args) ∧ ({} : Assume).holds C.prog (lone (Frame.enter C.prog f i.args .normal) [] (w.forCall tape i)))
  (hvars : s.vars = []) (hres : fn.resultTypes = #[tb]) (htb : C.prog.underlying tb = some .bool)
  (hspec : ∀ ds : List (DataW H), ds.length = fn.params.toList.length → s.fn H ds = { results := [.lit (.bool true)], args := ds })
  (K : Kids C.prog (· < C.prog.types.size)) (hz : ((List.range C.prog.types.size).all fun t => match C.prog.underlying t with | some (.slice e) => decide (0 < C.prog.cellsOf e) | _ => true) = true)
  (hl : flatB C.prog l = true) (hT : topB C.prog l fn.params.toList = true)
  (call : ∀ avl, ShAll C.prog fn.params.toList avl → ∃ o : Prop, o ∧ CallOk C.prog f avl [] { av := .lit (.bool true), obl := o })
  (hF : ∀ w : World, laidMetH C.prog laid w → ∀ w' : World, (∀ b, b < w.heap.size → w'.heap[b]? = w.heap[b]?) → fctF w') :
  ReturnsInHanded {} C os f .any (fun w args => (s.pre enc C.prog fn conds false w args ∧ laidMetH C.prog laid w) ∧ sizedMet enc C.prog fn (OpenSpec.ofChange s) false w args) (s.post enc C.prog fn false true false false) := by
 refine returnsInHanded_of_change_and (X := fun w _ => laidMetH C.prog laid w) (fun _ _ _ hh h => h.of_heap hh) own started noInit hfn witness ?_
 intro W base args ds gs before hval hW _ _ hL _
 exact law_contract hvars hres htb hspec K hz hl hT call W (hF W hL) base args ds gs before hval hW

end Go.Ab
end
