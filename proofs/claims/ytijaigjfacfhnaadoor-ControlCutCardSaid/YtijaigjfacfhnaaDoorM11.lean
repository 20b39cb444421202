/- Worlds that only have more blocks behind. No condition. -/
import Derived.Test.YtijaigjfacfhnaaDoorAb9
import Derived.Maps.OwnSet
import Derived.Test.YtijaigjfacfhnaaDoorM05
import Derived.Test.YtijaigjfacfhnaaDoorTy
import Derived.Test.YtijaigjfacfhnaaDoorM07
import Derived.Lib.UnsafeStr
import Derived.Shelf.RegionOpenPlain
import Derived.Test.YtijaigjfacfhnaaDoorM10
import Derived.Test.YtijaigjfacfhnaaDoorM09
import Derived.Test.YtijaigjfacfhnaaDoorM06
import Derived.Stop.Joined
section
namespace Go.Ab

theorem keep_below {g : G} {w' : World} (h : RowKit.Below g.w.heap.size g.w w') : Keep g { g with w := w' } where
  len := Nat.le_refl _
  ptr _ _ := rfl
  rooms _ _ e h := ⟨e, h, Nat.le_refl _, fun _ => rfl⟩
  size := h.size
  cells a x hx _ := by rw [← hx]; simp only [World.cell?]; rw [h.block _ (cell_lt hx)]
  regs _ _ h := h
  blocks b hb _ := h.block b hb
  io := ⟨h.os, h.output⟩
  xs _ h := h
  xcell a ha _ := by simp only [World.cell?, World.frozen?]; rw [h.block _ ha]; exact ⟨rfl, rfl⟩
  xblk b hb _ := h.block b hb

theorem sim_below {g : G} {w' : World} (h : RowKit.Below g.w.heap.size g.w w') (s : Sim g) : Sim { g with w := w' } where
  fct := s.fct.keep (keep_below h)
  blk i cells hi := by
    obtain ⟨xs, T, h1, h2, h3, h4⟩ := s.blk i cells hi
    exact ⟨xs, T, (h.block _ (blk_lt s hi)).trans h1, h2, fun j hj => (h3 j hj).keep (keep_below h), h4⟩
  iter i t pos hi := (h.block _ (iter_lt s hi)).trans (s.iter i t pos hi)
  room t e ht k hk := by
    obtain ⟨x, h1, h2⟩ := s.room t e ht k hk
    have hb := cell_lt h1
    refine ⟨x, ?_, ?_⟩
    · simp only [World.cell?] at h1 ⊢; rw [h.block _ hb]; exact h1
    · simp only [World.frozen?] at h2 ⊢; rw [h.block _ hb]; exact h2
  disj := s.disj
  inb a ha := Nat.lt_of_lt_of_le (s.inb a ha) h.size
  xdis := s.xdis
  mapo i es hi := by
    obtain ⟨o', h1, h2⟩ := s.mapo i es hi
    exact ⟨o', (h.block _ (mapo_lt s hi)).trans h1, h2.keep (keep_below h)⟩
  opq i φ hi := by
    have e1 := h.block _ (whole_lt s hi (.inl rfl))
    have e2 := h.block _ (whole_lt s hi (.inr rfl))
    show φ _ _ (w'.heap[g.β i]?) (w'.heap[(g.ρ i).b]?)
    rw [e1, e2]; exact s.opq i φ hi
  mapr i es vis cur t hi := by
    obtain ⟨t1, t2, o', oi, h1, h2, h3⟩ := s.mapr i es vis cur t hi
    exact ⟨t1, t2, o', oi, (h.block _ (whole_lt s hi (.inl rfl))).trans h1, (h.block _ (whole_lt s hi (.inr rfl))).trans h2, h3.keep (keep_below h)⟩

end Go.Ab
end
section
namespace Go.Ab
open Go.Proofs Go.RowKit

@[simp] noncomputable def isLetterS : Sp
  | [.lit (.int .i32 r)], _ => some { av := .lit (.bool (letterR r)), obl := I32B r }
  | _, _ => none
@[simp] noncomputable def isDigitS : Sp
  | [.lit (.int .i32 r)], _ => some { av := .lit (.bool (digitR r)), obl := I32B r }
  | _, _ => none
@[simp] noncomputable def toLowerS : Sp
  | [.lit (.int .i32 r)], _ => some { av := .lit (.int .i32 (lowerR r)) }
  | _, _ => none

/-- A call that only makes blocks, and hands back a plain value. -/
theorem ok_below {P : Program} {f : FuncId} {g : G} {vs : List Value} {v : Value} (hent : ∀ args w, (callFunc f args).run P w = .ok (.enter f args) w) (sm : Sim g)
    (hc : Calls P f vs.toArray g.w fun e w' => e = .returned v ∧ Below g.w.heap.size g.w w') {ob : Prop} : 
    (callFunc f vs.toArray).run P g.w = .ok (.enter f vs.toArray) g.w ∧ Calls P f vs.toArray g.w fun e w' => ∃ u, e = .returned u ∧ Post g { av := .lit v, obl := ob } u w' := by
  refine ⟨hent _ _, hc.mono ?_⟩
  rintro e w' ⟨rfl, hb⟩
  exact ⟨v, rfl, g.β, g.ρ, sim_below hb sm, .lit _, keep_below hb⟩
end Go.Ab
namespace Go.Proofs
open Go.RowKit Go.Ab
theorem gIsLetter.ok : SpecOk Tryd.prog 68 isLetterS := by
  intro l M out h
  unfold isLetterS at h
  split at h
  · rename_i r
    cases h
    intro g vs hM sm hr ho
    cases hr with | cons hv hr => cases hr with | nil =>
    cases hv
    exact ok_below (fun _ _ => by kernel_rfl) sm (Any.unicode_IsLetter_all Tryd.laysLetter Tryd.gProps r g.w ho.1 ho.2 sm.fct.here.1 sm.fct.here.2.1)
  · cases h
theorem gIsDigit.ok : SpecOk Tryd.prog 69 isDigitS := by
  intro l M out h
  unfold isDigitS at h
  split at h
  · rename_i r
    cases h
    intro g vs hM sm hr ho
    cases hr with | cons hv hr => cases hr with | nil =>
    cases hv
    exact ok_below (fun _ _ => by kernel_rfl) sm (Any.unicode_IsDigit_all Tryd.laysDigit r g.w ho.1 ho.2 sm.fct.here.2.2)
  · cases h
end Go.Proofs
end
section
namespace Go.Proofs
open Go.RowKit Go.Ab

theorem hidW {p : Prop} (h : p) : Hid p := h

set_option maxHeartbeats 2000000 in
set_option maxRecDepth 100000 in
theorem Tryd.writeW (b : Nat) (w : World) (p v : Value) (n : Nat) (xs : List Value) (hb : w.heap[b]? = some (.cells #[p, v] 65 (0, 0))) (hp : p = .pointer none ∨ p = .pointer (some ⟨b, 0, none⟩))
    (hown : w.ownsRow 0 5 1 v n xs) (hne : v.ownBlock ≠ some b) (ad : Addr) (m c : Nat) (news : List Value) (hl : news.length = m) (hm : 0 < m) (hnews : ∀ j u, news[j]? = some u → w.cell? (ad.add j) = some u)
    (h1 : ∀ u ∈ news, u.oneCell' = true) (hap : ∀ j, (ad.add j).block ≠ b) (hbytes : n + m ≤ 140737488355328) :
    Calls Tryd.prog 56 #[.pointer (some ⟨b, 0, none⟩), .slice (some ad) m c] w fun e w' => e = .returned (.tuple #[.int .i64 m, .nilIface]) ∧
      ∃ v', w'.heap[b]? = some (.cells #[.pointer (some ⟨b, 0, none⟩), v'] 65 (0, 0)) ∧ w'.ownsRow 0 5 1 v' (n + m) (xs ++ news) ∧ v'.ownBlock ≠ some b ∧ WrKeep b v.ownBlock w w' ∧
        (v'.ownBlock = v.ownBlock ∨ v'.ownBlock = some w.heap.size) ∧ ∀ g, v'.ownBlock = some g → g < w'.heap.size := by
  have hbl : b < w.heap.size := by
    rcases Nat.lt_or_ge b w.heap.size with h | h
    · exact h
    · simp [Array.getElem?_eq_none h] at hb
  have H1 := hidW (Tryd.ccAny b w p v n xs hb hp hown hne)
  have H2 := hidW (show _ ∧ _ ∧ _ ∧ _ ∧ _ ∧ _ from ⟨hbl, hne, hnews, h1, hap, hl⟩)
  clear hb hp hown hne hnews h1 hap hbl hl
  go_enter Tryd.func56, Tryd.ntmps56
  go_wp2_with (go_at_call 66; refine H1.out.mono ?_)
  rintro e w1 ⟨rfl, hb1, hown1, hsz1, hk1, hall1⟩
  obtain ⟨hbl, hne, hnews, h1, hap, hl⟩ := H2.out
  obtain ⟨i0, hi, hz⟩ := Option.map_eq_some_iff.1 Tryd.byteI
  simp only [Prod.mk.injEq] at hz
  obtain ⟨hz0, hz1, hz2⟩ := hz
  have hnews1 : ∀ j u, news[j]? = some u → w1.cell? (ad.add j) = some u := fun j u hj => by
    rw [← hnews j u hj]; simp only [World.cell?]; rw [hall1 _ (hap j)]
  have hsrc : Src Tryd.prog 1 61 (.slice (some ad) m c) m news w1 := Src.ofSlice w1 Tryd.underlying61 ad m c news (by omega) hnews1 h1
  have Hs := hidW hsrc
  have Hi := hidW (show _ ∧ _ ∧ _ ∧ _ from ⟨hi, hz0, hz1, hz2⟩)
  have Hk := hidW (show _ ∧ _ from ⟨hk1, hsz1⟩)
  have Ho := hidW hown1
  have Hn := hidW hne
  have Hb := hidW hb1
  have Hl := hidW hbl
  have c0 : w1.cell? ⟨b, 0, none⟩ = some (.pointer (some ⟨b, 0, none⟩)) := by rw [Lib.cell_of_heap hb1]; rfl
  have c1 : w1.cell? ⟨b, 1, none⟩ = some v := by rw [Lib.cell_of_heap hb1]; rfl
  clear hall1 hk1 hsz1 hown1 hne hb1 hsrc hnews1 hnews h1 hap hi hz0 hz1 hz2 hbl hl H1 H2
  go_wp2_with (at_builtin; refine wpList_append_w rfl _ _ 61 61 rfl 5 i0 _ Tryd.underlying61 Hi.out.1 Hi.out.2.1 Hi.out.2.2.1 Hi.out.2.2.2 rfl _ _ _ rfl Ho.out _ rfl m news Hs.out hm hbytes ?_)
  intro v' w2 hown' hgrow hblk' hnn
  obtain ⟨hk1, hsz1⟩ := Hk.out
  have hne := Hn.out
  have hb1 := Hb.out
  have hbl := Hl.out
  have hlt : b < w1.heap.size := by omega
  have hne' : v'.ownBlock ≠ some b := by
    rcases hblk' with h | h
    · rw [h]; exact hne
    · rw [h]; intro e; simp only [Option.some.injEq] at e; omega
  have hb2 : w2.heap[b]? = some (.cells #[.pointer (some ⟨b, 0, none⟩), v] 65 (0, 0)) := by
    rw [hgrow.block b hlt (fun e => hne e.symm)]
    exact hb1
  have fin : ∀ w3, w3 = w2.setCell ⟨b, 1, none⟩ v' → w3.heap[b]? = some (.cells #[.pointer (some ⟨b, 0, none⟩), v'] 65 (0, 0)) ∧ w3.ownsRow 0 5 1 v' (n + m) (xs ++ news) ∧ v'.ownBlock ≠ some b ∧ WrKeep b v.ownBlock w w3 ∧
        (v'.ownBlock = v.ownBlock ∨ v'.ownBlock = some w.heap.size) ∧ ∀ g, v'.ownBlock = some g → g < w3.heap.size := by
    rintro w3 rfl
    refine ⟨by simp [World.setCell, Array.getElem?_modify, hb2], ?_, hne', (hk1.trans (WrKeep.grown hgrow)).trans (WrKeep.setCell _ _ _ _ _), by rw [hsz1] at hblk'; exact hblk', fun q hq => ?_⟩
    · exact hown'.kept (row := some b) ⟨rfl, rfl, rfl, by simp [World.setCell], fun k _ hk => heap_setCell_ne (fun e => hk (by simp [e]))⟩ (.inr hne')
    · rcases hown'.2 with ⟨_, h⟩ | ⟨g', cap', cur, hv, _, ho, _⟩
      · omega
      · subst hv
        simp only [Value.ownBlock, Option.some.injEq] at hq
        subst hq
        simp only [World.setCell, Array.size_modify]
        rcases Nat.lt_or_ge g' w2.heap.size with h | h
        · exact h
        · simp [Array.getElem?_eq_none h] at ho
  have Hf := hidW fin
  have d0 : w2.cell? ⟨b, 0, none⟩ = some (.pointer (some ⟨b, 0, none⟩)) := by rw [Lib.cell_of_heap hb2]; rfl
  have d1 : w2.cell? ⟨b, 1, none⟩ = some v := by rw [Lib.cell_of_heap hb2]; rfl
  have f1 : w2.frozen? ⟨b, 1, none⟩ = false := Lib.frozen_of_heap hb2 1
  obtain ⟨g, cap, hv'⟩ : ∃ g cap, v' = .slice (some ⟨g, 0, none⟩) (n + m) cap := by
    rcases hown'.2 with ⟨_, h⟩ | ⟨g, cap, cur, hv, _⟩
    · omega
    · exact ⟨_, _, hv⟩
  subst hv'
  clear hown' hgrow hblk' hnn hne' hk1 hsz1 hne hb1 hbl hlt hb2 fin
  go_wp2
  go_ret2
  exact ⟨rfl, _, Hf.out _ rfl⟩

theorem Tryd.byteC : Tryd.prog.cellsOf 5 = 1 := by kernel_rfl

set_option maxHeartbeats 1000000 in
set_option maxRecDepth 100000 in
theorem Tryd.stringW (b g cap : Nat) (w : World) (p : Value) (l : List UInt8) (cur : Array Value) (hb : w.heap[b]? = some (.cells #[p, .slice (some ⟨g, 0, none⟩) l.length cap] 65 (0, 0)))
    (hg : w.heap[g]? = some (.cells cur 5 (0, 0))) (hnc : l.length ≤ cap) (hcm : cap ≤ maxLen) (hcs : cur.size = cap) (ht : cur.toList.take l.length = Lib.byteCells l) (h0 : l ≠ []) :
    Calls Tryd.prog 59 #[.pointer (some ⟨b, 0, none⟩)] w fun e w' => e = .returned (.string ⟨l.toArray⟩) ∧ WrKeep b (some g) w w' ∧ w'.heap.size = w.heap.size := by
  have hl0 : l.length ≠ 0 := by simpa using h0
  have c1 : w.drew.cell? ⟨b, 1, none⟩ = some (.slice (some ⟨g, 0, none⟩) l.length cap) := by
    have : w.drew.heap[b]? = some (.cells #[p, .slice (some ⟨g, 0, none⟩) l.length cap] 65 (0, 0)) := hb
    rw [Lib.cell_of_heap this]; rfl
  have hSD : (Builtin.unsafeSliceData_ #[61] 106 #[.slice (some ⟨g, 0, none⟩) l.length cap]).run Tryd.prog w.drew = .ok (.pointer (some ⟨g, 0, none⟩)) w.drew :=
    Lib.run_unsafeSliceData_row _ _ _ _ _ _ (by omega)
  have hUS : (Builtin.unsafeString_ #[106, 3] 9 #[.pointer (some ⟨g, 0, none⟩), .int .i64 l.length]).run Tryd.prog w.drew = .ok (.string ⟨l.toArray⟩) (w.drew.freeze ⟨g, 0, none⟩ l.length) := by
    refine Lib.run_unsafeString_row w.drew 106 3 9 5 Tryd.underlying106 Tryd.byteC g cur.size (by have hg' : w.drew.heap[g]? = some (.cells cur 5 (0, 0)) := hg; simp [World.shape?, hg']) l h0 (by omega) (by unfold maxLen at hcm; omega) ?_
    intro j x hx
    have hadd : (⟨g, 0, none⟩ : Addr).add j = ⟨g, j, none⟩ := by unfold Addr.add; split <;> simp_all
    have hj : (cur.toList.take l.length)[j]? = some (.int .u8 x.toNat) := by rw [ht]; simp [Lib.byteCells, hx]
    rw [List.getElem?_take] at hj
    split at hj
    · show w.cell? _ = _
      rw [hadd]
      simp only [World.cell?, hg]
      simpa using hj
    · cases hj
  have Hf := hidW (show WrKeep b (some g) w (w.drew.freeze ⟨g, 0, none⟩ l.length) ∧ (w.drew.freeze ⟨g, 0, none⟩ l.length).heap.size = w.heap.size from by
    unfold World.freeze
    rw [if_neg hl0]
    refine ⟨⟨by simp, rfl, rfl, fun k _ _ hk => ?_⟩, by simp⟩
    simp only [Array.getElem?_modify]
    rw [if_neg (fun e => hk (by rw [e]))]
    rfl)
  clear hb hg hnc hcm hcs ht h0 hl0
  go_enter Tryd.func59, Tryd.ntmps59
  go_wp2
  go_region
  all_goals (go_wp2; go_ret; exact ⟨rfl, Hf.out⟩)
end Go.Proofs
end
section
namespace Go.Proofs
open Go.Ab
noncomputable def gLaw07ControlCut (x0 : Antiphonref07Command) (x1 : Int) : Option Bool :=
  ((gLaw07Few x0)).bind fun r1 =>
  (gLaw07Awake).bind fun r2 =>
  need (Under (notB r2) false ((gControlCommandCheck r1).isSome = true)) <|
  bif (pickB (notB r2) true (neI ((gControlCommandCheck r1).getD dflt) 0)) then (
    some r2
  ) else (
    ((gControlCommandText r1)).bind fun r3 =>
    need (NonZ (lenS r3)) <|
    need (NonZ (lenS r3)) <|
    need (CutB 0 (remI (addI .i64 (remI x1 (lenS r3)) (lenS r3)) (lenS r3)) (lenS r3)) <|
    ((gControlParse (cutS r3 0 (remI (addI .i64 (remI x1 (lenS r3)) (lenS r3)) (lenS r3))))).bind fun r4 =>
    need (CatB r3 ⟨#[0]⟩) <|
    ((gControlParse (catS r3 ⟨#[0]⟩))).bind fun r5 =>
    some (pickB (eqI r4.2 1) (eqI r5.2 2) false)
  )
end Go.Proofs
end
section
namespace Go.Proofs
open Go.Ab
noncomputable def gLaw07ControlApart (x0 : Antiphonref07Command) (x1 : Antiphonref07Command) : Option Bool :=
  ((gLaw07Few x0)).bind fun r1 =>
  ((gLaw07Few x1)).bind fun r2 =>
  (gLaw07Awake).bind fun r3 =>
  need (Under (notB r3) false ((gControlCommandCheck r1).isSome = true)) <|
  need (Under (pickB (notB r3) true (neI ((gControlCommandCheck r1).getD dflt) 0)) false ((gControlCommandCheck r2).isSome = true)) <|
  bif (pickB (pickB (notB r3) true (neI ((gControlCommandCheck r1).getD dflt) 0)) true (neI ((gControlCommandCheck r2).getD dflt) 0)) then (
    some r3
  ) else (
    ((gControlCommandText r1)).bind fun r4 =>
    ((gControlCommandText r2)).bind fun r5 =>
    ((gLaw07Told r2)).bind fun r6 =>
    ((gLaw07Same r1 r6)).bind fun r7 =>
    some (eqB (eqS r4 r5) (eqI r7 0))
  )
end Go.Proofs
end
section
namespace Go.Ab
open Go.ChangeShapes Go.WideShapes Go.ChangeAt Go.RowKit

variable {H : Type} {enc : TypeId × Value → H} {P : Program}

/-- The same of a row that lays variables. -/
theorem law_lifted_laid {C : Checked} {os : Os} {f : FuncId} {fn : Func} {s : ChangeSpec} {conds : List PathCond} {tb : TypeId} {l : List TypeId} {laid : List (String × DataW Unit)}
    (own : ownKnob C.prog.godebug = none) (started : os.Started) (noInit : C.prog.inits.idxOf? f = none) (hfn : C.prog.funcs[f]? = some fn)
    (witness : ∃ (w : World) (tape : Tape) (i : Input), w.os = os ∧ (w.forCall tape i).Shaped C.prog ∧ i.vars = [] ∧ Input.okWide C.prog (w.forCall tape i) .any w.heap.size f i ∧
      ((s.pre enc C.prog fn conds false (w.forCall tape i).memory i.args ∧ laidMetH C.prog laid (w.forCall tape i).memory) ∧ sizedMet enc C.prog fn (OpenSpec.ofChange s) false (w.forCall tape i).memory i.args) ∧ ({} : Assume).holds C.prog (lone (Frame.enter C.prog f i.args .normal) [] (w.forCall tape i)))
    (hvars : s.vars = []) (hres : fn.resultTypes = #[tb]) (htb : C.prog.underlying tb = some .bool)
    (hspec : ∀ ds : List (DataW H), ds.length = fn.params.toList.length → s.fn H ds = { results := [.lit (.bool true)], args := ds })
    (K : Kids C.prog (· < C.prog.types.size)) (hz : ((List.range C.prog.types.size).all fun t => match C.prog.underlying t with | some (.slice e) => decide (0 < C.prog.cellsOf e) | _ => true) = true)
    (hl : flatB C.prog l = true) (hT : topB C.prog l fn.params.toList = true)
    (call : ∀ avl, ShAll C.prog fn.params.toList avl → ∃ o : Prop, o ∧ CallOk C.prog f avl [] { av := .lit (.bool true), obl := o })
    (hF : ∀ w : World, laidMetH C.prog laid w → ∀ w' : World, (∀ b, b < w.heap.size → w'.heap[b]? = w.heap[b]?) → fctF w') :
    ReturnsInHanded {} C os f .any (fun w args => (s.pre enc C.prog fn conds false w args ∧ laidMetH C.prog laid w) ∧ sizedMet enc C.prog fn (OpenSpec.ofChange s) false w args) (s.post enc C.prog fn false true false false) := by
  refine returnsInHanded_of_change_and (X := fun w _ => laidMetH C.prog laid w) (fun _ _ _ hh h => h.of_heap hh) own started noInit hfn witness ?_
  intro W base args ds gs before hval hW _ _ hL _
  exact law_contract hvars hres htb hspec K hz hl hT call W (hF W hL) base args ds gs before hval hW

end Go.Ab
end
