import Derived.Test.YtpamnignoocogaaGreatDoorM16
import Derived.Test.YtpamnignoocogaaGreatDoorBu
import Derived.Test.YtpamnignoocogaaGreatDoorM13
import Derived.Test.YtpamnignoocogaaGreatDoorM05
import Derived.Test.YtpamnignoocogaaGreatDoorM15
import Derived.Test.YtpamnignoocogaaGreatDoorProg
import Derived.Sort.CutIn
import Derived.Test.YtpamnignoocogaaGreatDoorTy
import Derived.Test.YtpamnignoocogaaGreatDoorM01
import Derived.Lib.SplitLaws
import Derived.Test.YtpamnignoocogaaGreatDoorM04
section
namespace Go.Ab
open Go.Proofs Go.RowKit
@[simp] def wrLenS (T E : TypeId) : Sp
  | [.ptr i 0], M => match M[i]? with
    | some (.opq φ) => some { av := .lit (.int .i64 (lenL φ.bs)), obl := φ = wrO T E φ.bs }
    | _ => none
  | _, _ => none
theorem lenW_ok {P : Program} {f : FuncId} {T E : TypeId} (hent : ∀ args w, (callFunc f args).run P w = .ok (.enter f args) w)
  (hU : ∀ (b : Nat) (w : World) (p v : Value) (n : Nat) (xs : List Value), w.heap[b]? = some (.cells #[p, v] T (0, 0)) → w.ownsRow 0 E 1 v n xs →
   Calls P f #[.pointer (some ⟨b, 0, none⟩)] w fun e w' => e = .returned (.int .i64 n) ∧ w' = w) : SpecOk P f (wrLenS T E) := by
 intro l M out h;unfold wrLenS at h;split at h
 ·rename_i i;split at h
  ·rename_i φ hMi;cases h;intro g vs hM sm hr ho;subst hM;have hφ : φ = wrO T E φ.bs := ho;cases hr with | cons hv hr => cases hr with | nil =>
   cases hv with
   | ptr _ _ hi =>
   refine ⟨hent _ _, ?_⟩;have hq := sm.opq i φ hMi;rw [hφ] at hq;obtain ⟨p, v, h1, h2, h3, h4, h5⟩ := WrB.at hq;refine (hU (g.β i) g.w p v φ.bs.length (φ.bs.map (Value.int .u8)) h1 h3).mono ?_;rintro e' w' ⟨rfl, rfl⟩;exact ⟨_, rfl, Post.same rfl sm (.lit _)⟩
  ·cases h
 ·cases h
end Go.Ab
namespace Go.Proofs
open Go.RowKit Go.Ab
set_option maxHeartbeats 2000000 in
set_option maxRecDepth 100000 in
theorem Tryz.lenW (b : Nat) (w : World) (p v : Value) (n : Nat) (xs : List Value) (hb : w.heap[b]? = some (.cells #[p, v] 126 (0, 0))) (hown : w.ownsRow 0 5 1 v n xs) :
  Calls Tryz.prog 360 #[.pointer (some ⟨b, 0, none⟩)] w fun e w' => e = .returned (.int .i64 n) ∧ w' = w := by
 obtain ⟨a, cap, rfl⟩ : ∃ a cap, v = .slice a n cap := by
  rcases hown.2 with ⟨hv, h⟩ | ⟨g, cap, cur, hv, _⟩
  ·subst h; exact ⟨_, _, hv⟩
  ·exact ⟨_, _, hv⟩
 have c1 : w.cell? ⟨b, 1, none⟩ = some (.slice a n cap) := by rw [Lib.cell_of_heap hb]; rfl
 clear hb hown
 go_enter Tryz.func360, Tryz.ntmps360
 go_wp2;go_ret;exact ⟨rfl, rfl⟩
theorem gOwLen.ok : SpecOk Tryz.prog 360 (wrLenS 126 5) :=
 lenW_ok (fun args w => by kernel_rfl) Tryz.lenW
end Go.Proofs
end
section
namespace Go.Ab
open Go.Proofs
section
variable {P : Program}
def LibOk (P : Program) (f : FuncId) (S : Sp) : Prop := ∀ l M o, S l M = some o → CallOk P f l M o ∧ o.obl
def LibAll (P : Program) : List (FuncId × Sp) → Prop
 | [] => True
 | p :: r => LibOk P p.1 p.2 ∧ LibAll P r
def libL : List (FuncId × Sp) → Gam
 | [], _, _, _ => none
 | p :: r, f, l, M => if p.1 == f then p.2 l M else libL r f l M
theorem libL_ok : ∀ {L : List (FuncId × Sp)}, LibAll P L → ∀ f l M o, libL L f l M = some o → CallOk P f l M o ∧ o.obl
 | [], _, _, _, _, _, h => by cases h
 | p :: r, h, f, l, M, o, q => by
   unfold libL at q;split at q
   ·rename_i hf; have := eq_of_beq hf; subst this; exact h.1 l M o q
   ·exact libL_ok h.2 f l M o q
theorem LibOk.chk {f : FuncId} {S : Sp} {ob : List AV → List AObj → Bool} (h : SpecOk P f S) (hob : ∀ l M o, S l M = some o → ob l M = true → o.obl) : LibOk P f (chkS S ob) := fun _ _ _ q => chkS_ok h hob q
def orS (S S' : Sp) : Sp := fun l M => match S l M with
 | some o => some o
 | none => S' l M
theorem LibOk.or {f : FuncId} {S S' : Sp} (h : LibOk P f S) (h' : LibOk P f S') : LibOk P f (orS S S') := fun l M o q => by
 unfold orS at q;split at q
 ·rename_i o' ho; cases q; exact h l M _ ho
 ·exact h' l M o q
def wrBs (M : List AObj) : List AV → List Int
 | .ptr i 0 :: _ => match M[i]? with
   | some (.opq φ) => φ.bs
   | _ => []
 | _ => []
def textOb (T E : TypeId) (l : List AV) (M : List AObj) : Bool := isWr T E M l && decide (TextB (wrBs M l))
theorem textOb_spec {T E : TypeId} (l : List AV) (M : List AObj) (o : Out) (h : wrTextS T E l M = some o) (hb : textOb T E l M = true) : o.obl := by
 unfold textOb at hb;simp only [Bool.and_eq_true, decide_eq_true_eq] at hb;unfold wrTextS at h;split at h
 ·split at h
  ·rename_i φ hM;cases h;have := hb.2;simp only [wrBs, hM] at this;exact ⟨isWr_spec hb.1 hM, this⟩
  ·cases h
 ·cases h
def lenOb (T E : TypeId) (l : List AV) (M : List AObj) : Bool := isWr T E M l
theorem lenOb_spec {T E : TypeId} (l : List AV) (M : List AObj) (o : Out) (h : wrLenS T E l M = some o) (hb : lenOb T E l M = true) : o.obl := by
 unfold wrLenS at h;split at h
 ·split at h
  ·rename_i φ hM; cases h; exact isWr_spec hb hM
  ·cases h
 ·cases h
def putBOb (T E : TypeId) (l : List AV) (M : List AObj) : Bool := isWr T E M l && decide (AppB (lenL (wrBs M l)) 1 1)
theorem putBOb_spec {T E : TypeId} (l : List AV) (M : List AObj) (o : Out) (h : wrPutB T E l M = some o) (hb : putBOb T E l M = true) : o.obl := by
 unfold putBOb at hb;simp only [Bool.and_eq_true, decide_eq_true_eq] at hb;unfold wrPutB at h;split at h
 ·split at h
  ·rename_i φ hM;cases h;have := hb.2;simp only [wrBs, hM] at this;exact ⟨isWr_spec hb.1 hM, this⟩
  ·cases h
 ·cases h
def putTOb (T E : TypeId) (l : List AV) (M : List AObj) : Bool := isWr T E M l && match l with
 | [_, .lit (.string s)] => decide (0 < lenS s) && decide (AppB (lenL (wrBs M l)) (lenS s) 1)
 | _ => false
theorem putTOb_spec {T E : TypeId} (l : List AV) (M : List AObj) (o : Out) (h : wrPutT T E l M = some o) (hb : putTOb T E l M = true) : o.obl := by
 unfold putTOb at hb;simp only [Bool.and_eq_true] at hb;unfold wrPutT at h;split at h
 ·split at h
  ·rename_i φ hM;cases h;have := hb.2;simp only [wrBs, hM, Bool.and_eq_true, decide_eq_true_eq] at this;exact ⟨isWr_spec hb.1 hM, this⟩
  ·cases h
 ·cases h
def putROb (T E : TypeId) (l : List AV) (M : List AObj) : Bool := isWr T E M l && match l with
 | [_, .lit (.int _ r)] => decide (I32B r) && decide (AppB (lenL (wrBs M l)) 4 1)
 | _ => false
theorem putROb_spec {T E : TypeId} (l : List AV) (M : List AObj) (o : Out) (h : wrPutR T E l M = some o) (hb : putROb T E l M = true) : o.obl := by
 unfold putROb at hb;simp only [Bool.and_eq_true] at hb;unfold wrPutR at h;split at h
 ·split at h
  ·rename_i φ hM;cases h;have := hb.2;simp only [wrBs, hM, Bool.and_eq_true, decide_eq_true_eq] at this;exact ⟨isWr_spec hb.1 hM, this⟩
  ·cases h
 ·cases h
def putSOb (T E : TypeId) (l : List AV) (M : List AObj) : Bool := isWr T E M l && match l with
 | [_, .sl els _] => numsB .u8 els && !els.isEmpty && decide (AppB (lenL (wrBs M l)) (lenL els) 1)
 | _ => false
theorem putSOb_spec {T E : TypeId} (l : List AV) (M : List AObj) (o : Out) (h : wrPutS T E l M = some o) (hb : putSOb T E l M = true) : o.obl := by
 unfold putSOb at hb;simp only [Bool.and_eq_true] at hb;unfold wrPutS at h;split at h
 ·split at h
  ·rename_i φ hM;cases h;have := hb.2;simp only [wrBs, hM, Bool.and_eq_true, decide_eq_true_eq, Bool.not_eq_true', List.isEmpty_eq_false_iff] at this;exact ⟨isWr_spec hb.1 hM, numsB_spec this.1.1, this.1.2, this.2⟩
  ·cases h
 ·cases h
end
end Go.Ab
end
section
set_option maxRecDepth 100000
namespace Go.Ab
open Go.Proofs Go.Maps Go.RowKit Go.Sort Go.Shelf Go.Lib ChangeMaps
def c3 (x : L3) : List AV := [.lit (.int .i64 x.1), .lit (.int .i64 x.2.1), .lit (.int .i64 x.2.2)]
def d3 : AV → L3
 | .agg [.lit (.int _ a), .lit (.int _ b), .lit (.int _ c)] => (a, b, c)
 | _ => (0, 0, 0)
def keys3 (es : List (AV × AV)) : List L3 := es.map fun e => d3 e.1
def Keys3Z (l : List L3) : Prop := l.length * 24 ≤ 140737488355328
def Keys3 (es : List (AV × AV)) : Prop := ∀ e ∈ es, e.1 = .agg (c3 (d3 e.1))
@[simp] def keysLS (k : Nat) : Sp
  | [.mp i], M => match M[i]? with
    | some (.mapo _) => some { av := .fn k [.mp i] }
    | _ => none
  | _, _ => none
@[simp] def sortedLS (k c : Nat) : Sp
  | [.fn k' [.mp i], .lit v], M => (match M[i]? with
    | some (.mapo es) => some { av := .sl ((srt3 (keys3 es)).map c3) .no, obl := Keys3 es ∧ Keys3Z (keys3 es) ∧ k' = k ∧ v = .func (.func c) #[] #[] }
    | _ => none)
  | _, _ => none
theorem keysL_c (mb : Option Nat) (w : World) : Calls Tryz.prog 271 #[.map mb] w fun e w' => e = .returned (.func (.func 359) #[] #[.pointer (some ⟨w.heap.size, 0, none⟩)]) ∧ w' = w.alloc (.cells #[.map mb] 150) := by
 go_enter Tryz.func271, Tryz.ntmps271
 go_wp2;go_ret;exact ⟨rfl, rfl⟩
theorem keysL_ok : SpecOk Tryz.prog 271 (keysLS 359) := by
 intro l M out h;unfold keysLS at h;split at h
 ·rename_i i;split at h
  ·cases h;intro g vs hM sm hr _;cases hr with | cons hv hr => cases hr with | nil =>
   cases hv with
   | mp _ hi =>
   refine ⟨enters_of Tryz.func271 (by kernel_rfl) rfl _ _, ?_⟩;refine (keysL_c _ _).mono fun e w' => ?_;rintro ⟨rfl, rfl⟩;have hw : (g.w.alloc (.cells #[.map (some (g.β i))] 150)).heap = g.w.heap.push (.cells #[.map (some (g.β i))] 150) := rfl;refine ⟨_, rfl, g.β, g.ρ, ?_, ?_, ?_⟩
   ·simp only [G.out, Option.getD_none];exact sim_push hw sm
   ·simp only [G.out, Option.getD_none];refine .fn _ [.mp i] (fun _ => g.w.heap.size) (fun _ => .map (some (g.β i))) (fun j hj => ?_) (fun j hj hreg => ?_) (fun j hj => ?_)
    ·simp [World.cell?, hw]
    ·have := sm.inb _ hreg;simp at this
    ·have hj0 : j = 0 := by simp at hj; omega
     subst hj0;exact .mp (g := { g with w := g.w.alloc (.cells #[.map (some (g.β i))] 150) }) i hi
   ·simp only [G.out, Option.getD_none];exact keep_push hw
  ·cases h
 ·cases h
theorem R.rows3 {g : G} {w' : World} (sm : Sim g) {gb cap : Nat} {l : List L3} (hH : HoldsK cs3 3 w' gb 0 l.toArray) (hbase : g.w.heap.size ≤ gb) (hc : l.length ≤ cap) : R { g with w := w' } (.sl (l.map c3) .no) (.slice (some ⟨gb, 0, none⟩) l.length cap) := by
 have hlen : (l.map c3).length = l.length := by simp
 have q : R { g with w := w' } (.sl (l.map c3) .no) (.slice (some ⟨gb, 0, none⟩) (l.map c3).length cap) := by
  refine .sl _ .no gb 0 3 cap (fun i j => (cs3 l[i]!)[j]!) (fun i hi => by simp [c3]) (fun i j hi hj => ?_) (fun i j hi hj hr => ?_) (fun i j hi hj => ?_) (fun i j hi hj => ?_) trivial (by omega)
  ·have h1 := (hH (i * 3 + j) (by simp only [size_flatK, List.size_toArray]; omega)).1;rw [get_flatK _ _ _ _ (by simp only [List.size_toArray]; omega)] at h1;have e1 : (i * 3 + j) / 3 = i := by omega
   have e2 : (i * 3 + j) % 3 = j := by omega
   rw [e1, e2] at h1;simp only [id, ← Nat.add_assoc] at h1;simpa using h1
  ·have := sm.inb _ hr;simp only at this;omega
  ·have hi' : i < l.length := by omega
   have hj' : j < 3 := by simpa [c3] using hj
   have e : l[i]! = l[i] := by simp [hi']
   simp only [List.getElem_map, e];rcases (show j = 0 ∨ j = 1 ∨ j = 2 by omega) with rfl | rfl | rfl <;> exact .lit _
  ·rcases (show j = 0 ∨ j = 1 ∨ j = 2 by omega) with rfl | rfl | rfl <;> rfl
 rw [hlen] at q; exact q
theorem fn_inv3 {g : G} {f : Nat} {i : Nat} {v : Value} (h : R g (.fn f [.mp i]) v) : ∃ b, v = .func (.func f) #[] #[.pointer (some ⟨b, 0, none⟩)] ∧ g.w.cell? ⟨b, 0, none⟩ = some (.map (some (g.β i))) ∧ i < g.M.length := by
 cases h with
 | fn _ _ bs us h1 h2 h3 =>
   have h4 := h3 0 (by simp);simp only [List.getElem_cons_zero] at h4;generalize hu : us 0 = u at h4;cases h4 with
   | mp _ hi =>
     refine ⟨bs 0, by simp [List.range_succ], ?_, hi⟩;have := h1 0 (by simp);rw [hu] at this; exact this
theorem sortedL_ok : SpecOk Tryz.prog 270 (sortedLS 359 272) := by
 intro l M out h;unfold sortedLS at h;split at h
 ·rename_i k' i v0;split at h
  ·rename_i es hMi
   ·cases h;intro g vs hM sm hr ho;subst hM;obtain ⟨ho1, ho2, rfl, rfl⟩ := ho;cases hr with | cons hv hr => cases hr with | cons hu hr => cases hr with | nil =>
    obtain ⟨b, rfl, hcell, hi⟩ := fn_inv3 hv;obtain rfl := hu.lit_inv;refine ⟨enters_of Tryz.func270 (by kernel_rfl) rfl _ _, ?_⟩;obtain ⟨ents, clock, hh, hst, he⟩ := map_at sm hMi
    have hK : ents.toList.map (·.key) = (keys3 es).map kv3 := by
     have : ∀ (es : List (AV × AV)) (l : List MapEntry), EntR g es l → Keys3 es → l.map (·.key) = (keys3 es).map kv3 := by
      intro es l h
      induction h with
      | nil => intro _; rfl
      | @cons a v es e l hk hv r ih =>
        intro q;have h1 := q (a, v) (.head _);simp only at h1;rw [h1] at hk;have h2 := hk.keyVal rfl;simp only [List.map_cons, keys3];rw [h2, ih fun e he => q e (.tail _ he)]; rfl
     exact this es ents.toList he ho1
    refine (sorted3 b (g.β i) ents clock (keys3 es) hst.1 hst.2.1 hK ho2 g.w hcell hh).mono fun e w' => ?_;rintro ⟨v, rfl, hbel, hrow⟩;refine ⟨_, rfl, g.β, g.ρ, ?_, ?_, ?_⟩
    ·simp only [G.out, Option.getD_none]; exact sim_below hbel sm
    ·simp only [G.out, Option.getD_none];rcases hrow with ⟨rfl, hz⟩ | ⟨gb, cap, rfl, hbase, hc, _, hH⟩
     ·have hn : srt3 (keys3 es) = [] := by rw [hz]; simp [srt3]
      rw [hn]; exact .nil _ trivial
     ·have hl : (keys3 es).length = (srt3 (keys3 es)).length := by simp [srt3]
      rw [hl];exact R.rows3 sm hH hbase (by rw [← hl]; exact hc)
    ·simp only [G.out, Option.getD_none]; exact keep_below hbel
  ·cases h
 ·cases h
end Go.Ab
end
section
set_option maxRecDepth 100000
set_option maxHeartbeats 2000000
namespace Go.Ab
open Go.Proofs Go.Maps Go.RowKit Go.Sort Go.Shelf ChangeMaps
def kvU (x : Int) : Value := .int .u32 x
theorem keysU_in (F : Fence) (n : Nat) (h10 : F.fn 237) (hro : F.round = none) (_hn : 1 ≤ n) (l Bm b : Nat) (clock : Nat) (J : List Int → World → Prop)
  (W : World) (hJ : AbidesFrom W.heap.size J) (hm : W.cell? ⟨Bm, 0, none⟩ = some (.map (some b))) (hb : W.heap[b]? = some (.map #[] clock)) (h0 : J [] W) :
  CallsIn F n Tryz.prog 237 #[.func (.yield l) #[] #[], .pointer (some ⟨Bm, 0, none⟩)] W fun e W' => (∃ v, e = .returned v) ∧ ∃ ss : List Int, ss = [] ∧ J ss W' := by
 refine callsIn_of_wp Tryz.func237 rfl h10 ?_ hro;simp only [Tryz.ntmps237, List.size_toArray, List.length_cons, List.length_nil, Nat.reduceAdd, Nat.reduceSub, Array.replicate_succ, Array.replicate_zero, List.push_toArray, List.append_toArray, List.nil_append, List.cons_append]
 gi_wp2_with (first
  | (gi_at_range; refine wpListIn_range_K rfl _ _ rfl (k := 116) (e := 272) (b := b) (ents := #[]) (clock := clock) (by kernel_rfl) rfl hb ?_; intro w0 hrg0 hg0 hs0)
  | gi_in)
 go_frame
 gi_loopw [3] (fun _ wr => KR wr b W.heap.size #[] clock [] ∧ J [] wr) (fun _ _ => 0)
 case atStart =>
  exact ⟨hrg0, hJ [] W w0 none h0 hg0 (fun r e => by cases e)⟩
 case round =>
  obtain ⟨hrg, hJs⟩ := hrel
  gi_wp2_with (first
   | (gi_at_next; refine wpListIn_next_K rfl _ rfl rfl hrg (fun _ h => by cases h) .nil ?_ ?_)
   | gi_in)
  go_end0
  exact ⟨⟨_, rfl⟩, [], rfl, hJs⟩
def rfOf : Code → Option (Code × Code)
 | .rangeFunc _ _ a c => some (a, c)
 | .seq x y => match rfOf x with
   | some r => some r
   | none => rfOf y
 | .block _ x => rfOf x
 | _ => none
def apRecU (asg bod : Code) (fn : FuncId) (sv : Value) (Bs D : Nat) (st : LoopState) (pend : Option Code) : Loop :=
 { state := st, pending := pend, fn, tmps := #[.slice none 0 0, sv, .pointer (some ⟨Bs, 0, none⟩), undef, .slice none 0 0, undef, sv, undef, undef, undef, undef, undef, undef], params := #[7], assign := asg, body := bod, defers := D }
structure ApAtU (asg bod : Code) (w0 : World) (fn : FuncId) (sv : Value) (Bs l D : Nat) (ss : List Int) (W : World) : Prop where
 nil : ss = []
 box : W.heap[Bs]? = some (.cells #[.slice none 0 0] 30 (0, 0))
 L : W.heap[l]? = some (.loop (apRecU asg bod fn sv Bs D .ready none))
 K : W.heap[D]? = some (.deferred (some []))
 below : Below w0.heap.size w0 W
theorem ap_abidesU (asg bod : Code) (w0 : World) (fn : FuncId) (sv : Value) (Bs l D B : Nat) (hB : w0.heap.size ≤ B) : AbidesFrom B (ApAtU asg bod w0 fn sv Bs l D) := fun s W W' row h hg hrow => by
 have hrow' : ∀ r, row = some r → ∃ o : Obj, W.heap[r]? = some o ∧ o.isWalk = true := fun r e => (hrow r e).2
 exact ⟨h.nil, (grownBy_keeps hg hrow' h.box rfl).trans h.box, (grownBy_keeps hg hrow' h.L rfl).trans h.L, (grownBy_keeps hg hrow' h.K rfl).trans h.K,
  h.below.grown hg h.below.size (fun k e => Nat.le_trans hB (hrow k e).1)⟩
theorem appendSeqU (F : Fence) (n : Nat) (h11 : F.fn 333) (hro : F.round = none) (hn : 2 ≤ n) (g : Nat) (lb : Array Value) (hFg : F.fn g) (eg : ∀ args w, (callFunc g args).run Tryz.prog w = .ok (.enter g args) w)
    (w : World) (hseq : SeqGives F (n - 1) Tryz.prog g lb kvU (fun ss => ss = []) 0 w) :
    CallsIn F n Tryz.prog 333 #[.slice none 0 0, .func (.func g) #[] lb] w fun e w' => e = .returned (.slice none 0 0) ∧ Below w.heap.size w w' := by
  have h1 : 1 ≤ n := by omega
  refine callsIn_of_wp_marks Tryz.func333 rfl h11 ?_ hro;simp only [Tryz.ntmps333, List.size_toArray, List.length_cons, List.length_nil, Nat.reduceAdd, Nat.reduceSub, Array.replicate_succ, Array.replicate_zero, List.push_toArray, List.append_toArray, List.nil_append, List.cons_append]
  gi_wp2
  refine wpIn_rangeFunc ?_;intro fn hfn;rw [hro];obtain ⟨W0, hW0⟩ : ∃ W0, w.alloc (.cells #[.slice none 0 0] 30) = W0 := ⟨_, rfl⟩;have hs0 : W0.heap.size = w.heap.size + 1 := by rw [← hW0]; simp
  have hv0 : W0.heap[w.heap.size]? = some (.cells #[.slice none 0 0] 30 (0, 0)) := by rw [← hW0]; exact World.alloc_heap_new w _
  have hb0 : Below w.heap.size w W0 := by rw [← hW0]; exact (Below.refl _ w).alloc (Nat.le_refl _) _
  rw [hW0];obtain ⟨asg, bod, hcode⟩ : ∃ asg bod, (Tryz.f333.body).bind rfOf = some (asg, bod) := ⟨_, _, rfl⟩;have hc := hcode;simp only [Tryz.f333, rfOf, Option.bind_some, Option.some.injEq, Prod.mk.injEq] at hc;obtain ⟨hca, hcb⟩ := hc;obtain ⟨W1, hW1⟩ : ∃ W1, (W0.alloc (.deferred (some []))).alloc (.loop (apRecU asg bod fn (.func (.func g) #[] lb) w.heap.size W0.heap.size .ready none)) = W1 := ⟨_, rfl⟩
  have hold : ∀ k, k < W0.heap.size → W1.heap[k]? = W0.heap[k]? := fun k hk => by
    rw [← hW1]; exact (Below.heap_alloc _ _ k (by simp; omega)).trans (Below.heap_alloc _ _ k hk)
  have hb1 : Below w.heap.size w W1 := by rw [← hW1]; exact (hb0.alloc hb0.size _).alloc (by have := hb0.size; simp; omega) _
  have hs1 : W1.heap.size = W0.heap.size + 2 := by rw [← hW1]; simp
  have hM : ApAtU asg bod w fn (.func (.func g) #[] lb) w.heap.size (W0.heap.size + 1) W0.heap.size [] W1 :=
    ⟨rfl, (hold w.heap.size (by omega)).trans hv0,
     by rw [← hW1]; have := World.alloc_heap_new (W0.alloc (.deferred (some []))) (.loop (apRecU asg bod fn (.func (.func g) #[] lb) w.heap.size W0.heap.size .ready none)); rwa [World.size_alloc] at this,
     by rw [← hW1]; exact (Below.heap_alloc _ _ _ (by simp)).trans (World.alloc_heap_new W0 _), hb1⟩
  refine ⟨W0.heap.size + 1, [{ target := .collected W0.heap.size, args := #[] }], W1, { target := .fn (.func g) lb, args := #[.func (.yield (W0.heap.size + 1)) #[] #[]] }, W1, g,
    #[.func (.yield (W0.heap.size + 1)) #[] #[]] ++ lb, W1, ?_, ?_, ?_, ?_, fun _ => h1, ?_⟩
  · rw [← hW1, ← hca, ← hcb]; exact run_enterLoop_outer _ _ _ _ _
  · simp [resolve, go_sem]
  · intro f' hf'; simp [Target.leads] at hf'; subst hf'; exact hFg
  · simp [invoke, go_sem, eg]
  · refine (hseq (W0.heap.size + 1) (ApAtU asg bod w fn (.func (.func g) #[] lb) w.heap.size (W0.heap.size + 1) W0.heap.size) W1 hb1 (ap_abidesU _ _ _ _ _ _ _ _ _ hb1.size)
      (fun pre x W hJ hl => absurd hl (Nat.not_lt_zero _)) hM).mono ?_
    rintro e W2 ⟨⟨v0, rfl⟩, ss, hS, h2⟩;have hv := h2.box;have hend := run_endLoop (P := Tryz.prog) h2.L (by simp [apRecU]);obtain ⟨W3, hW3⟩ : ∃ W3, W2.putObj (W0.heap.size + 1) (.loop { apRecU asg bod fn (.func (.func g) #[] lb) w.heap.size W0.heap.size .ready none with state := .exhausted }) = W3 := ⟨_, rfl⟩;rw [hW3] at hend;have hg3 : W2.grownBy W3 (some (W0.heap.size + 1)) := by rw [← hW3]; exact grownBy_putObj_a _ _ _
    have hv3 : W3.heap[w.heap.size]? = some (.cells #[.slice none 0 0] 30 (0, 0)) := by rw [← hW3]; exact (World.putObj_heap_other (by omega)).trans hv
    have hK3 : W3.heap[W0.heap.size]? = some (.deferred (some [])) := by rw [← hW3]; exact (World.putObj_heap_other (by omega)).trans h2.K
    have hb3 : Below w.heap.size w W3 := h2.below.grown hg3 h2.below.size (fun k e => by cases e; omega);obtain ⟨hc3, hf3⟩ := cell_of_box_a hv3;clear hW3;refine ⟨none, W3, hend, ?_⟩
    gi_wp2
    rw [← hs0];refine ⟨by simp, .inl ⟨_, _, rfl, run_takeDeferred hK3, ?_⟩⟩;exact ⟨_, results_tmp rfl _ _ _, rfl, hb3.grown (grownBy_putObj_a _ _ _) hb3.size (fun k e => by cases e; omega)⟩
theorem collectU (F : Fence) (n : Nat) (h8 : F.fn 235) (h11 : F.fn 333) (hro : F.round = none) (hn : 3 ≤ n) (g : Nat) (lb : Array Value) (hFg : F.fn g) (eg : ∀ args w, (callFunc g args).run Tryz.prog w = .ok (.enter g args) w)
  (w : World) (hseq : SeqGives F (n - 1 - 1) Tryz.prog g lb kvU (fun ss => ss = []) 0 w) :
  CallsIn F n Tryz.prog 235 #[.func (.func g) #[] lb] w fun e w' => e = .returned (.slice none 0 0) ∧ Below w.heap.size w w' := by
 have h1 : 1 ≤ n := by omega
 refine callsIn_of_wp Tryz.func235 rfl h8 ?_ hro;simp only [Tryz.ntmps235, List.size_toArray, List.length_cons, List.length_nil, Nat.reduceAdd, Nat.reduceSub, Array.replicate_succ, Array.replicate_zero, List.push_toArray, List.append_toArray, List.nil_append, List.cons_append]
 gi_wp2
 refine (appendSeqU F (n - 1) h11 hro (by omega) g lb hFg eg _ hseq).mono ?_;rintro e w' ⟨rfl, hb⟩
 gi_wp2
 go_ret;exact ⟨rfl, hb⟩
def collectES (k : Nat) : Sp
 | [.fn k' [.mp i]], M => if k' = k then (match M[i]? with
   | some (.mapo []) => some { av := .sl [] .no }
   | _ => none) else none
 | _, _ => none
theorem fn_invU {g : G} {f : Nat} {i : Nat} {v : Value} (h : R g (.fn f [.mp i]) v) : ∃ b, v = .func (.func f) #[] #[.pointer (some ⟨b, 0, none⟩)] ∧ g.w.cell? ⟨b, 0, none⟩ = some (.map (some (g.β i))) ∧ i < g.M.length := by
 cases h with
 | fn _ _ bs us h1 h2 h3 =>
   have h4 := h3 0 (by simp);simp only [List.getElem_cons_zero] at h4;generalize hu : us 0 = u at h4;cases h4 with
   | mp _ hi =>
     refine ⟨bs 0, by simp [List.range_succ], ?_, hi⟩;have := h1 0 (by simp);rw [hu] at this; exact this
theorem collectE_ok : SpecOk Tryz.prog 235 (collectES 237) := by
 intro l M out h;unfold collectES at h;split at h
 ·rename_i k' i;split at h
  ·rename_i hk;subst hk;split at h
   ·rename_i hMi;cases h;intro g vs hM sm hr ho;subst hM;cases hr with | cons hv hr => cases hr with | nil =>
    obtain ⟨b, rfl, hcell, hi⟩ := fn_invU hv;refine ⟨enters_of Tryz.func235 (by kernel_rfl) rfl _ _, ?_⟩;obtain ⟨ents, clock, hh, hst, he⟩ := map_at sm hMi
    have hn : ents = #[] := by
     obtain ⟨es⟩ := ents;cases es with
     | nil => rfl
     | cons x r => cases he
    subst hn
    have hseq : SeqGives Fence.wide (5 - 1 - 1) Tryz.prog 237 #[.pointer (some ⟨b, 0, none⟩)] kvU (fun ss => ss = []) 0 g.w := fun l J W hW hJ _ h0 =>
     keysU_in Fence.wide _ trivial rfl (by omega) l b (g.β i) clock J W hJ ((hW.cell (p := ⟨b, 0, none⟩) (cell_lt hcell)).trans hcell) ((hW.block (g.β i) (Array.getElem?_eq_some_iff.1 hh).1).trans hh) h0
    have hcol := (callsIn_wide (n := 5)).1 (collectU Fence.wide 5 trivial trivial rfl (by omega) 237 #[.pointer (some ⟨b, 0, none⟩)] trivial
     (enters_of Tryz.func237 (by kernel_rfl) rfl) g.w hseq)
    refine hcol.mono ?_;rintro e w' ⟨rfl, hbel⟩;exact ⟨_, rfl, g.β, g.ρ, by simp only [G.out, Option.getD_none]; exact sim_below hbel sm, .nil _ trivial, by simp only [G.out, Option.getD_none]; exact keep_below hbel⟩
   ·cases h
  ·cases h
 ·cases h
end Go.Ab
end
section
namespace Go.Ab
open Go.Proofs Go.RowKit
@[simp] noncomputable def isLetterS : Sp
  | [.lit (.int .i32 r)], _ => some { av := .lit (.bool (letterR r)), obl := I32B r }
  | _, _ => none
@[simp] noncomputable def isDigitS : Sp
  | [.lit (.int .i32 r)], _ => some { av := .lit (.bool (digitR r)), obl := I32B r }
  | _, _ => none
@[simp] noncomputable def toLowerS : Sp
  | [.lit (.int .i32 r)], _ => some { av := .lit (.int .i32 (lowerR r)) }
  | _, _ => none
theorem ok_below {P : Program} {f : FuncId} {g : G} {vs : List Value} {v : Value} (hent : ∀ args w, (callFunc f args).run P w = .ok (.enter f args) w) (sm : Sim g)
  (hc : Calls P f vs.toArray g.w fun e w' => e = .returned v ∧ Below g.w.heap.size g.w w') {ob : Prop} : 
  (callFunc f vs.toArray).run P g.w = .ok (.enter f vs.toArray) g.w ∧ Calls P f vs.toArray g.w fun e w' => ∃ u, e = .returned u ∧ Post g { av := .lit v, obl := ob } u w' := by
 refine ⟨hent _ _, hc.mono ?_⟩;rintro e w' ⟨rfl, hb⟩;exact ⟨v, rfl, g.β, g.ρ, sim_below hb sm, .lit _, keep_below hb⟩
end Go.Ab
namespace Go.Proofs
open Go.RowKit Go.Ab
theorem gax.ok : SpecOk Tryz.prog 75 isLetterS := by
 intro l M out h;unfold isLetterS at h;split at h
 ·rename_i r;cases h;intro g vs hM sm hr ho;cases hr with | cons hv hr => cases hr with | nil =>
  cases hv;exact ok_below (fun _ _ => by kernel_rfl) sm (Any.unicode_IsLetter_all Tryz.laysLetter Tryz.gaB r g.w ho.1 ho.2 sm.fct.here.1 sm.fct.here.2.1)
 ·cases h
theorem gay.ok : SpecOk Tryz.prog 76 isDigitS := by
 intro l M out h;unfold isDigitS at h;split at h
 ·rename_i r;cases h;intro g vs hM sm hr ho;cases hr with | cons hv hr => cases hr with | nil =>
  cases hv;exact ok_below (fun _ _ => by kernel_rfl) sm (Any.unicode_IsDigit_all Tryz.laysDigit r g.w ho.1 ho.2 sm.fct.here.2.2.1)
 ·cases h
theorem gaC.ok : SpecOk Tryz.prog 39 toLowerS := by
 intro l M out h;unfold toLowerS at h;split at h
 ·rename_i r;cases h;intro g vs hM sm hr ho;cases hr with | cons hv hr => cases hr with | nil =>
  cases hv;refine ok_below (fun _ _ => by kernel_rfl) sm ((Any.unicode_ToLower_laid Tryz.laysLower r g.w sm.fct.here.2.2.2.1).mono ?_);rintro e w' ⟨rfl, q, rfl⟩;exact ⟨rfl, below_drewN _ _⟩
 ·cases h
end Go.Proofs
end
section
namespace Go.Ab
open Go.Proofs Go.Lib
theorem index_cons (c b : UInt8) (l : List UInt8) : Lib.index (b :: l) [c] = if b = c then 0 else if Lib.index l [c] = -1 then -1 else Lib.index l [c] + 1 := by
 rw [Lib.index_one, Lib.index_one]
 conv => lhs; unfold Lib.indexByte
 by_cases h : b = c <;> simp [h]
theorem splitL_eq (c : UInt8) : ∀ l : List UInt8, Lib.split l [c] = splitL c l
 | [] => by
   show Lib.splitK [c] 0 (Lib.count [] [c]) [] = [[]];rw [Lib.count_one]; rfl
 | b :: l => by
   have ih := splitL_eq c l;unfold Lib.split at ih ⊢;unfold splitL;by_cases hb : b = c
   ·subst hb;rw [Lib.count_cons_eq, Nat.add_comm 1, Lib.splitK, index_cons];simp only [if_true, beq_self_eq_true, cond_true];rw [if_neg (by decide)];simp only [Int.toNat_zero, Nat.add_zero, List.take_zero, Nat.zero_add, List.length_singleton, List.drop_succ_cons, List.drop_zero];rw [ih]
   ·rw [Lib.count_cons_ne b c l hb, beq_eq_false_iff_ne.2 hb, cond_false];rw [Lib.count_one] at ih ⊢;rw [← ih];cases hk : l.count c with
    | zero => simp [Lib.splitK]
    | succ k =>
      have hm : c ∈ l := List.count_pos_iff.1 (by omega);have hge := Lib.index_ge l [c]
      have hi : Lib.index l [c] ≠ -1 := fun e => by
       have := Lib.count_miss e;rw [Lib.count_one] at this;omega
      unfold Lib.splitK;rw [index_cons, if_neg hb, if_neg hi];obtain ⟨j, hj⟩ : ∃ j : Nat, Lib.index l [c] = j := ⟨(Lib.index l [c]).toNat, by omega⟩;rw [hj];have e1 : (((j : Int) == -1) = true) = False := by simp <;> omega
      have e2 : (((j : Int) + 1 == -1) = true) = False := by simp <;> omega
      simp only [e1, e2, if_false];have e3 : ((j : Int) + 1).toNat = j + 1 := by omega
      rw [e3];simp 
def piecesV (s : ByteArray) (c : UInt8) : List (List AV) := (splitL c s.data.toList).map fun p => [.lit (.string ⟨p.toArray⟩)]
@[simp] theorem piecesV_eq (s : ByteArray) (c : UInt8) : piecesV s c = (splitT s c).map eTxt := by unfold piecesV splitT; rw [List.map_map]; rfl
@[simp] def splitS : Sp
  | [.lit (.string s), .lit (.string p)], _ => match p.data.toList with
    | [c] => some { av := .sl (piecesV s c) .full, obl := s.size < 4294967281 }
    | _ => none
  | _, _ => none
def splitOb (l : List AV) (_ : List AObj) : Bool := match l with
 | [.lit (.string s), _] => decide (s.size < 4294967281)
 | _ => false
theorem splitOb_spec (l : List AV) (M : List AObj) (o : Out) (h : splitS l M = some o) (hb : splitOb l M = true) : o.obl := by
 unfold splitS at h;split at h
 ·split at h
  ·cases h; exact of_decide_eq_true hb
  ·cases h
 ·cases h
end Go.Ab
namespace Go.Proofs
open Go.Ab Go.Shelf
theorem R.pieces {g : G} (sm : Sim g) {t : TypeId} (l : List ByteArray) : R { g with w := g.w.alloc (.cells (l.map Value.string).toArray t) } (.sl (l.map fun p => [.lit (.string p)]) .full) (.slice (some ⟨g.w.heap.size, 0, none⟩) l.length l.length) := by
 have q : R { g with w := g.w.alloc (.cells (l.map Value.string).toArray t) } (.sl (l.map fun p => [.lit (.string p)]) .full) (.slice (some ⟨g.w.heap.size, 0, none⟩) (l.map fun p => [AV.lit (.string p)]).length l.length) := by
  refine .sl _ .full g.w.heap.size 0 1 l.length (fun i _ => .string l[i]!) (fun i hi => by simp) (fun i j hi hj => ?_) (fun i j hi hj hr => ?_) (fun i j hi hj => ?_) (fun i j hi hj => rfl) (by simp [TokOk]) (by simp)
  ·have hi' : i < l.length := by simpa using hi
   have hj0 : j = 0 := by omega
   subst hj0;have hn : (g.w.alloc (.cells (l.map Value.string).toArray t)).heap[g.w.heap.size]? = some (.cells (l.map Value.string).toArray t) := by rw [show (g.w.alloc (.cells (l.map Value.string).toArray t)).heap = g.w.heap.push (.cells (l.map Value.string).toArray t) from rfl]; simp
   simp only [World.cell?, Nat.zero_add, Nat.mul_one, Nat.add_zero, hn, List.getElem?_toArray, List.getElem?_map];simp [hi']
  ·have := sm.inb _ hr;simp only at this;omega
  ·have hi' : i < l.length := by simpa using hi
   have hj0 : j = 0 := by simpa using hj
   subst hj0;simp only [List.getElem_map, List.getElem_singleton];have e : l[i]! = l[i] := by simp [hi']
   rw [e]; exact .lit _
 rw [List.length_map] at q; exact q
theorem gaD.ok : SpecOk Tryz.prog 20 splitS := by
 intro l M out h;unfold splitS at h;split at h
 ·rename_i s p;split at h
  ·rename_i c hc;cases h;intro g vs hM sm hr ho;cases hr with | cons hv hr => cases hr with | cons hp hr => cases hr with | nil =>
   cases hv;cases hp;refine ⟨enters_of Tryz.func20 (by kernel_rfl) rfl _ _, ?_⟩;obtain ⟨m, hm⟩ := sm.fct.here.2.2.2.2;have h1 : p.size = 1 := by rw [Lib.size_eq, hc]; rfl
   refine (Any.strings_Split Tryz.laysSplit (by kernel_rfl) s p m g.w ho hm (by omega)).mono ?_;rintro e w' ⟨rfl, rfl⟩;have hlen := Lib.splitB_all p (by omega) 0 _ s rfl
   have hP : (Lib.splitB p 0 (Lib.countB s p) s).map (fun q => [AV.lit (.string q)]) = piecesV s c := by
    unfold piecesV;rw [← splitL_eq];have e : Lib.split s.data.toList [c] = Lib.splitK p.data.toList 0 (Lib.count s.data.toList p.data.toList) s.data.toList := by rw [hc]; rfl
    rw [e, ← Lib.splitB_data, List.map_map];rfl
   refine ⟨_, rfl, g.β, g.ρ, ?_, ?_, ?_⟩
   ·simp only [G.out, Option.getD_none]; exact sim_push rfl sm
   ·simp only [G.out, Option.getD_none];have q := R.pieces sm (t := Tryz.laysSplit_ren.t 9) (Lib.splitB p 0 (Lib.countB s p) s);rw [hP, hlen] at q; exact q
   ·simp only [G.out, Option.getD_none]; exact keep_push rfl
  ·cases h
 ·cases h
end Go.Proofs
end
section
set_option maxRecDepth 100000
set_option maxHeartbeats 4000000
namespace Go.Proofs
open Go.Ab
@[simp] def gf.m (x0 : List Int) (_x1 : Int) (_x2 : List Int) : List AObj := [.opq (wrO 126 5 x0)]
@[simp] def gf.out (_x0 : List Int) (_x1 : Int) (_x2 : List Int) (r : List Int) : Out := { av := .ptr 0 0, M := some [.opq (wrO 126 5 r)] }
def gf.fin (x0 : List Int) (x1 : Int) (x2 : List Int) (r : List Int) (σ : St) : Prop := finK (gf.out x0 x1 x2 r) (gf.m x0 x1 x2) σ.M (resA Tryz.ty σ.A σ.M Tryz.f102.results.toList)
theorem gf.can (x0 : List Int) (x1 : Int) (x2 : List Int) (r : List Int) (hr : gf x0 x1 x2 = some r) : CallOk Tryz.prog 102 [.ptr 0 0, .lit (.int .i64 x1), .sl (x2.map (eNum .u64)) .no] (gf.m x0 x1 x2) (gf.out x0 x1 x2 r) := by
 unfold gf at hr;have hΓ := (gamL_cons gaF.ok (gamL_nil) : GamOk Tryz.prog _);refine cw Tryz.func102 rfl (by kernel_rfl) rfl rfl (by simp) fun _ _ _ => ?_;refine tq hΓ [] [] ?_;refine tq hΓ [1] [] ?_;refine AWp.seq ?_;refine tq hΓ [13, 14, 15] [2] ?_;refine AWp.loopE (fun (s1 : Int × List Int) (γ1 : Unit) => ⟨[⟨13, none, .sl (x2.map (eNum .u64)) .no⟩, ⟨14, none, .n (lenL x2)⟩, ⟨15, none, .n s1.1⟩, ⟨1, none, .n (minI (maxI x1 1) 8)⟩, ⟨0, none, .ptr 0 0⟩], [.opq (wrO 126 5 s1.2)]⟩) (fun (v1 : List Int) (γ1a : Unit) => ⟨[⟨0, none, .ptr 0 0⟩], [.opq (wrO 126 5 v1)]⟩) (gf.fin x0 x1 x2) hr () 1 (by simp) (fun s1 f γ1 hr => ?_) (fun v1 γ1a σ1 m1 hr hc => ?_) (fun _ h => h)
 ·unfold gf.loop1 at hr;refine tq hΓ [16] [] ?_;refine AWp.seq ?_;refine AWp.cnd hr (by simp) (fun h6 hr => ?_) (fun h6 hr => ?_)
  ·refine AWp.skip ?_;refine AWp.seq ?_;refine AWp.block ?_;obtain ⟨h7, hr⟩ := Lb hr;refine tq hΓ [8] [16] ?_ (by simp [h6, h7]; exact rr);refine tq hΓ [9] [] ?_ (by simp; exact rr);refine AWp.loopE (fun (s2 : Int × List Int) (γ2 : Unit) => ⟨[⟨9, none, .n s2.1⟩, ⟨8, none, .lit (.int .u64 (nthI x2 s1.1))⟩, ⟨13, none, .sl (x2.map (eNum .u64)) .no⟩, ⟨14, none, .n (lenL x2)⟩, ⟨15, none, .n s1.1⟩, ⟨1, none, .n (minI (maxI x1 1) 8)⟩, ⟨0, none, .ptr 0 0⟩], [.opq (wrO 126 5 s2.2)]⟩) (fun (v2 : List Int) (γ2a : Unit) => ⟨[⟨13, none, .sl (x2.map (eNum .u64)) .no⟩, ⟨14, none, .n (lenL x2)⟩, ⟨15, none, .n s1.1⟩, ⟨1, none, .n (minI (maxI x1 1) 8)⟩, ⟨0, none, .ptr 0 0⟩], [.opq (wrO 126 5 v2)]⟩) (QRr (gf.fin x0 x1 x2)) hr () 1 (by simp) (fun s2 f γ2 hr => ?_) (fun v2 γ2a σ1 m1 hr hc => ?_) (fun _ h => QRr_ret h)
   ·unfold gf.loop2 at hr;refine AWp.seq ?_;refine tq hΓ [22] [] ?_ (by simp; exact rr);refine AWp.cnd hr (by simp) (fun h8 hr => ?_) (fun h8 hr => ?_)
    ·refine AWp.skip ?_;refine AWp.seq ?_;refine AWp.block ?_;obtain ⟨h9, hr⟩ := Lb hr;obtain ⟨h10, hr⟩ := Lb hr;refine AWp.lst (AWp.regD Tryz.mixed Tryz.tyOk hΓ [] [22] [] [(false, []), (false, []), (false, []), (false, []), (false, []), (false, []), (false, []), (false, []), (true, [])] (by kernel_rfl) rfl (by simp [h8, h9, h10]; exact rr)) ?_;refine tl hΓ [9] [] ?_ (by simp; exact rr);obtain rfl := La hr;exact Lo () 1 (by first | (simp; done) | simp [h6, h7, h8, h9, h10])
    ·refine AWp.exit ?_;obtain rfl := La hr;exact Lr () 1 (by first | (simp; done) | simp [h6, h7, h8])
   ·refine AWp.conv hc ?_;refine tl hΓ [15] [] ?_ (by simp; exact rr);obtain rfl := La hr;exact Lo () 1 (by first | (simp; done) | simp [h6, h7])
  ·refine AWp.exit ?_;obtain rfl := La hr;exact Lr () 1 (by first | (simp; done) | simp [h6])
 ·refine AWp.conv hc ?_;refine tq hΓ [6] [0] ?_;obtain rfl := La hr;exact AWp.ret (Le (by simp))
@[simp] noncomputable def gf.S : Sp
  | [.ptr i0 0, .lit (.int .i64 x1), .sl e2 _], M => (rdQ M i0).bind fun c0 => some { av := .ptr i0 0, M := some (M.set i0 (.opq (wrO 126 5 ((gf c0.bs x1 (e2.map decI)).getD dflt)))), obl := e2 = (e2.map decI).map (eNum .u64) ∧ c0 = wrO 126 5 c0.bs ∧ (gf c0.bs x1 (e2.map decI)).isSome = true }
  | _, _ => none
theorem gf.ok : SpecOk Tryz.prog 102 gf.S := by
 intro l M out h;unfold gf.S at h;split at h
 ·rename_i i0 x1 e2 k2;obtain ⟨c0, hM0, h⟩ := bQ h;cases h;refine callOk_of fun ho => ?_;obtain ⟨ox2, oc0, hs⟩ := ho;generalize c0.bs = y0 at *
  generalize (e2.map decI) = x2 at *
  subst ox2;subst oc0;obtain ⟨r, hr⟩ := so1 hs;simp only [hr, gd1];have q := Lh (M := M) [i0] (gf.can y0 x1 x2 r hr) (by simp) rfl (ix (by simp [hM0]) ixn);exact callOk_conv q trivial (by simp [into]) (by simp [frameOut, into]) (by simp [frameOut, into])
 ·cases h
@[simp] def gl.m (x0 : List Int) (_x1 : List Int) : List AObj := [.opq (wrO 126 5 x0)]
@[simp] def gl.out (_x0 : List Int) (_x1 : List Int) (r : List Int) : Out := { av := .ptr 0 0, M := some [.opq (wrO 126 5 r)] }
def gl.fin (x0 : List Int) (x1 : List Int) (r : List Int) (σ : St) : Prop := finK (gl.out x0 x1 r) (gl.m x0 x1) σ.M (resA Tryz.ty σ.A σ.M Tryz.f70.results.toList)
theorem gl.can (x0 : List Int) (x1 : List Int) (r : List Int) (hr : gl x0 x1 = some r) : CallOk Tryz.prog 70 [.ptr 0 0, .sl (x1.map (eNum .u16)) .no] (gl.m x0 x1) (gl.out x0 x1 r) := by
 unfold gl at hr;have hΓ := (gamL_cons gf.ok (gamL_nil) : GamOk Tryz.prog _);refine cw Tryz.func70 rfl (by kernel_rfl) rfl rfl (by simp) fun _ _ _ => ?_;refine tq hΓ [] [] ?_;refine AWp.seq ?_;refine tq hΓ [7, 8, 9] [1] ?_;refine AWp.loopE (fun (s1 : Int × List Int) (γ1 : Unit) => ⟨[⟨7, none, .sl (x1.map (eNum .u16)) .no⟩, ⟨8, none, .n (lenL x1)⟩, ⟨9, none, .n s1.1⟩, ⟨0, none, .ptr 0 0⟩], [.opq (wrO 126 5 s1.2)]⟩) (fun (v1 : List Int) (γ1a : Unit) => ⟨[⟨0, none, .ptr 0 0⟩], [.opq (wrO 126 5 v1)]⟩) (gl.fin x0 x1) hr () 1 (by simp) (fun s1 f γ1 hr => ?_) (fun v1 γ1a σ1 m1 hr hc => ?_) (fun _ h => h)
 ·unfold gl.loop1 at hr;refine tq hΓ [10] [] ?_;refine AWp.seq ?_;refine AWp.cnd hr (by simp) (fun h4 hr => ?_) (fun h4 hr => ?_)
  ·refine AWp.skip ?_;refine AWp.seq ?_;refine AWp.block ?_;obtain ⟨h5, hr⟩ := Lb hr;refine tq hΓ [6] [10] ?_ (by simp [h4, h5]; exact rr);obtain ⟨r1, h6, hr⟩ := Ld hr;refine tl hΓ [] [6] ?_ (by simp [h6]; exact rr);refine tl hΓ [9] [] ?_ (by simp; exact rr);obtain rfl := La hr;exact Lo () 1 (by first | (simp; done) | simp [h4, h5, h6])
  ·refine AWp.exit ?_;obtain rfl := La hr;exact Lr () 1 (by first | (simp; done) | simp [h4])
 ·refine AWp.conv hc ?_;refine tq hΓ [4] [0] ?_;obtain rfl := La hr;exact AWp.ret (Le (by simp))
@[simp] noncomputable def gl.S : Sp
  | [.ptr i0 0, .sl e1 _], M => (rdQ M i0).bind fun c0 => some { av := .ptr i0 0, M := some (M.set i0 (.opq (wrO 126 5 ((gl c0.bs (e1.map decI)).getD dflt)))), obl := e1 = (e1.map decI).map (eNum .u16) ∧ c0 = wrO 126 5 c0.bs ∧ (gl c0.bs (e1.map decI)).isSome = true }
  | _, _ => none
theorem gl.ok : SpecOk Tryz.prog 70 gl.S := by
 intro l M out h;unfold gl.S at h;split at h
 ·rename_i i0 e1 k1;obtain ⟨c0, hM0, h⟩ := bQ h;cases h;refine callOk_of fun ho => ?_;obtain ⟨ox1, oc0, hs⟩ := ho;generalize c0.bs = y0 at *
  generalize (e1.map decI) = x1 at *
  subst ox1;subst oc0;obtain ⟨r, hr⟩ := so1 hs;simp only [hr, gd1];have q := Lh (M := M) [i0] (gl.can y0 x1 r hr) (by simp) rfl (ix (by simp [hM0]) ixn);exact callOk_conv q trivial (by simp [into]) (by simp [frameOut, into]) (by simp [frameOut, into])
 ·cases h
@[simp] def gm.m (x0 : List Int) (_x1 : List Int) : List AObj := [.opq (wrO 126 5 x0)]
@[simp] def gm.out (_x0 : List Int) (_x1 : List Int) (r : List Int) : Out := { av := .ptr 0 0, M := some [.opq (wrO 126 5 r)] }
def gm.fin (x0 : List Int) (x1 : List Int) (r : List Int) (σ : St) : Prop := finK (gm.out x0 x1 r) (gm.m x0 x1) σ.M (resA Tryz.ty σ.A σ.M Tryz.f72.results.toList)
theorem gm.can (x0 : List Int) (x1 : List Int) (r : List Int) (hr : gm x0 x1 = some r) : CallOk Tryz.prog 72 [.ptr 0 0, .sl (x1.map (eNum .u32)) .no] (gm.m x0 x1) (gm.out x0 x1 r) := by
 unfold gm at hr;have hΓ := (gamL_cons gf.ok (gamL_nil) : GamOk Tryz.prog _);refine cw Tryz.func72 rfl (by kernel_rfl) rfl rfl (by simp) fun _ _ _ => ?_;refine tq hΓ [] [] ?_;refine AWp.seq ?_;refine tq hΓ [7, 8, 9] [1] ?_;refine AWp.loopE (fun (s1 : Int × List Int) (γ1 : Unit) => ⟨[⟨7, none, .sl (x1.map (eNum .u32)) .no⟩, ⟨8, none, .n (lenL x1)⟩, ⟨9, none, .n s1.1⟩, ⟨0, none, .ptr 0 0⟩], [.opq (wrO 126 5 s1.2)]⟩) (fun (v1 : List Int) (γ1a : Unit) => ⟨[⟨0, none, .ptr 0 0⟩], [.opq (wrO 126 5 v1)]⟩) (gm.fin x0 x1) hr () 1 (by simp) (fun s1 f γ1 hr => ?_) (fun v1 γ1a σ1 m1 hr hc => ?_) (fun _ h => h)
 ·unfold gm.loop1 at hr;refine tq hΓ [10] [] ?_;refine AWp.seq ?_;refine AWp.cnd hr (by simp) (fun h4 hr => ?_) (fun h4 hr => ?_)
  ·refine AWp.skip ?_;refine AWp.seq ?_;refine AWp.block ?_;obtain ⟨h5, hr⟩ := Lb hr;refine tq hΓ [6] [10] ?_ (by simp [h4, h5]; exact rr);obtain ⟨r1, h6, hr⟩ := Ld hr;refine tl hΓ [] [6] ?_ (by simp [h6]; exact rr);refine tl hΓ [9] [] ?_ (by simp; exact rr);obtain rfl := La hr;exact Lo () 1 (by first | (simp; done) | simp [h4, h5, h6])
  ·refine AWp.exit ?_;obtain rfl := La hr;exact Lr () 1 (by first | (simp; done) | simp [h4])
 ·refine AWp.conv hc ?_;refine tq hΓ [4] [0] ?_;obtain rfl := La hr;exact AWp.ret (Le (by simp))
@[simp] noncomputable def gm.S : Sp
  | [.ptr i0 0, .sl e1 _], M => (rdQ M i0).bind fun c0 => some { av := .ptr i0 0, M := some (M.set i0 (.opq (wrO 126 5 ((gm c0.bs (e1.map decI)).getD dflt)))), obl := e1 = (e1.map decI).map (eNum .u32) ∧ c0 = wrO 126 5 c0.bs ∧ (gm c0.bs (e1.map decI)).isSome = true }
  | _, _ => none
theorem gm.ok : SpecOk Tryz.prog 72 gm.S := by
 intro l M out h;unfold gm.S at h;split at h
 ·rename_i i0 e1 k1;obtain ⟨c0, hM0, h⟩ := bQ h;cases h;refine callOk_of fun ho => ?_;obtain ⟨ox1, oc0, hs⟩ := ho;generalize c0.bs = y0 at *
  generalize (e1.map decI) = x1 at *
  subst ox1;subst oc0;obtain ⟨r, hr⟩ := so1 hs;simp only [hr, gd1];have q := Lh (M := M) [i0] (gm.can y0 x1 r hr) (by simp) rfl (ix (by simp [hM0]) ixn);exact callOk_conv q trivial (by simp [into]) (by simp [frameOut, into]) (by simp [frameOut, into])
 ·cases h
@[simp] def gn.m (x0 : List Int) (_x1 : List ByteArray) : List AObj := [.opq (wrO 126 5 x0)]
@[simp] def gn.out (_x0 : List Int) (_x1 : List ByteArray) (r : List Int) : Out := { av := .ptr 0 0, M := some [.opq (wrO 126 5 r)] }
def gn.fin (x0 : List Int) (x1 : List ByteArray) (r : List Int) (σ : St) : Prop := finK (gn.out x0 x1 r) (gn.m x0 x1) σ.M (resA Tryz.ty σ.A σ.M Tryz.f69.results.toList)
theorem gn.can (x0 : List Int) (x1 : List ByteArray) (r : List Int) (hr : gn x0 x1 = some r) : CallOk Tryz.prog 69 [.ptr 0 0, .sl (x1.map eTxt) .no] (gn.m x0 x1) (gn.out x0 x1 r) := by
 unfold gn at hr;have hΓ := (gamL_cons gaG.ok (gamL_nil) : GamOk Tryz.prog _);refine cw Tryz.func69 rfl (by kernel_rfl) rfl rfl (by simp) fun _ _ _ => ?_;refine tq hΓ [] [] ?_;refine AWp.seq ?_;refine tq hΓ [7, 8, 9] [1] ?_;refine AWp.loopE (fun (s1 : Int × List Int) (γ1 : Unit) => ⟨[⟨7, none, .sl (x1.map eTxt) .no⟩, ⟨8, none, .n (lenL x1)⟩, ⟨9, none, .n s1.1⟩, ⟨0, none, .ptr 0 0⟩], [.opq (wrO 126 5 s1.2)]⟩) (fun (v1 : List Int) (γ1a : Unit) => ⟨[⟨0, none, .ptr 0 0⟩], [.opq (wrO 126 5 v1)]⟩) (gn.fin x0 x1) hr () 1 (by simp) (fun s1 f γ1 hr => ?_) (fun v1 γ1a σ1 m1 hr hc => ?_) (fun _ h => h)
 ·unfold gn.loop1 at hr;refine tq hΓ [10] [] ?_;refine AWp.seq ?_;refine AWp.cnd hr (by simp) (fun h5 hr => ?_) (fun h5 hr => ?_)
  ·refine AWp.skip ?_;refine AWp.seq ?_;refine AWp.block ?_;obtain ⟨h6, hr⟩ := Lb hr;refine tq hΓ [6] [10] ?_ (by simp [h5, h6]; exact rr);obtain ⟨h7, hr⟩ := Lb hr;obtain ⟨h8, hr⟩ := Lb hr;refine tl hΓ [] [6] ?_ (by simp [h7, h8]; exact rr);refine tl hΓ [9] [] ?_ (by simp; exact rr);obtain rfl := La hr;exact Lo () 1 (by first | (simp; done) | simp [h5, h6, h7, h8])
  ·refine AWp.exit ?_;obtain rfl := La hr;exact Lr () 1 (by first | (simp; done) | simp [h5])
 ·refine AWp.conv hc ?_;refine tq hΓ [4] [0] ?_;obtain rfl := La hr;exact AWp.ret (Le (by simp))
@[simp] noncomputable def gn.S : Sp
  | [.ptr i0 0, .sl e1 _], M => (rdQ M i0).bind fun c0 => some { av := .ptr i0 0, M := some (M.set i0 (.opq (wrO 126 5 ((gn c0.bs (e1.map decS)).getD dflt)))), obl := e1 = (e1.map decS).map eTxt ∧ c0 = wrO 126 5 c0.bs ∧ (gn c0.bs (e1.map decS)).isSome = true }
  | _, _ => none
theorem gn.ok : SpecOk Tryz.prog 69 gn.S := by
 intro l M out h;unfold gn.S at h;split at h
 ·rename_i i0 e1 k1;obtain ⟨c0, hM0, h⟩ := bQ h;cases h;refine callOk_of fun ho => ?_;obtain ⟨ox1, oc0, hs⟩ := ho;generalize c0.bs = y0 at *
  generalize (e1.map decS) = x1 at *
  subst ox1;subst oc0;obtain ⟨r, hr⟩ := so1 hs;simp only [hr, gd1];have q := Lh (M := M) [i0] (gn.can y0 x1 r hr) (by simp) rfl (ix (by simp [hM0]) ixn);exact callOk_conv q trivial (by simp [into]) (by simp [frameOut, into]) (by simp [frameOut, into])
 ·cases h
end Go.Proofs
end
