import Derived.Test.YtpamnignoocogaaGreatDoorM07
import Derived.Test.YtpamnignoocogaaGreatDoorM11
import Derived.Test.YtpamnignoocogaaGreatDoorTy
import Derived.Laws.Externs
import Derived.Lib.UnsafeStr
import Derived.Shelf.RegionOpenPlain
import Derived.Maps.OwnSet
import Derived.Test.YtpamnignoocogaaGreatDoorM03
import Derived.Shelf.SlIterI.Nil
import Derived.WideShapes
import Derived.Test.YtpamnignoocogaaGreatDoorAb5
import Derived.ChangeBears
import Derived.KernelRfl
section
namespace Go.Ab
attribute [simp] entry2Out entryKOut entryOut curR
variable {P : Program} {n B : Nat} {Q : Exit → St → Prop} {σ : St} {ty : TyTab} {Γ : Gam}
end Go.Ab
end
section
namespace Go.Proofs
open Go.RowKit Go.Ab
theorem Tryz.ccSize : (Tryz.prog.info? 81).map (·.size) = some 2 := by kernel_rfl
theorem Tryz.ccLies : liesAt Tryz.prog Tryz.prog.depth 126 (2 / Tryz.prog.cellsOf 126) 0 81 1 = true := by kernel_rfl
theorem Tryz.byteI : (Tryz.prog.info? 5).map (fun i => (i.zero, i.size, i.bytes)) = some (some (.int .u8 0), 1, 1) := by kernel_rfl
set_option maxHeartbeats 1000000 in
set_option maxRecDepth 100000 in
theorem Tryz.ccFresh (b : Nat) (w : World) (v : Value) (hb : w.heap[b]? = some (.cells #[.pointer none, v] 126 (0, 0))) :
  Calls Tryz.prog 57 #[.pointer (some ⟨b, 0, none⟩)] w fun e w' => e = .returned (.tuple #[]) ∧ w' = w.setCell ⟨b, 0, none⟩ (.pointer (some ⟨b, 0, none⟩)) := by
 obtain ⟨j, hj, hjs⟩ := Option.map_eq_some_iff.1 Tryz.ccSize;have h0 : w.cell? ⟨b, 0, none⟩ = some (.pointer none) := by rw [Lib.cell_of_heap hb]; rfl
 have hsh : w.shape? b = some (126, 2) := by simp [World.shape?, hb]
 have hfz : w.frozen? ⟨b, 0, none⟩ = false := Lib.frozen_of_heap hb 0
 go_enter Tryz.func57, Tryz.ntmps57
 go_wp2;rw [Lib.run_to_unsafe w ⟨b, 0, none⟩ Tryz.underlying79 Tryz.underlying163 hj (by rw [hjs]; decide) hsh (Nat.zero_lt_succ 1)];simp only [Result.andThen];rw [Oper.upon_value];go_wp2;rw [run_callFunc_extern Tryz.func93 (by kernel_rfl) (by kernel_rfl) (by kernel_rfl) (e := Extern.AbiNoEscape.same) (by kernel_rfl)];rw [Lib.run_noEscape];simp only [Result.andThen];rw [Oper.upon_value];go_wp2;rw [Lib.run_from_unsafe w ⟨b, 0, none⟩ Tryz.underlying163 Tryz.underlying79 hj hsh Tryz.ccLies];simp only [Result.andThen];rw [Oper.upon_value];go_wp2
 go_end0
 exact ⟨rfl, rfl⟩
set_option maxHeartbeats 1000000 in
set_option maxRecDepth 100000 in
theorem Tryz.ccUsed (b : Nat) (w : World) (v : Value) (hb : w.heap[b]? = some (.cells #[.pointer (some ⟨b, 0, none⟩), v] 126 (0, 0))) :
  Calls Tryz.prog 57 #[.pointer (some ⟨b, 0, none⟩)] w fun e w' => e = .returned (.tuple #[]) ∧ w' = w := by
 obtain ⟨j, hj, hjs⟩ := Option.map_eq_some_iff.1 Tryz.ccSize;have h0 : w.cell? ⟨b, 0, none⟩ = some (.pointer (some ⟨b, 0, none⟩)) := by rw [Lib.cell_of_heap hb]; rfl
 go_enter Tryz.func57, Tryz.ntmps57
 go_wp2;rw [Lib.run_neq_ptr_same w _ Tryz.underlying79 hj];go_wp2
 go_end0
 exact ⟨rfl, rfl⟩
theorem Tryz.ccAny (b : Nat) (w : World) (p v : Value) (n : Nat) (xs : List Value) (hb : w.heap[b]? = some (.cells #[p, v] 126 (0, 0))) (hp : p = .pointer none ∨ p = .pointer (some ⟨b, 0, none⟩))
  (hown : w.ownsRow 0 5 1 v n xs) (hne : v.ownBlock ≠ some b) :
  Calls Tryz.prog 57 #[.pointer (some ⟨b, 0, none⟩)] w fun e w' => e = .returned (.tuple #[]) ∧ w'.heap[b]? = some (.cells #[.pointer (some ⟨b, 0, none⟩), v] 126 (0, 0)) ∧
   w'.ownsRow 0 5 1 v n xs ∧ w'.heap.size = w.heap.size ∧ WrKeep b v.ownBlock w w' ∧ ∀ k, k ≠ b → w'.heap[k]? = w.heap[k]? := by
 rcases hp with rfl | rfl
 ·refine (Tryz.ccFresh b w v hb).mono ?_;rintro e w' ⟨rfl, rfl⟩;refine ⟨rfl, by simp [World.setCell, Array.getElem?_modify, hb], ?_, by simp [World.setCell], WrKeep.setCell _ _ _ _ _, fun k hk => heap_setCell_ne hk⟩;exact hown.kept (row := some b) ⟨rfl, rfl, rfl, by simp [World.setCell], fun k _ hk => heap_setCell_ne (fun e => hk (by simp [e]))⟩ (.inr hne)
 ·refine (Tryz.ccUsed b w v hb).mono ?_;rintro e w' ⟨rfl, rfl⟩;exact ⟨rfl, hb, hown, rfl, WrKeep.refl _ _ _, fun _ _ => rfl⟩
end Go.Proofs
end
section
namespace Go.Proofs
open Go.RowKit Go.Ab
theorem hidW {p : Prop} (h : p) : Hid p := h
set_option maxHeartbeats 2000000 in
set_option maxRecDepth 100000 in
theorem Tryz.writeW (b : Nat) (w : World) (p v : Value) (n : Nat) (xs : List Value) (hb : w.heap[b]? = some (.cells #[p, v] 126 (0, 0))) (hp : p = .pointer none ∨ p = .pointer (some ⟨b, 0, none⟩))
  (hown : w.ownsRow 0 5 1 v n xs) (hne : v.ownBlock ≠ some b) (ad : Addr) (m c : Nat) (news : List Value) (hl : news.length = m) (hm : 0 < m) (hnews : ∀ j u, news[j]? = some u → w.cell? (ad.add j) = some u)
  (h1 : ∀ u ∈ news, u.oneCell' = true) (hap : ∀ j, (ad.add j).block ≠ b) (hbytes : n + m ≤ 140737488355328) :
  Calls Tryz.prog 100 #[.pointer (some ⟨b, 0, none⟩), .slice (some ad) m c] w fun e w' => e = .returned (.tuple #[.int .i64 m, .nilIface]) ∧
   ∃ v', w'.heap[b]? = some (.cells #[.pointer (some ⟨b, 0, none⟩), v'] 126 (0, 0)) ∧ w'.ownsRow 0 5 1 v' (n + m) (xs ++ news) ∧ v'.ownBlock ≠ some b ∧ WrKeep b v.ownBlock w w' ∧
     (v'.ownBlock = v.ownBlock ∨ v'.ownBlock = some w.heap.size) ∧ ∀ g, v'.ownBlock = some g → g < w'.heap.size := by
 have hbl : b < w.heap.size := by
  rcases Nat.lt_or_ge b w.heap.size with h | h
  ·exact h
  ·simp [Array.getElem?_eq_none h] at hb
 have H1 := hidW (Tryz.ccAny b w p v n xs hb hp hown hne);have H2 := hidW (show _ ∧ _ ∧ _ ∧ _ ∧ _ ∧ _ from ⟨hbl, hne, hnews, h1, hap, hl⟩);clear hb hp hown hne hnews h1 hap hbl hl
 go_enter Tryz.func100, Tryz.ntmps100
 go_wp2_with (go_at_call 57; refine H1.out.mono ?_);rintro e w1 ⟨rfl, hb1, hown1, hsz1, hk1, hall1⟩;obtain ⟨hbl, hne, hnews, h1, hap, hl⟩ := H2.out;obtain ⟨i0, hi, hz⟩ := Option.map_eq_some_iff.1 Tryz.byteI;simp only [Prod.mk.injEq] at hz;obtain ⟨hz0, hz1, hz2⟩ := hz
 have hnews1 : ∀ j u, news[j]? = some u → w1.cell? (ad.add j) = some u := fun j u hj => by
  rw [← hnews j u hj]; simp only [World.cell?]; rw [hall1 _ (hap j)]
 have hsrc : Src Tryz.prog 1 77 (.slice (some ad) m c) m news w1 := Src.ofSlice w1 Tryz.underlying77 ad m c news (by omega) hnews1 h1;have Hs := hidW hsrc;have Hi := hidW (show _ ∧ _ ∧ _ ∧ _ from ⟨hi, hz0, hz1, hz2⟩);have Hk := hidW (show _ ∧ _ from ⟨hk1, hsz1⟩);have Ho := hidW hown1;have Hn := hidW hne;have Hb := hidW hb1;have Hl := hidW hbl;have c0 : w1.cell? ⟨b, 0, none⟩ = some (.pointer (some ⟨b, 0, none⟩)) := by rw [Lib.cell_of_heap hb1]; rfl
 have c1 : w1.cell? ⟨b, 1, none⟩ = some v := by rw [Lib.cell_of_heap hb1]; rfl
 clear hall1 hk1 hsz1 hown1 hne hb1 hsrc hnews1 hnews h1 hap hi hz0 hz1 hz2 hbl hl H1 H2;go_wp2_with (at_builtin; refine wpList_append_w rfl _ _ 77 77 rfl 5 i0 _ Tryz.underlying77 Hi.out.1 Hi.out.2.1 Hi.out.2.2.1 Hi.out.2.2.2 rfl _ _ _ rfl Ho.out _ rfl m news Hs.out hm hbytes ?_);intro v' w2 hown' hgrow hblk' hnn;obtain ⟨hk1, hsz1⟩ := Hk.out;have hne := Hn.out;have hb1 := Hb.out;have hbl := Hl.out;have hlt : b < w1.heap.size := by omega
 have hne' : v'.ownBlock ≠ some b := by
  rcases hblk' with h | h
  ·rw [h]; exact hne
  ·rw [h]; intro e; simp only [Option.some.injEq] at e; omega
 have hb2 : w2.heap[b]? = some (.cells #[.pointer (some ⟨b, 0, none⟩), v] 126 (0, 0)) := by
  rw [hgrow.block b hlt (fun e => hne e.symm)];exact hb1
 have fin : ∀ w3, w3 = w2.setCell ⟨b, 1, none⟩ v' → w3.heap[b]? = some (.cells #[.pointer (some ⟨b, 0, none⟩), v'] 126 (0, 0)) ∧ w3.ownsRow 0 5 1 v' (n + m) (xs ++ news) ∧ v'.ownBlock ≠ some b ∧ WrKeep b v.ownBlock w w3 ∧
    (v'.ownBlock = v.ownBlock ∨ v'.ownBlock = some w.heap.size) ∧ ∀ g, v'.ownBlock = some g → g < w3.heap.size := by
  rintro w3 rfl;refine ⟨by simp [World.setCell, Array.getElem?_modify, hb2], ?_, hne', (hk1.trans (WrKeep.grown hgrow)).trans (WrKeep.setCell _ _ _ _ _), by rw [hsz1] at hblk'; exact hblk', fun q hq => ?_⟩
  ·exact hown'.kept (row := some b) ⟨rfl, rfl, rfl, by simp [World.setCell], fun k _ hk => heap_setCell_ne (fun e => hk (by simp [e]))⟩ (.inr hne')
  ·rcases hown'.2 with ⟨_, h⟩ | ⟨g', cap', cur, hv, _, ho, _⟩
   ·omega
   ·subst hv;simp only [Value.ownBlock, Option.some.injEq] at hq;subst hq;simp only [World.setCell, Array.size_modify];rcases Nat.lt_or_ge g' w2.heap.size with h | h
    ·exact h
    ·simp [Array.getElem?_eq_none h] at ho
 have Hf := hidW fin;have d0 : w2.cell? ⟨b, 0, none⟩ = some (.pointer (some ⟨b, 0, none⟩)) := by rw [Lib.cell_of_heap hb2]; rfl
 have d1 : w2.cell? ⟨b, 1, none⟩ = some v := by rw [Lib.cell_of_heap hb2]; rfl
 have f1 : w2.frozen? ⟨b, 1, none⟩ = false := Lib.frozen_of_heap hb2 1
 obtain ⟨g, cap, hv'⟩ : ∃ g cap, v' = .slice (some ⟨g, 0, none⟩) (n + m) cap := by
  rcases hown'.2 with ⟨_, h⟩ | ⟨g, cap, cur, hv, _⟩
  ·omega
  ·exact ⟨_, _, hv⟩
 subst hv';clear hown' hgrow hblk' hnn hne' hk1 hsz1 hne hb1 hbl hlt hb2 fin;go_wp2
 go_ret2
 exact ⟨rfl, _, Hf.out _ rfl⟩
theorem Tryz.byteC : Tryz.prog.cellsOf 5 = 1 := by kernel_rfl
set_option maxHeartbeats 1000000 in
set_option maxRecDepth 100000 in
theorem Tryz.stringW (b g cap : Nat) (w : World) (p : Value) (l : List UInt8) (cur : Array Value) (hb : w.heap[b]? = some (.cells #[p, .slice (some ⟨g, 0, none⟩) l.length cap] 126 (0, 0)))
  (hg : w.heap[g]? = some (.cells cur 5 (0, 0))) (hnc : l.length ≤ cap) (hcm : cap ≤ maxLen) (hcs : cur.size = cap) (ht : cur.toList.take l.length = Lib.byteCells l) (h0 : l ≠ []) :
  Calls Tryz.prog 30 #[.pointer (some ⟨b, 0, none⟩)] w fun e w' => e = .returned (.string ⟨l.toArray⟩) ∧ WrKeep b (some g) w w' ∧ w'.heap.size = w.heap.size := by
 have hl0 : l.length ≠ 0 := by simpa using h0
 have c1 : w.drew.cell? ⟨b, 1, none⟩ = some (.slice (some ⟨g, 0, none⟩) l.length cap) := by
  have : w.drew.heap[b]? = some (.cells #[p, .slice (some ⟨g, 0, none⟩) l.length cap] 126 (0, 0)) := hb;rw [Lib.cell_of_heap this]; rfl
 have hSD : (Builtin.unsafeSliceData_ #[77] 118 #[.slice (some ⟨g, 0, none⟩) l.length cap]).run Tryz.prog w.drew = .ok (.pointer (some ⟨g, 0, none⟩)) w.drew :=
  Lib.run_unsafeSliceData_row _ _ _ _ _ _ (by omega)
 have hUS : (Builtin.unsafeString_ #[118, 3] 9 #[.pointer (some ⟨g, 0, none⟩), .int .i64 l.length]).run Tryz.prog w.drew = .ok (.string ⟨l.toArray⟩) (w.drew.freeze ⟨g, 0, none⟩ l.length) := by
  refine Lib.run_unsafeString_row w.drew 118 3 9 5 Tryz.underlying118 Tryz.byteC g cur.size (by have hg' : w.drew.heap[g]? = some (.cells cur 5 (0, 0)) := hg; simp [World.shape?, hg']) l h0 (by omega) (by unfold maxLen at hcm; omega) ?_;intro j x hx;have hadd : (⟨g, 0, none⟩ : Addr).add j = ⟨g, j, none⟩ := by unfold Addr.add; split <;> simp_all
  have hj : (cur.toList.take l.length)[j]? = some (.int .u8 x.toNat) := by rw [ht]; simp [Lib.byteCells, hx]
  rw [List.getElem?_take] at hj;split at hj
  ·show w.cell? _ = _;rw [hadd];simp only [World.cell?, hg];simpa using hj
  ·cases hj
 have Hf := hidW (show WrKeep b (some g) w (w.drew.freeze ⟨g, 0, none⟩ l.length) ∧ (w.drew.freeze ⟨g, 0, none⟩ l.length).heap.size = w.heap.size from by
  unfold World.freeze;rw [if_neg hl0];refine ⟨⟨by simp, rfl, rfl, fun k _ _ hk => ?_⟩, by simp⟩;simp only [Array.getElem?_modify];rw [if_neg (fun e => hk (by rw [e]))];rfl)
 clear hb hg hnc hcm hcs ht h0 hl0
 go_enter Tryz.func30, Tryz.ntmps30
 go_wp2
 go_region
 all_goals (go_wp2; go_ret; exact ⟨rfl, Hf.out⟩)
end Go.Proofs
end
section
namespace Go.Ab
theorem keep_below {g : G} {w' : World} (h : RowKit.Below g.w.heap.size g.w w') : Keep g { g with w := w' } where
 len := Nat.le_refl _
 ptr _ _ := rfl
 rooms _ _ e h := ⟨e, h, Nat.le_refl _, fun _ => rfl⟩
 size := h.size
 cells a x hx _ := by rw [← hx]; simp only [World.cell?]; rw [h.block _ (cell_lt hx)]
 regs _ _ h := h
 blocks b hb _ := h.block b hb
 io := ⟨h.os, h.output⟩
 xs _ h := h
 xcell a ha _ := by simp only [World.cell?, World.frozen?]; rw [h.block _ ha]; exact ⟨rfl, rfl⟩
 xblk b hb _ := h.block b hb
theorem sim_below {g : G} {w' : World} (h : RowKit.Below g.w.heap.size g.w w') (s : Sim g) : Sim { g with w := w' } where
 fct := s.fct.keep (keep_below h)
 blk i cells hi := by
  obtain ⟨xs, T, h1, h2, h3, h4⟩ := s.blk i cells hi;exact ⟨xs, T, (h.block _ (blk_lt s hi)).trans h1, h2, fun j hj => (h3 j hj).keep (keep_below h), h4⟩
 iter i t pos hi := (h.block _ (iter_lt s hi)).trans (s.iter i t pos hi)
 room t e ht k hk := by
  obtain ⟨x, h1, h2⟩ := s.room t e ht k hk;have hb := cell_lt h1;refine ⟨x, ?_, ?_⟩
  ·simp only [World.cell?] at h1 ⊢; rw [h.block _ hb]; exact h1
  ·simp only [World.frozen?] at h2 ⊢; rw [h.block _ hb]; exact h2
 disj := s.disj
 inb a ha := Nat.lt_of_lt_of_le (s.inb a ha) h.size
 xdis := s.xdis
 mapo i es hi := by
  obtain ⟨o', h1, h2⟩ := s.mapo i es hi;exact ⟨o', (h.block _ (mapo_lt s hi)).trans h1, h2.keep (keep_below h)⟩
 opq i φ hi := by
  have e1 := h.block _ (Ll s hi (.inl rfl));have e2 := h.block _ (Ll s hi (.inr rfl));show φ _ _ (w'.heap[g.β i]?) (w'.heap[(g.ρ i).b]?);rw [e1, e2]; exact s.opq i φ hi
 own i P cur hi := s.ownKeep (keep_below h).toKeep0 (fun a ha => Nat.lt_of_lt_of_le (s.inb a ha) h.size) hi hi rfl rfl fun b hb => h.block _ (Ll s hi hb)
 arr i z els hi := (s.arr i z els hi).keep0 (keep_below h).toKeep0 fun hne => h.block _ (Ll s hi ⟨hne, rfl⟩)
 mapr i es vis cur t hi := by
  obtain ⟨t1, t2, o', oi, h1, h2, h3⟩ := s.mapr i es vis cur t hi;exact ⟨t1, t2, o', oi, (h.block _ (Ll s hi (.inl rfl))).trans h1, (h.block _ (Ll s hi (.inr rfl))).trans h2, h3.keep (keep_below h)⟩
end Go.Ab
end
section
namespace Go.Ab
open Go.Proofs Go.Shelf Go.Sort Go.Maps
def keysV (es : List (AV × AV)) : List Int := es.map fun e => dkI e.1
def IntKeys (k : IntKind) (es : List (AV × AV)) : Prop := ∀ e ∈ es, e.1 = kI k (dkI e.1)
@[simp] theorem keysV_nil : keysV [] = [] := rfl
def KeysB (l : List Int) : Prop := (∀ x ∈ l, (Lit.int .i64 x).wf = true) ∧ l.length * 8 ≤ 140737488355328
def sortL (l : List Int) : List Int := l.mergeSort fun x y => decide (x ≤ y)
theorem R.ownsRow {g : G} {w' : World} (sm : Sim g) {e : TypeId} {v : Value} {l : List Int} (h : w'.ownsRow g.w.heap.size e 1 v l.length (l.map encZ)) : R { g with w := w' } (.sl (l.map (eNum .i64)) .no) v := by
 rcases h.2 with ⟨rfl, hz⟩ | ⟨gb, cap, cur, rfl, hbase, hgb, hcap, _, hsz, htake⟩
 ·have : l = [] := List.eq_nil_of_length_eq_zero hz;subst this;exact .nil _ trivial
 ·have hlen : (l.map (eNum .i64)).length = l.length := by simp
  have q : R { g with w := w' } (.sl (l.map (eNum .i64)) .no) (.slice (some ⟨gb, 0, none⟩) (l.map (eNum .i64)).length cap) := by
   have hcur : ∀ i, i < l.length → cur[i]? = some (encZ (l.getD i 0)) := fun i hi => by
    have : (cur.toList.take (l.length * 1))[i]? = some (encZ (l.getD i 0)) := by
     rw [htake, List.getElem?_map];simp [hi]
    rw [List.getElem?_take_of_lt (by omega)] at this;simpa using this
   refine .sl _ .no gb 0 1 cap (fun i _ => encZ (l.getD i 0)) (fun i hi => by simp) (fun i j hi hj => ?_) (fun i j hi hj hr => ?_) (fun i j hi hj => ?_) (fun _ _ _ _ => rfl) trivial (by omega)
   ·have hj0 : j = 0 := by omega
    subst hj0;have := hcur i (by omega);simp only [World.cell?, hgb, Nat.zero_add, Nat.mul_one, Nat.add_zero];simpa using this
   ·have := sm.inb _ hr;simp only at this;omega
   ·have hj0 : j = 0 := by simp at hj; omega
    subst hj0;have hi' : i < l.length := by omega
    simp only [List.getElem_map, encI_def, List.getElem_cons_zero];rw [show (l.getD i 0) = l[i] by simp [hi']];exact .lit _
  rw [hlen] at q; exact q
theorem owns_of {g : G} (sm : Sim g) {i : Nat} {es : List (AV × AV)} (hM : g.M[i]? = some (.mapo es)) (hk : IntKeys .i64 es) (hb : KeysB (keysV es)) {P : Program} {k : TypeId} (hkt : P.underlying k = some (.int .i64)) :
  ∃ (D0 : DataW Unit) (R0 : Value → Option (DataW Unit × List MemPlace)), g.w.ownsMap P k R0 (g.β i) es.length D0 ∧ (intKeys D0).Perm (keysV es) ∧ Maps.size D0 = es.length := by
 obtain ⟨ents, clock, hh, hst, he⟩ := map_at sm hM;have hlen := he.len;simp only [Array.length_toList] at hlen
 have hkey : ∀ (es : List (AV × AV)) (l : List MapEntry), EntR g es l → IntKeys .i64 es → l.map (·.key) = (keysV es).map encZ := by
  intro es l h
  induction h with
  | nil => intro _; rfl
  | @cons a v es e l hk hv r ih =>
    intro q;have h1 := q (a, v) (.head _);simp only at h1;rw [h1] at hk;have h2 : e.key = .int .i64 (dkI a) := hk.lit_inv;simp only [List.map_cons, keysV, h2];rw [ih fun e he => q e (.tail _ he)]; rfl
 have hks := hkey es ents.toList he hk
 have hread : ∀ x ∈ ents.toList, ∃ n : Int, x.key = encZ n ∧ n ∈ keysV es := fun x hx => by
  have : x.key ∈ ents.toList.map (·.key) := List.mem_map.2 ⟨x, hx, rfl⟩;rw [hks] at this;obtain ⟨n, hn, e⟩ := List.mem_map.1 this;exact ⟨n, e.symm, hn⟩
 let R0 : Value → Option (DataW Unit × List MemPlace) := fun _ => some (.nil, [])
 have hrd : ∀ x ∈ ents.toList, ∃ n : Int, x.key = encZ n ∧ WideElems.rd P k R0 x = some (.int .i64 n, .nil) := fun x hx => by
  obtain ⟨n, hn, hmem⟩ := hread x hx;refine ⟨n, hn, ?_⟩;simp only [WideElems.rd, hn, R0, Option.map_some];rw [show encZ n = .int .i64 n from rfl, Maps.keyOf_int_mk hkt (hb.1 n hmem)];rfl
 refine ⟨.map ((ents.toList.map (WideElems.rg P k R0)).foldr DataW.insert []), R0, ⟨ents, clock, hh, ⟨?_, hst, fun x hx => ?_⟩, by omega, rfl⟩, ?_, ?_⟩
 ·have := hb.2;simp only [keysV, List.length_map] at this;simp only [maxLen]; omega
 ·obtain ⟨n, _, h⟩ := hrd x hx;exact ⟨_, h⟩
 ·show (((ents.toList.map (WideElems.rg P k R0)).foldr DataW.insert []).map fun p => intOf p.1).Perm _;refine ((WideShapes.sorted_perm _).map _).trans ?_;rw [List.map_map]
  have : ents.toList.map ((fun p => intOf p.1) ∘ WideElems.rg P k R0) = keysV es := by
   have h2 : (ents.toList.map (·.key)).map (fun v => match v with | .int _ n => n | _ => 0) = keysV es := by
    rw [hks, List.map_map];exact (List.map_congr_left fun n _ => rfl).trans (List.map_id _)
   rw [← h2, List.map_map];refine List.map_congr_left fun x hx => ?_;obtain ⟨n, h3, h4⟩ := hrd x hx;simp only [Function.comp, WideElems.rg, h4, Option.getD_some, intOf, h3]
  rw [this]
 ·rw [Maps.size_eq, Go.length_read]; omega
def OwnKeys (Q : Own) : Prop := ∀ w C bs l, Q.rel w C bs l → l.map (·.1) = Q.data.map fun e => .int .i64 (dkI e.1)
theorem owns_own {g : G} (sm : Sim g) {i : Nat} {Q : Own} (hM : g.M[i]? = some (.own Q none)) (hq : OwnKeys Q) (hb : KeysB (keysV Q.data)) {P : Program} {k : TypeId} (hkt : P.underlying k = some (.int .i64)) :
  ∃ (D0 : DataW Unit) (R0 : Value → Option (DataW Unit × List MemPlace)), g.w.ownsMap P k R0 (g.β i) Q.data.length D0 ∧ (intKeys D0).Perm (keysV Q.data) ∧ Maps.size D0 = Q.data.length := by
 obtain ⟨ents, clock, hh, hst, _, _, hrel, _⟩ := sm.own i Q none hM
 have hks : ents.toList.map (·.key) = (keysV Q.data).map encZ := by
  have := hq _ _ _ _ hrel;simp only [pairsOf, List.map_map] at this;simp only [keysV, List.map_map];exact this
 have hlen : ents.toList.length = Q.data.length := by
  have := congrArg List.length hks;simpa [keysV] using this
 simp only [Array.length_toList] at hlen
 have hread : ∀ x ∈ ents.toList, ∃ n : Int, x.key = encZ n ∧ n ∈ keysV Q.data := fun x hx => by
  have : x.key ∈ ents.toList.map (·.key) := List.mem_map.2 ⟨x, hx, rfl⟩;rw [hks] at this;obtain ⟨n, hn, e⟩ := List.mem_map.1 this;exact ⟨n, e.symm, hn⟩
 let R0 : Value → Option (DataW Unit × List MemPlace) := fun _ => some (.nil, [])
 have hrd : ∀ x ∈ ents.toList, ∃ n : Int, x.key = encZ n ∧ WideElems.rd P k R0 x = some (.int .i64 n, .nil) := fun x hx => by
  obtain ⟨n, hn, hmem⟩ := hread x hx;refine ⟨n, hn, ?_⟩;simp only [WideElems.rd, hn, R0, Option.map_some];rw [show encZ n = .int .i64 n from rfl, Maps.keyOf_int_mk hkt (hb.1 n hmem)];rfl
 refine ⟨.map ((ents.toList.map (WideElems.rg P k R0)).foldr DataW.insert []), R0, ⟨ents, clock, hh, ⟨?_, hst, fun x hx => ?_⟩, by omega, rfl⟩, ?_, ?_⟩
 ·have := hb.2;simp only [keysV, List.length_map] at this;simp only [maxLen]; omega
 ·obtain ⟨n, _, h⟩ := hrd x hx;exact ⟨_, h⟩
 ·show (((ents.toList.map (WideElems.rg P k R0)).foldr DataW.insert []).map fun p => intOf p.1).Perm _;refine ((WideShapes.sorted_perm _).map _).trans ?_;rw [List.map_map]
  have : ents.toList.map ((fun p => intOf p.1) ∘ WideElems.rg P k R0) = keysV Q.data := by
   have h2 : (ents.toList.map (·.key)).map (fun v => match v with | .int _ n => n | _ => 0) = keysV Q.data := by
    rw [hks, List.map_map];exact (List.map_congr_left fun n _ => rfl).trans (List.map_id _)
   rw [← h2, List.map_map];refine List.map_congr_left fun x hx => ?_;obtain ⟨n, h3, h4⟩ := hrd x hx;simp only [Function.comp, WideElems.rg, h4, Option.getD_some, intOf, h3]
  rw [this]
 ·rw [Maps.size_eq, Go.length_read]; omega
@[simp] def keysS (k : Nat) : Sp
  | [.mp i], M => match M[i]? with
    | some (.mapo _) => some { av := .fn k [.mp i] }
    | some (.own _ none) => some { av := .fn k [.mp i] }
    | _ => none
  | _, _ => none
theorem keys_ok {P : Program} {ρ : Ren} (L : SlLaysZI.n7 P ρ) {f k : Nat} (hf : ρ.f 7 = f) (hk : ρ.f 10 = k) (hent : ∀ args w, (callFunc f args).run P w = .ok (.enter f args) w) : SpecOk P f (keysS k) := by
 subst hf; subst hk;intro l M out h;unfold keysS at h;split at h
 ·rename_i i
  have h : some ({ av := .fn (ρ.f 10) [.mp i] } : Out) = some out := by
   split at h
   ·exact h
   ·exact h
   ·cases h
  ·cases h;intro g vs hM sm hr _;cases hr with | cons hv hr => cases hr with | nil =>
   cases hv with
   | mp _ hi =>
   refine ⟨hent _ _, ?_⟩;refine ((callsIn_wide (n := 5)).1 (AnyZI.keys_in L Fence.wide 5 trivial rfl _ _)).mono fun e w' => ?_;rintro ⟨rfl, rfl⟩;have hw : (g.w.alloc (.cells #[.map (some (g.β i))] (ρ.t 23))).heap = g.w.heap.push (.cells #[.map (some (g.β i))] (ρ.t 23)) := rfl;refine ⟨_, rfl, g.β, g.ρ, ?_, ?_, ?_⟩
   ·simp only [G.out, Option.getD_none];exact sim_push hw sm
   ·simp only [G.out, Option.getD_none]
    have q : R { g with w := g.w.alloc (.cells #[.map (some (g.β i))] (ρ.t 23)) } (.fn (ρ.f 10) [.mp i]) (.func (.func (ρ.f 10)) #[] ((List.range [AV.mp i].length).map fun j => Value.pointer (some ⟨(fun _ => g.w.heap.size) j, 0, none⟩)).toArray) := by
     refine .fn (ρ.f 10) [.mp i] (fun _ => g.w.heap.size) (fun _ => .map (some (g.β i))) (fun j hj => ?_) (fun j hj hreg => ?_) (fun j hj => ?_)
     ·simp [World.cell?, hw]
     ·have := sm.inb _ hreg;simp at this
     ·have hj0 : j = 0 := by simp at hj; omega
      subst hj0;exact .mp (g := { g with w := g.w.alloc (.cells #[.map (some (g.β i))] (ρ.t 23)) }) i hi
    exact q
   ·simp only [G.out, Option.getD_none];exact keep_push hw
 ·cases h
theorem fn_inv {g : G} {f : Nat} {i : Nat} {v : Value} (h : R g (.fn f [.mp i]) v) : ∃ b, v = .func (.func f) #[] #[.pointer (some ⟨b, 0, none⟩)] ∧ g.w.cell? ⟨b, 0, none⟩ = some (.map (some (g.β i))) ∧ i < g.M.length := by
 cases h with
 | fn _ _ bs us h1 h2 h3 =>
   have h4 := h3 0 (by simp);simp only [List.getElem_cons_zero] at h4;generalize hu : us 0 = u at h4;cases h4 with
   | mp _ hi =>
     refine ⟨bs 0, by simp [List.range_succ], ?_, hi⟩;have := h1 0 (by simp);rw [hu] at this; exact this
@[simp] def sortedS (k : Nat) : Sp
  | [.fn k' [.mp i]], M => if k' = k then (match M[i]? with
    | some (.mapo es) => some { av := .sl ((sortL (keysV es)).map (eNum .i64)) .no, obl := IntKeys .i64 es ∧ KeysB (keysV es) }
    | some (.own Q none) => some { av := .sl ((sortL (keysV Q.data)).map (eNum .i64)) .no, obl := OwnKeys Q ∧ KeysB (keysV Q.data) }
    | _ => none) else none
  | _, _ => none
theorem sorted_ok {P : Program} {ρ ρ' : Ren} (L : SlLaysZI.n6 P ρ) (L' : SlLaysZI.n10 P ρ') {f k : Nat} (hf : ρ.f 6 = f) (hk : ρ'.f 10 = k) (hent : ∀ args w, (callFunc f args).run P w = .ok (.enter f args) w)
  (hsort : ∀ m, AnyZI.SortsIn P ρ Fence.wide m) (e9 : ∀ args w, (callFunc (ρ.f 9) args).run P w = .ok (.enter (ρ.f 9) args) w) (eg : ∀ args w, (callFunc k args).run P w = .ok (.enter k args) w) : SpecOk P f (sortedS k) := by
 subst hf; subst hk;intro l M out h;unfold sortedS at h;split at h
 ·rename_i k' i;split at h
  ·rename_i hkk;subst hkk;split at h
   ·rename_i es hMi;cases h;intro g vs hM sm hr ho;subst hM;cases hr with | cons hv hr => cases hr with | nil =>
    obtain ⟨b, rfl, hcell, hi⟩ := fn_inv hv;refine ⟨hent _ _, ?_⟩;obtain ⟨D0, R0, hown, hperm, hsize⟩ := owns_of sm hMi ho.1 ho.2 (P := P) (k := ρ'.t 26) L'.t26
    have hseq : SeqGives Fence.wide 2 P (ρ'.f 10) #[.pointer (some ⟨b, 0, none⟩)] encZ (fun ss => ss.Perm (intKeys D0)) (Maps.size D0) g.w :=
     AnyZI.keys_gives L' Fence.wide 2 trivial rfl (by omega) b (g.β i) es.length D0 g.w (cell_lt hcell) hcell hown
    have hbd := ho.2.2;simp only [keysV, List.length_map] at hbd;have cS := AnyZI.sorted_in L Fence.wide 5 trivial trivial trivial trivial rfl (by omega) (hsort _) e9 (ρ'.f 10) #[.pointer (some ⟨b, 0, none⟩)] trivial eg _ _ (by rw [hsize]; simp only [maxLen]; omega) (by rw [hsize]; exact hbd) g.w hseq;refine ((callsIn_wide (n := 5)).1 cS).mono fun e w' => ?_;rintro ⟨v, ss, rfl, hS, hrow, _, hbel⟩;have hss : ss.mergeSort (fun x y => decide (x ≤ y)) = sortL (keysV es) := mergeSort_of_perm_i (hS.trans hperm);rw [hss] at hrow;have hl : ss.length = (sortL (keysV es)).length := by rw [← hss]; simp
    rw [hl] at hrow;refine ⟨_, rfl, g.β, g.ρ, ?_, ?_, ?_⟩
    ·simp only [G.out, Option.getD_none]; exact sim_below hbel sm
    ·simp only [G.out, Option.getD_none]; exact R.ownsRow sm hrow
    ·simp only [G.out, Option.getD_none]; exact keep_below hbel
   ·rename_i Qo hMi;cases h;intro g vs hM sm hr ho;subst hM;cases hr with | cons hv hr => cases hr with | nil =>
    obtain ⟨b, rfl, hcell, hi⟩ := fn_inv hv;refine ⟨hent _ _, ?_⟩;obtain ⟨D0, R0, hown, hperm, hsize⟩ := owns_own sm hMi ho.1 ho.2 (P := P) (k := ρ'.t 26) L'.t26
    have hseq : SeqGives Fence.wide 2 P (ρ'.f 10) #[.pointer (some ⟨b, 0, none⟩)] encZ (fun ss => ss.Perm (intKeys D0)) (Maps.size D0) g.w :=
     AnyZI.keys_gives L' Fence.wide 2 trivial rfl (by omega) b (g.β i) Qo.data.length D0 g.w (cell_lt hcell) hcell hown
    have hbd := ho.2.2;simp only [keysV, List.length_map] at hbd;have cS := AnyZI.sorted_in L Fence.wide 5 trivial trivial trivial trivial rfl (by omega) (hsort _) e9 (ρ'.f 10) #[.pointer (some ⟨b, 0, none⟩)] trivial eg _ _ (by rw [hsize]; simp only [maxLen]; omega) (by rw [hsize]; exact hbd) g.w hseq;refine ((callsIn_wide (n := 5)).1 cS).mono fun e w' => ?_;rintro ⟨v, ss, rfl, hS, hrow, _, hbel⟩;have hss : ss.mergeSort (fun x y => decide (x ≤ y)) = sortL (keysV Qo.data) := mergeSort_of_perm_i (hS.trans hperm);rw [hss] at hrow;have hl : ss.length = (sortL (keysV Qo.data)).length := by rw [← hss]; simp
    rw [hl] at hrow;refine ⟨_, rfl, g.β, g.ρ, ?_, ?_, ?_⟩
    ·simp only [G.out, Option.getD_none]; exact sim_below hbel sm
    ·simp only [G.out, Option.getD_none]; exact R.ownsRow sm hrow
    ·simp only [G.out, Option.getD_none]; exact keep_below hbel
   ·cases h
  ·cases h
 ·cases h
end Go.Ab
end
section
namespace Go.Ab
theorem wrap64_of {n : Int} (h0 : -9223372036854775808 ≤ n) (h1 : n < 9223372036854775808) : IntKind.i64.wrap n = n := by
 rw [IntKind.wrap_i64]; omega
end Go.Ab
end
section
namespace Go.Ab
def partB (f : Nat → Bool) (n i : Nat) : Bool := (List.range 100).all fun j => !decide (100 * i + j < n) || f (100 * i + j)
theorem of_parts {f : Nat → Bool} {n k : Nat} (hk : n ≤ 100 * k) (h : ∀ i, i < k → partB f n i = true) : (List.range n).all f = true := by
 refine List.all_eq_true.2 fun t ht => ?_;have ht' : t < n := List.mem_range.1 ht;have h1 := List.all_eq_true.1 (h (t / 100) (by omega)) (t % 100) (List.mem_range.2 (by omega));have e : 100 * (t / 100) + t % 100 = t := by omega
 rw [e] at h1;simpa [ht'] using h1
end Go.Ab
end
