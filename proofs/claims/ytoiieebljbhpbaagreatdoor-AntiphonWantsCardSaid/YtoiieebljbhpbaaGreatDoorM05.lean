import Derived.Test.YtoiieebljbhpbaaGreatDoorKx
import Derived.Shelf.SlIterI.Collect
import Derived.Test.YtoiieebljbhpbaaGreatDoorM16
import Derived.Lib.UnsafeStr
import Derived.Shelf.RegionOpenPlain
section
namespace Go.Ab
open Go.Proofs Go.Maps Go.RowKit Go.Sort Go.Shelf ChangeMaps
structure KR (w : World) (b r : Nat) (ents : Array MapEntry) (clock : Nat) (es : List MapEntry) : Prop where
 map : w.heap[b]? = some (.map ents clock)
 it : ∃ c0, clock ≤ c0 ∧ w.heap[r]? = some (.mapIter (some b) clock (es.map (·.born)).toArray c0)
 sub : ∀ e ∈ es, e ∈ ents.toList
 nd : (es.map (·.born)).Nodup
variable {P : Program} {w : World} {b r : Nat} {ents : Array MapEntry} {clock : Nat} {es : List MapEntry}
theorem KR.walk (h : KR w b r ents clock es) : ∃ o : Obj, w.heap[r]? = some o ∧ o.isWalk = true := by
 obtain ⟨c0, _, h⟩ := h.it;exact ⟨_, h, rfl⟩
theorem KR.of_walks {w' : World} (h : KR w b r ents clock es) (k : KeepsWalks w w') : KR w' b r ents clock es := by
 obtain ⟨c0, h1, h2⟩ := h.it;exact ⟨k.same _ _ h.map rfl, ⟨c0, h1, k.same _ _ h2 rfl⟩, h.sub, h.nd⟩
theorem KR.left (h : KR w b r ents clock es) : w.rangeLeft b r = (leftOf ents (es.map (·.born)).toArray).size := by
 obtain ⟨c0, h1, h2⟩ := h.it;simp only [World.rangeLeft, h.map, h2]
theorem range_KR {t k e : TypeId} (ht : P.underlying t = some (.map k e)) (hb : w.heap[b]? = some (.map ents clock)) :
  ∃ w', (Instr.range t (.map (some b))).run P w = .ok (.pointer (some ⟨w.heap.size, 0, none⟩)) w' ∧ KR w' b w.heap.size ents clock [] ∧ w.grownBy w' none ∧ w'.heap.size = w.heap.size + 1 := by
 have hlt : b < w.heap.size := (Array.getElem?_eq_some_iff.1 hb).1;exact ⟨_, run_range_map w t k e b ents clock ht hb, ⟨((MapKept.heap_alloc w _).2 b hlt).trans hb, ⟨clock, Nat.le_refl _, (MapKept.heap_alloc w _).1⟩, fun _ h => (by cases h), .nil⟩, World.grownBy_alloc w _ none, by simp⟩
theorem KR.next (h : KR w b r ents clock es) (hold : ∀ x ∈ ents.toList, x.born < clock) (hnd : (ents.toList.map (·.born)).Nodup) (ty : TypeId) :
  (es.Perm ents.toList ∧ (Instr.next (.pointer (some ⟨r, 0, none⟩)) false ty).run P w = .ok (.tuple #[.bool false]) w) ∨
  ∃ e w', e ∈ ents.toList ∧ (Instr.next (.pointer (some ⟨r, 0, none⟩)) false ty).run P w = .ok (.tuple #[.bool true, e.key, e.val]) w' ∧ KR w' b r ents clock (es ++ [e]) ∧ es.length < ents.size ∧ w'.rangeLeft b r < w.rangeLeft b r ∧
    w.grownBy w' (some r) ∧ w'.heap.size = w.heap.size ∧ (Instr.entry (.pointer (some ⟨r, 0, none⟩))).run P w' = .ok (.tuple #[e.key, e.val]) w' := by
 obtain ⟨c0, hc, hr⟩ := h.it;have hne : r ≠ b := fun e => by rw [e, h.map] at hr; cases hr
 have hmn : ents.toList.Nodup := by
  unfold List.Nodup at hnd ⊢;rw [List.pairwise_map] at hnd;exact hnd.imp fun h q => h (by rw [q])
 have hen : es.Nodup := by
  have := h.nd;unfold List.Nodup at this ⊢;rw [List.pairwise_map] at this;exact this.imp fun h q => h (by rw [q])
 rcases run_next_at (P := P) w ty r b clock c0 (es.map (·.born)).toArray ents clock hr h.map hold hc with ⟨h0, hrun⟩ | ⟨e, he, w1, hal, hrun⟩
 ·left;refine ⟨(List.perm_ext_iff_of_nodup hen hmn).2 fun x => ⟨h.sub x, fun hx => ?_⟩, hrun⟩;have := all_seen ents _ h0 x hx;simp only [List.contains_toArray, List.contains_iff_mem, List.mem_map] at this;obtain ⟨y, hy, hyx⟩ := this;rw [← nodup_inj hnd (h.sub y hy) hx hyx]; exact hy
 ·right;obtain ⟨hem, hes⟩ := mem_left he;simp only [List.contains_toArray, ← Bool.not_eq_true, List.contains_iff_mem] at hes;have hr1 : w1.heap[r]? = some (.mapIter (some b) clock (es.map (·.born)).toArray c0) := by rcases hal with rfl | rfl <;> exact hr
  have hb1 : w1.heap[b]? = some (.map ents clock) := by rcases hal with rfl | rfl <;> exact h.map
  have hset := MapKept.heap_set (o' := .mapIter (some b) clock ((es.map (·.born)).toArray.push e.born) clock) hr1;have hb' : (ChangeMaps.setBlock w1 r (.mapIter (some b) clock ((es.map (·.born)).toArray.push e.born) clock)).heap[b]? = some (.map ents clock) := (hset.2 b (fun e1 => hne e1.symm)).trans hb1
  have hlen : es.length < ents.size := by
   have hx : e ∉ es := fun hx => hes (List.mem_map.2 ⟨e, hx, rfl⟩)
   have := nodup_le (l := e :: es) (m := ents.toList) (List.nodup_cons.2 ⟨hx, hen⟩) fun x hx => by
    rcases List.mem_cons.1 hx with rfl | hx
    ·exact hem
    ·exact h.sub x hx
   simp only [List.length_cons, Array.length_toList] at this;omega
  have hpush : (es.map (·.born)).toArray.push e.born = ((es ++ [e]).map (·.born)).toArray := by simp
  have hk : KR (ChangeMaps.setBlock w1 r (.mapIter (some b) clock ((es.map (·.born)).toArray.push e.born) clock)) b r ents clock (es ++ [e]) :=
   ⟨hb', ⟨clock, Nat.le_refl _, by rw [← hpush]; exact hset.1⟩, fun x hx => by
    rcases List.mem_append.1 hx with hx | hx
    ·exact h.sub x hx
    ·rw [List.mem_singleton.1 hx]; exact hem, by
    rw [List.map_append, List.nodup_append];refine ⟨h.nd, by simp, fun x hx y hy => ?_⟩;rintro rfl;rw [List.mem_singleton.1 hy] at hx;exact hes hx⟩
  refine ⟨e, _, hem, hrun, hk, hlen, ?_, ?_, ?_, run_entry_at _ r b clock _ ents clock e hset.1 hb' hem hnd⟩
  ·rw [hk.left, h.left, ← hpush];exact left_shrinks ents _ e he
  ·rcases hal with rfl | rfl <;> exact ⟨rfl, rfl, rfl, by simp [ChangeMaps.setBlock], fun i _ hi => hset.2 i (fun e1 => hi (by rw [e1]))⟩
  ·rcases hal with rfl | rfl <;> simp [ChangeMaps.setBlock]
section
variable {F : Fence} {n : Nat} {ops : Array Oper} {rest : List Oper} {o : Oper} {a : Act} {Q : Exit → Act → World → Prop}
theorem wpListIn_range_K (hg : o.guard = none) (m : Operand) (t : TypeId) (hop : o.op = Op.range t m) {k e : TypeId} (ht : P.underlying t = some (.map k e)) (hm : a.eval m = .map (some b)) (hb : w.heap[b]? = some (.map ents clock))
  (hK : ∀ w', KR w' b w.heap.size ents clock [] → w.grownBy w' none → w'.heap.size = w.heap.size + 1 → wpListIn F n P ops Q rest (a.put o.dst (.pointer (some ⟨w.heap.size, 0, none⟩))) w') :
  wpListIn F n P ops Q (o :: rest) a w := by
 refine wpListIn_plain hg fun K' hK' => ?_;obtain ⟨w', hrun, r1, r2, r3⟩ := range_KR (P := P) ht hb;unfold Oper.wpIn;refine ⟨?_, ?_⟩
 ·simp [Oper.about, hop]
 ·rw [Oper.semAt_plain F _ _ (by rw [hop]; intro c hc'; cases hc')];simp [execOp, hop, hm, hrun, Result.andThen];exact hK' _ _ (hK w' r1 r2 r3)
theorem wpListIn_next_K (hg : o.guard = none) (it : Operand) (hop : o.op = Op.next it false) (hit : a.eval it = .pointer (some ⟨r, 0, none⟩)) (h : KR w b r ents clock es) (hold : ∀ x ∈ ents.toList, x.born < clock) (hnd : (ents.toList.map (·.born)).Nodup)
  (hDone : es.Perm ents.toList → wpListIn F n P ops Q rest (a.put o.dst (.tuple #[.bool false])) w)
  (hMore : ∀ (e : MapEntry) (w' : World), e ∈ ents.toList → KR w' b r ents clock (es ++ [e]) → es.length < ents.size → w'.rangeLeft b r < w.rangeLeft b r → w.grownBy w' (some r) → w'.heap.size = w.heap.size →
   (Instr.entry (.pointer (some ⟨r, 0, none⟩))).run P w' = .ok (.tuple #[e.key, e.val]) w' → wpListIn F n P ops Q rest (a.put o.dst (.tuple #[.bool true, e.key, e.val])) w') :
  wpListIn F n P ops Q (o :: rest) a w := by
 refine wpListIn_plain hg fun K' hK' => ?_;unfold Oper.wpIn;refine ⟨by simp [Oper.about, hop], ?_⟩;rw [Oper.semAt_plain F _ _ (by rw [hop]; intro c hc'; cases hc')];rcases h.next (P := P) hold hnd o.type with ⟨h0, hrun⟩ | ⟨e, w', hem, hrun, hk, hlen, hlt, hgr, hsz, hen⟩
 ·simp [execOp, hop, hit, hrun, Result.andThen];exact hK' _ _ (hDone h0)
 ·simp [execOp, hop, hit, hrun, Result.andThen];exact hK' _ _ (hMore e w' hem hk hlen hlt hgr hsz hen)
end
end Go.Ab
end
section
namespace Go.Proofs
open Go.RowKit Go.Ab
theorem hidW {p : Prop} (h : p) : Hid p := h
set_option maxHeartbeats 2000000 in
set_option maxRecDepth 100000 in
theorem Tryz.writeW (b : Nat) (w : World) (p v : Value) (n : Nat) (xs : List Value) (hb : w.heap[b]? = some (.cells #[p, v] 143 (0, 0))) (hp : p = .pointer none ∨ p = .pointer (some ⟨b, 0, none⟩))
  (hown : w.ownsRow 0 5 1 v n xs) (hne : v.ownBlock ≠ some b) (ad : Addr) (m c : Nat) (news : List Value) (hl : news.length = m) (hm : 0 < m) (hnews : ∀ j u, news[j]? = some u → w.cell? (ad.add j) = some u)
  (h1 : ∀ u ∈ news, u.oneCell' = true) (hap : ∀ j, (ad.add j).block ≠ b) (hbytes : n + m ≤ 140737488355328) :
  Calls Tryz.prog 112 #[.pointer (some ⟨b, 0, none⟩), .slice (some ad) m c] w fun e w' => e = .returned (.tuple #[.int .i64 m, .nilIface]) ∧
   ∃ v', w'.heap[b]? = some (.cells #[.pointer (some ⟨b, 0, none⟩), v'] 143 (0, 0)) ∧ w'.ownsRow 0 5 1 v' (n + m) (xs ++ news) ∧ v'.ownBlock ≠ some b ∧ WrKeep b v.ownBlock w w' ∧
     (v'.ownBlock = v.ownBlock ∨ v'.ownBlock = some w.heap.size) ∧ ∀ g, v'.ownBlock = some g → g < w'.heap.size := by
 have hbl : b < w.heap.size := by
  rcases Nat.lt_or_ge b w.heap.size with h | h
  ·exact h
  ·simp [Array.getElem?_eq_none h] at hb
 have H1 := hidW (Tryz.ccAny b w p v n xs hb hp hown hne);have H2 := hidW (show _ ∧ _ ∧ _ ∧ _ ∧ _ ∧ _ from ⟨hbl, hne, hnews, h1, hap, hl⟩);clear hb hp hown hne hnews h1 hap hbl hl
 go_enter Tryz.func112, Tryz.ntmps112
 go_wp2_with (go_at_call 135; refine H1.out.mono ?_);rintro e w1 ⟨rfl, hb1, hown1, hsz1, hk1, hall1⟩;obtain ⟨hbl, hne, hnews, h1, hap, hl⟩ := H2.out;obtain ⟨i0, hi, hz⟩ := Option.map_eq_some_iff.1 Tryz.byteI;simp only [Prod.mk.injEq] at hz;obtain ⟨hz0, hz1, hz2⟩ := hz
 have hnews1 : ∀ j u, news[j]? = some u → w1.cell? (ad.add j) = some u := fun j u hj => by
  rw [← hnews j u hj]; simp only [World.cell?]; rw [hall1 _ (hap j)]
 have hsrc : Src Tryz.prog 1 139 (.slice (some ad) m c) m news w1 := Src.ofSlice w1 Tryz.underlying139 ad m c news (by omega) hnews1 h1;have Hs := hidW hsrc;have Hi := hidW (show _ ∧ _ ∧ _ ∧ _ from ⟨hi, hz0, hz1, hz2⟩);have Hk := hidW (show _ ∧ _ from ⟨hk1, hsz1⟩);have Ho := hidW hown1;have Hn := hidW hne;have Hb := hidW hb1;have Hl := hidW hbl;have c0 : w1.cell? ⟨b, 0, none⟩ = some (.pointer (some ⟨b, 0, none⟩)) := by rw [Lib.cell_of_heap hb1]; rfl
 have c1 : w1.cell? ⟨b, 1, none⟩ = some v := by rw [Lib.cell_of_heap hb1]; rfl
 clear hall1 hk1 hsz1 hown1 hne hb1 hsrc hnews1 hnews h1 hap hi hz0 hz1 hz2 hbl hl H1 H2;go_wp2_with (at_builtin; refine qba rfl _ _ 139 139 rfl 5 i0 _ Tryz.underlying139 Hi.out.1 Hi.out.2.1 Hi.out.2.2.1 Hi.out.2.2.2 rfl _ _ _ rfl Ho.out _ rfl m news Hs.out hm hbytes ?_);intro v' w2 hown' hgrow hblk' hnn;obtain ⟨hk1, hsz1⟩ := Hk.out;have hne := Hn.out;have hb1 := Hb.out;have hbl := Hl.out;have hlt : b < w1.heap.size := by omega
 have hne' : v'.ownBlock ≠ some b := by
  rcases hblk' with h | h
  ·rw [h]; exact hne
  ·rw [h]; intro e; simp only [Option.some.injEq] at e; omega
 have hb2 : w2.heap[b]? = some (.cells #[.pointer (some ⟨b, 0, none⟩), v] 143 (0, 0)) := by
  rw [hgrow.block b hlt (fun e => hne e.symm)];exact hb1
 have fin : ∀ w3, w3 = w2.setCell ⟨b, 1, none⟩ v' → w3.heap[b]? = some (.cells #[.pointer (some ⟨b, 0, none⟩), v'] 143 (0, 0)) ∧ w3.ownsRow 0 5 1 v' (n + m) (xs ++ news) ∧ v'.ownBlock ≠ some b ∧ WrKeep b v.ownBlock w w3 ∧
    (v'.ownBlock = v.ownBlock ∨ v'.ownBlock = some w.heap.size) ∧ ∀ g, v'.ownBlock = some g → g < w3.heap.size := by
  rintro w3 rfl;refine ⟨by simp [World.setCell, Array.getElem?_modify, hb2], ?_, hne', (hk1.trans (WrKeep.grown hgrow)).trans (WrKeep.setCell _ _ _ _ _), by rw [hsz1] at hblk'; exact hblk', fun q hq => ?_⟩
  ·exact hown'.kept (row := some b) ⟨rfl, rfl, rfl, by simp [World.setCell], fun k _ hk => heap_setCell_ne (fun e => hk (by simp [e]))⟩ (.inr hne')
  ·rcases hown'.2 with ⟨_, h⟩ | ⟨g', cap', cur, hv, _, ho, _⟩
   ·omega
   ·subst hv;simp only [Value.ownBlock, Option.some.injEq] at hq;subst hq;simp only [World.setCell, Array.size_modify];rcases Nat.lt_or_ge g' w2.heap.size with h | h
    ·exact h
    ·simp [Array.getElem?_eq_none h] at ho
 have Hf := hidW fin;have d0 : w2.cell? ⟨b, 0, none⟩ = some (.pointer (some ⟨b, 0, none⟩)) := by rw [Lib.cell_of_heap hb2]; rfl
 have d1 : w2.cell? ⟨b, 1, none⟩ = some v := by rw [Lib.cell_of_heap hb2]; rfl
 have f1 : w2.frozen? ⟨b, 1, none⟩ = false := Lib.frozen_of_heap hb2 1
 obtain ⟨g, cap, hv'⟩ : ∃ g cap, v' = .slice (some ⟨g, 0, none⟩) (n + m) cap := by
  rcases hown'.2 with ⟨_, h⟩ | ⟨g, cap, cur, hv, _⟩
  ·omega
  ·exact ⟨_, _, hv⟩
 subst hv';clear hown' hgrow hblk' hnn hne' hk1 hsz1 hne hb1 hbl hlt hb2 fin;go_wp2
 go_ret2
 exact ⟨rfl, _, Hf.out _ rfl⟩
theorem Tryz.byteC : Tryz.prog.cellsOf 5 = 1 := by kernel_rfl
set_option maxHeartbeats 1000000 in
set_option maxRecDepth 100000 in
theorem Tryz.stringW (b g cap : Nat) (w : World) (p : Value) (l : List UInt8) (cur : Array Value) (hb : w.heap[b]? = some (.cells #[p, .slice (some ⟨g, 0, none⟩) l.length cap] 143 (0, 0)))
  (hg : w.heap[g]? = some (.cells cur 5 (0, 0))) (hnc : l.length ≤ cap) (hcm : cap ≤ maxLen) (hcs : cur.size = cap) (ht : cur.toList.take l.length = Lib.byteCells l) (h0 : l ≠ []) :
  Calls Tryz.prog 115 #[.pointer (some ⟨b, 0, none⟩)] w fun e w' => e = .returned (.string ⟨l.toArray⟩) ∧ WrKeep b (some g) w w' ∧ w'.heap.size = w.heap.size := by
 have hl0 : l.length ≠ 0 := by simpa using h0
 have c1 : w.drew.cell? ⟨b, 1, none⟩ = some (.slice (some ⟨g, 0, none⟩) l.length cap) := by
  have : w.drew.heap[b]? = some (.cells #[p, .slice (some ⟨g, 0, none⟩) l.length cap] 143 (0, 0)) := hb;rw [Lib.cell_of_heap this]; rfl
 have hSD : (Builtin.unsafeSliceData_ #[139] 221 #[.slice (some ⟨g, 0, none⟩) l.length cap]).run Tryz.prog w.drew = .ok (.pointer (some ⟨g, 0, none⟩)) w.drew :=
  Lib.run_unsafeSliceData_row _ _ _ _ _ _ (by omega)
 have hUS : (Builtin.unsafeString_ #[221, 3] 9 #[.pointer (some ⟨g, 0, none⟩), .int .i64 l.length]).run Tryz.prog w.drew = .ok (.string ⟨l.toArray⟩) (w.drew.freeze ⟨g, 0, none⟩ l.length) := by
  refine Lib.run_unsafeString_row w.drew 221 3 9 5 Tryz.underlying221 Tryz.byteC g cur.size (by have hg' : w.drew.heap[g]? = some (.cells cur 5 (0, 0)) := hg; simp [World.shape?, hg']) l h0 (by omega) (by unfold maxLen at hcm; omega) ?_;intro j x hx;have hadd : (⟨g, 0, none⟩ : Addr).add j = ⟨g, j, none⟩ := by unfold Addr.add; split <;> simp_all
  have hj : (cur.toList.take l.length)[j]? = some (.int .u8 x.toNat) := by rw [ht]; simp [Lib.byteCells, hx]
  rw [List.getElem?_take] at hj;split at hj
  ·show w.cell? _ = _;rw [hadd];simp only [World.cell?, hg];simpa using hj
  ·cases hj
 have Hf := hidW (show WrKeep b (some g) w (w.drew.freeze ⟨g, 0, none⟩ l.length) ∧ (w.drew.freeze ⟨g, 0, none⟩ l.length).heap.size = w.heap.size from by
  unfold World.freeze;rw [if_neg hl0];refine ⟨⟨by simp, rfl, rfl, fun k _ _ hk => ?_⟩, by simp⟩;simp only [Array.getElem?_modify];rw [if_neg (fun e => hk (by rw [e]))];rfl)
 clear hb hg hnc hcm hcs ht h0 hl0
 go_enter Tryz.func115, Tryz.ntmps115
 go_wp2
 go_region
 all_goals (go_wp2; go_ret; exact ⟨rfl, Hf.out⟩)
end Go.Proofs
end
