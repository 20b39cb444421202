/- A strings.Builder in a block of its own: the relation, and an append to its buffer. No condition: over any program. -/
import Derived.Test.YtpamnignoocogaaGreatDoorM12
import Derived.Test.YtpamnignoocogaaGreatDoorKx
import Derived.Shelf.SlIterI.Collect
section
namespace Go.Ab

/-- A Writer. -/
def wrO (T E : TypeId) (bs : List Int) : Opq := ⟨bs, some (T, E)⟩
/-- One whose text has been taken: its bytes are frozen. -/
def wrX : Opq := ⟨[], none⟩

theorem wr_fresh (T E : TypeId) (b : Nat) (o : Option Obj) : (wrO T E []) b b (some (.cells #[.pointer none, .slice none 0 0] T (0, 0))) o :=
  show WrB T E [] b b _ o from ⟨_, _, rfl, .inl rfl, .inl ⟨rfl, rfl, rfl⟩⟩

theorem WrB.at {T E : TypeId} {bs : List Int} {b rb : Nat} {w : World} (h : WrB T E bs b rb (w.heap[b]?) (w.heap[rb]?)) :
    ∃ p v, w.heap[b]? = some (.cells #[p, v] T (0, 0)) ∧ (p = .pointer none ∨ p = .pointer (some ⟨b, 0, none⟩)) ∧ w.ownsRow 0 E 1 v bs.length (bs.map (Value.int .u8)) ∧
      v.ownBlock ≠ some b ∧ ((v.ownBlock = none ∧ rb = b) ∨ v.ownBlock = some rb) := by
  obtain ⟨p, v, h1, h2, h3⟩ := h
  refine ⟨p, v, h1, h2, ?_⟩
  rcases h3 with ⟨rfl, rfl, rfl⟩ | ⟨cap, cur, rfl, hne, ho, hc, hm, hs, ht⟩
  · exact ⟨⟨by simp, .inl ⟨rfl, rfl⟩⟩, by simp [Value.ownBlock], .inl ⟨rfl, rfl⟩⟩
  · exact ⟨⟨by simp, .inr ⟨rb, cap, cur, rfl, Nat.zero_le _, ho, hc, hm, by simpa using hs, by simpa using ht⟩⟩, by simpa [Value.ownBlock] using hne, .inr rfl⟩

theorem WrB.of {T E : TypeId} {bs : List Int} {b : Nat} {p v : Value} {w : World} (h1 : w.heap[b]? = some (.cells #[p, v] T (0, 0))) (h2 : p = .pointer none ∨ p = .pointer (some ⟨b, 0, none⟩))
    (h3 : w.ownsRow 0 E 1 v bs.length (bs.map (Value.int .u8))) (h4 : v.ownBlock ≠ some b) : WrB T E bs b (v.ownBlock.getD b) (w.heap[b]?) (w.heap[v.ownBlock.getD b]?) := by
  refine ⟨p, v, h1, h2, ?_⟩
  rcases h3.2 with ⟨rfl, hn⟩ | ⟨g, cap, cur, rfl, _, ho, hc, hm, hs, ht⟩
  · exact .inl ⟨rfl, List.eq_nil_of_length_eq_zero hn, rfl⟩
  · simp only [Value.ownBlock, ne_eq, Option.some.injEq, Option.getD_some] at h4 ⊢
    exact .inr ⟨cap, cur, rfl, h4, ho, hc, hm, by simpa using hs, by simpa using ht⟩

/-- All but a Writer's two blocks is as it was. -/
structure WrKeep (b : Nat) (ob : Option Nat) (w w' : World) : Prop where
  size : w.heap.size ≤ w'.heap.size
  os : w'.os = w.os
  output : w'.output = w.output
  block : ∀ k, k < w.heap.size → k ≠ b → some k ≠ ob → w'.heap[k]? = w.heap[k]?

theorem WrKeep.refl (b : Nat) (ob : Option Nat) (w : World) : WrKeep b ob w w := ⟨Nat.le_refl _, rfl, rfl, fun _ _ _ _ => rfl⟩
theorem WrKeep.trans {b : Nat} {ob : Option Nat} {w w' w'' : World} (h : WrKeep b ob w w') (h' : WrKeep b ob w' w'') : WrKeep b ob w w'' :=
  ⟨Nat.le_trans h.size h'.size, h'.os.trans h.os, h'.output.trans h.output, fun k h1 h2 h3 => (h'.block k (Nat.lt_of_lt_of_le h1 h.size) h2 h3).trans (h.block k h1 h2 h3)⟩
theorem WrKeep.grown {b : Nat} {ob : Option Nat} {w w' : World} (h : w.grownBy w' ob) : WrKeep b ob w w' := ⟨h.size, h.os, h.output, fun k h1 _ h3 => h.block k h1 h3⟩
theorem heap_setCell_ne {w : World} {b off k : Nat} {v : Value} (h : k ≠ b) : (w.setCell ⟨b, off, none⟩ v).heap[k]? = w.heap[k]? := by
  simp only [World.setCell, Array.getElem?_modify]
  rw [if_neg (fun e => h e.symm)]
theorem WrKeep.setCell (b off : Nat) (ob : Option Nat) (w : World) (v : Value) : WrKeep b ob w (w.setCell ⟨b, off, none⟩ v) :=
  ⟨by simp [World.setCell], rfl, rfl, fun _ _ h2 _ => heap_setCell_ne h2⟩

/-- An append to a row of one's own, of whatever yields cells: where the row lies then. -/
theorem run_append_w {P : Program} (w : World) (t tx ty e : TypeId) (i : TypeInfo) (z : Value) (ht : P.underlying t = some (.slice e)) (hi : P.info? e = some i) (hz : i.zero = some z)
    (hsize : i.size = 1) (hby : i.bytes = 1) (hzs : z.cells.size = 1) (v : Value) (n : Nat) (xs : List Value) (hown : w.ownsRow 0 e 1 v n xs) (x : Value) (m : Nat) (news : List Value) (hs : Src P 1 tx x m news w)
    (hm : 0 < m) (hbytes : n + m ≤ 140737488355328) :
    ∃ v' w', (Builtin.append_ #[t, tx] ty #[v, x]).run P w = .ok v' w' ∧ w'.ownsRow 0 e 1 v' (n + m) (xs ++ news) ∧ w.grownBy w' v.ownBlock ∧ (v'.ownBlock = v.ownBlock ∨ v'.ownBlock = some w.heap.size) ∧ v'.ownBlock ≠ none := by
  have hl : news.length = m := by simpa using hs.newsLen
  have hx : xs.length = n := by simpa using hown.1
  have hlen : (xs ++ news).length = (n + m) * 1 := by rw [List.length_append, hl, hx, Nat.mul_one]
  have h63 : n + m ≤ maxLen := by simp only [maxLen]; omega
  have hs' : Src P i.size tx x m news w := by rw [hsize]; exact hs
  have grow : ∀ (base : Option Addr) (cap : Nat), cap < n + m → v = .slice base n cap → (Builtin.firstCells i.size n (.slice base n cap)).run P w.drew = .ok xs.toArray w.drew → ∀ row,
      ∃ v' w', (Builtin.append_ #[t, tx] ty #[v, x]).run P w = .ok v' w' ∧ w'.ownsRow 0 e 1 v' (n + m) (xs ++ news) ∧ w.grownBy w' row ∧ (v'.ownBlock = v.ownBlock ∨ v'.ownBlock = some w.heap.size) ∧ v'.ownBlock ≠ none := by
    intro base cap hcap hv hf row
    subst hv
    have hr := run_append_grow_src (P := P) w t tx ty e i z ht hi hz base n cap xs hf x m news hs' hcap (by omega) (growslice_fits (by omega) (by rw [hby]; omega))
    refine ⟨_, _, hr, ⟨hlen, .inr ⟨w.heap.size, _, _, rfl, Nat.zero_le _, heap_alloc_new w.drew _, grownCap_ge w (n + m) cap e, grownCap_le_maxLen w (n + m) cap e h63, ?_, ?_⟩⟩, ⟨rfl, rfl, rfl, by simp, fun k hk _ => heap_alloc_old w.drew _ hk⟩, .inr rfl, by simp [Value.ownBlock]⟩
    · have hge := grownCap_ge w (n + m) cap e
      simp only [Array.size_append, List.size_toArray, size_zeroCells, hzs, hlen]
      omega
    · simp only [Array.toList_append]
      rw [← hlen]
      exact List.take_left
  rcases hown.2 with ⟨rfl, rfl⟩ | ⟨g, cap, cur, rfl, _, hg, hnc, hcm, hcs, htake⟩
  · have : xs = [] := List.eq_nil_of_length_eq_zero hx
    subst this
    exact grow none 0 (by omega) rfl (run_firstCells_none w.drew i.size 0 0 0) _
  · by_cases hroom : n + m ≤ cap
    · have hcell : ∀ j, j < cur.size → w.cell? ⟨g, j, none⟩ = some (cur.getD j undef) := fun j hj => by simp [World.cell?, hg, hj]
      have hr := run_append_room_src (P := P) w t tx ty e i ht hi g 0 n cap x m news hs' hroom
        (fun j hj => by rw [hcell _ (by rw [hsize]; simp only [Nat.mul_one] at hcs ⊢; omega)]; rfl) (fun j _ => by simp [World.frozen?, hg])
      have hst := run_storeCells_at P g n e news 0 cur w hg (by simp only [Nat.mul_one] at hcs; simpa using (by omega : n + news.length ≤ cur.size)) hs.one
      have hst2 := run_storeCells_cells (P := P) g n news 0 w (fun j hj => by rw [hcell _ (by simp only [Nat.mul_one] at hcs; omega)]; rfl) (fun j _ => by simp [World.frozen?, hg]) hs.one
      simp only [Nat.add_zero] at hst hst2
      have hW : w.setCells g n news = w.setRow g (cur.toList.take n ++ news ++ cur.toList.drop (n + news.length)).toArray := by
        rw [hst] at hst2
        injection hst2 with _ h
        exact h.symm
      rw [hsize] at hr
      simp only [Nat.zero_add, Nat.mul_one] at hr hcs htake
      rw [hW] at hr
      refine ⟨_, _, hr, ⟨hlen, .inr ⟨g, cap, _, rfl, Nat.zero_le _, setRow_heap w g cur _ e _ hg, hroom, hcm, ?_, ?_⟩⟩, ⟨rfl, rfl, rfl, by simp, fun k _ hk => setRow_other w g k _ (fun e => hk (by simp [Value.ownBlock, e]))⟩, .inl rfl, by simp [Value.ownBlock]⟩
      · simp only [List.size_toArray, List.length_append, List.length_take, List.length_drop, Array.length_toList]
        omega
      · rw [htake, ← hlen]
        exact List.take_left
    · have holds : ∀ j u, xs[j]? = some u → w.cell? ((⟨g, 0, none⟩ : Addr).add j) = some u := hown.cells (g := g) rfl
      exact grow (some ⟨g, 0, none⟩) cap (by omega) rfl (by rw [hsize]; exact run_firstCells_some w.drew 1 n _ n cap xs (by simpa using hx) (by simpa using holds)) _

theorem wpList_append_w {P : Program} {w : World} {ops : Array Oper} {rest : List Oper} {o : Oper} {a : Act} {Q : Exit → Act → World → Prop} (hgd : o.guard = none) (s x : Operand) (t tx : TypeId)
    (ho : o.op = .call { callee := .builtin .append, args := #[s, x], argTypes := #[t, tx] }) (e : TypeId) (i : TypeInfo) (z : Value) (ht : P.underlying t = some (.slice e)) (hi : P.info? e = some i) (hz : i.zero = some z)
    (hsize : i.size = 1) (hby : i.bytes = 1) (hzs : z.cells.size = 1) (v : Value) (n : Nat) (xs : List Value) (hsv : a.eval s = v) (hown : w.ownsRow 0 e 1 v n xs) (y : Value) (hx : a.eval x = y) (m : Nat) (news : List Value) (hs : Src P 1 tx y m news w)
    (hm : 0 < m) (hbytes : n + m ≤ 140737488355328)
    (h : ∀ v' w', w'.ownsRow 0 e 1 v' (n + m) (xs ++ news) → w.grownBy w' v.ownBlock → (v'.ownBlock = v.ownBlock ∨ v'.ownBlock = some w.heap.size) → v'.ownBlock ≠ none → wpList P ops Q rest (a.put o.dst v') w') : wpList P ops Q (o :: rest) a w :=
  wpList_plain hgd fun K hK => by
    obtain ⟨v', w', hr, h2, h3, h4, h5⟩ := run_append_w (P := P) w t tx o.type e i z ht hi hz hsize hby hzs v n xs hown y m news hs hm hbytes
    unfold Oper.wp execOp
    simp only [ho, resolve, invoke, builtin, Sem.run_bind, Sem.run_pure, Result.andThen_ok, List.map_toArray, List.map_cons, List.map_nil, hsv, hx, hr]
    exact hK _ _ (h v' w' h2 h3 h4 h5)
end Go.Ab
end
section
namespace Go.Ab
open Go.Proofs Go.Maps Go.RowKit Go.Sort Go.Shelf ChangeMaps
/-- A range over the map at b is under way at r: 'es' have come. -/
structure KR (w : World) (b r : Nat) (ents : Array MapEntry) (clock : Nat) (es : List MapEntry) : Prop where
  map : w.heap[b]? = some (.map ents clock)
  it : ∃ c0, clock ≤ c0 ∧ w.heap[r]? = some (.mapIter (some b) clock (es.map (·.born)).toArray c0)
  sub : ∀ e ∈ es, e ∈ ents.toList
  nd : (es.map (·.born)).Nodup
variable {P : Program} {w : World} {b r : Nat} {ents : Array MapEntry} {clock : Nat} {es : List MapEntry}
theorem KR.walk (h : KR w b r ents clock es) : ∃ o : Obj, w.heap[r]? = some o ∧ o.isWalk = true := by
  obtain ⟨c0, _, h⟩ := h.it
  exact ⟨_, h, rfl⟩
theorem KR.of_walks {w' : World} (h : KR w b r ents clock es) (k : KeepsWalks w w') : KR w' b r ents clock es := by
  obtain ⟨c0, h1, h2⟩ := h.it
  exact ⟨k.same _ _ h.map rfl, ⟨c0, h1, k.same _ _ h2 rfl⟩, h.sub, h.nd⟩
theorem KR.left (h : KR w b r ents clock es) : w.rangeLeft b r = (leftOf ents (es.map (·.born)).toArray).size := by
  obtain ⟨c0, h1, h2⟩ := h.it
  simp only [World.rangeLeft, h.map, h2]
theorem range_KR {t k e : TypeId} (ht : P.underlying t = some (.map k e)) (hb : w.heap[b]? = some (.map ents clock)) :
    ∃ w', (Instr.range t (.map (some b))).run P w = .ok (.pointer (some ⟨w.heap.size, 0, none⟩)) w' ∧ KR w' b w.heap.size ents clock [] ∧ w.grownBy w' none ∧ w'.heap.size = w.heap.size + 1 := by
  have hlt : b < w.heap.size := (Array.getElem?_eq_some_iff.1 hb).1
  exact ⟨_, run_range_map w t k e b ents clock ht hb, ⟨((MapKept.heap_alloc w _).2 b hlt).trans hb, ⟨clock, Nat.le_refl _, (MapKept.heap_alloc w _).1⟩, fun _ h => (by cases h), .nil⟩, World.grownBy_alloc w _ none, by simp⟩
theorem KR.next (h : KR w b r ents clock es) (hold : ∀ x ∈ ents.toList, x.born < clock) (hnd : (ents.toList.map (·.born)).Nodup) (ty : TypeId) :
    (es.Perm ents.toList ∧ (Instr.next (.pointer (some ⟨r, 0, none⟩)) false ty).run P w = .ok (.tuple #[.bool false]) w) ∨
    ∃ e w', e ∈ ents.toList ∧ (Instr.next (.pointer (some ⟨r, 0, none⟩)) false ty).run P w = .ok (.tuple #[.bool true, e.key, e.val]) w' ∧ KR w' b r ents clock (es ++ [e]) ∧ es.length < ents.size ∧ w'.rangeLeft b r < w.rangeLeft b r ∧
      w.grownBy w' (some r) ∧ w'.heap.size = w.heap.size ∧ (Instr.entry (.pointer (some ⟨r, 0, none⟩))).run P w' = .ok (.tuple #[e.key, e.val]) w' := by
  obtain ⟨c0, hc, hr⟩ := h.it
  have hne : r ≠ b := fun e => by rw [e, h.map] at hr; cases hr
  have hmn : ents.toList.Nodup := by
    unfold List.Nodup at hnd ⊢
    rw [List.pairwise_map] at hnd
    exact hnd.imp fun h q => h (by rw [q])
  have hen : es.Nodup := by
    have := h.nd
    unfold List.Nodup at this ⊢
    rw [List.pairwise_map] at this
    exact this.imp fun h q => h (by rw [q])
  rcases run_next_at (P := P) w ty r b clock c0 (es.map (·.born)).toArray ents clock hr h.map hold hc with ⟨h0, hrun⟩ | ⟨e, he, w1, hal, hrun⟩
  · left
    refine ⟨(List.perm_ext_iff_of_nodup hen hmn).2 fun x => ⟨h.sub x, fun hx => ?_⟩, hrun⟩
    have := all_seen ents _ h0 x hx
    simp only [List.contains_toArray, List.contains_iff_mem, List.mem_map] at this
    obtain ⟨y, hy, hyx⟩ := this
    rw [← nodup_inj hnd (h.sub y hy) hx hyx]; exact hy
  · right
    obtain ⟨hem, hes⟩ := mem_left he
    simp only [List.contains_toArray, ← Bool.not_eq_true, List.contains_iff_mem] at hes
    have hr1 : w1.heap[r]? = some (.mapIter (some b) clock (es.map (·.born)).toArray c0) := by rcases hal with rfl | rfl <;> exact hr
    have hb1 : w1.heap[b]? = some (.map ents clock) := by rcases hal with rfl | rfl <;> exact h.map
    have hset := MapKept.heap_set (o' := .mapIter (some b) clock ((es.map (·.born)).toArray.push e.born) clock) hr1
    have hb' : (ChangeMaps.setBlock w1 r (.mapIter (some b) clock ((es.map (·.born)).toArray.push e.born) clock)).heap[b]? = some (.map ents clock) := (hset.2 b (fun e1 => hne e1.symm)).trans hb1
    have hlen : es.length < ents.size := by
      have hx : e ∉ es := fun hx => hes (List.mem_map.2 ⟨e, hx, rfl⟩)
      have := nodup_le (l := e :: es) (m := ents.toList) (List.nodup_cons.2 ⟨hx, hen⟩) fun x hx => by
        rcases List.mem_cons.1 hx with rfl | hx
        · exact hem
        · exact h.sub x hx
      simp only [List.length_cons, Array.length_toList] at this
      omega
    have hpush : (es.map (·.born)).toArray.push e.born = ((es ++ [e]).map (·.born)).toArray := by simp
    have hk : KR (ChangeMaps.setBlock w1 r (.mapIter (some b) clock ((es.map (·.born)).toArray.push e.born) clock)) b r ents clock (es ++ [e]) :=
      ⟨hb', ⟨clock, Nat.le_refl _, by rw [← hpush]; exact hset.1⟩, fun x hx => by
        rcases List.mem_append.1 hx with hx | hx
        · exact h.sub x hx
        · rw [List.mem_singleton.1 hx]; exact hem, by
        rw [List.map_append, List.nodup_append]
        refine ⟨h.nd, by simp, fun x hx y hy => ?_⟩
        rintro rfl
        rw [List.mem_singleton.1 hy] at hx
        exact hes hx⟩
    refine ⟨e, _, hem, hrun, hk, hlen, ?_, ?_, ?_, run_entry_at _ r b clock _ ents clock e hset.1 hb' hem hnd⟩
    · rw [hk.left, h.left, ← hpush]
      exact left_shrinks ents _ e he
    · rcases hal with rfl | rfl <;> exact ⟨rfl, rfl, rfl, by simp [ChangeMaps.setBlock], fun i _ hi => hset.2 i (fun e1 => hi (by rw [e1]))⟩
    · rcases hal with rfl | rfl <;> simp [ChangeMaps.setBlock]
section
variable {F : Fence} {n : Nat} {ops : Array Oper} {rest : List Oper} {o : Oper} {a : Act} {Q : Exit → Act → World → Prop}
theorem wpListIn_range_K (hg : o.guard = none) (m : Operand) (t : TypeId) (hop : o.op = Op.range t m) {k e : TypeId} (ht : P.underlying t = some (.map k e)) (hm : a.eval m = .map (some b)) (hb : w.heap[b]? = some (.map ents clock))
    (hK : ∀ w', KR w' b w.heap.size ents clock [] → w.grownBy w' none → w'.heap.size = w.heap.size + 1 → wpListIn F n P ops Q rest (a.put o.dst (.pointer (some ⟨w.heap.size, 0, none⟩))) w') :
    wpListIn F n P ops Q (o :: rest) a w := by
  refine wpListIn_plain hg fun K' hK' => ?_
  obtain ⟨w', hrun, r1, r2, r3⟩ := range_KR (P := P) ht hb
  unfold Oper.wpIn
  refine ⟨?_, ?_⟩
  · simp [Oper.about, hop]
  · rw [Oper.semAt_plain F _ _ (by rw [hop]; intro c hc'; cases hc')]
    simp [execOp, hop, hm, hrun, Result.andThen]
    exact hK' _ _ (hK w' r1 r2 r3)
theorem wpListIn_next_K (hg : o.guard = none) (it : Operand) (hop : o.op = Op.next it false) (hit : a.eval it = .pointer (some ⟨r, 0, none⟩)) (h : KR w b r ents clock es) (hold : ∀ x ∈ ents.toList, x.born < clock) (hnd : (ents.toList.map (·.born)).Nodup)
    (hDone : es.Perm ents.toList → wpListIn F n P ops Q rest (a.put o.dst (.tuple #[.bool false])) w)
    (hMore : ∀ (e : MapEntry) (w' : World), e ∈ ents.toList → KR w' b r ents clock (es ++ [e]) → es.length < ents.size → w'.rangeLeft b r < w.rangeLeft b r → w.grownBy w' (some r) → w'.heap.size = w.heap.size →
      (Instr.entry (.pointer (some ⟨r, 0, none⟩))).run P w' = .ok (.tuple #[e.key, e.val]) w' → wpListIn F n P ops Q rest (a.put o.dst (.tuple #[.bool true, e.key, e.val])) w') :
    wpListIn F n P ops Q (o :: rest) a w := by
  refine wpListIn_plain hg fun K' hK' => ?_
  unfold Oper.wpIn
  refine ⟨by simp [Oper.about, hop], ?_⟩
  rw [Oper.semAt_plain F _ _ (by rw [hop]; intro c hc'; cases hc')]
  rcases h.next (P := P) hold hnd o.type with ⟨h0, hrun⟩ | ⟨e, w', hem, hrun, hk, hlen, hlt, hgr, hsz, hen⟩
  · simp [execOp, hop, hit, hrun, Result.andThen]
    exact hK' _ _ (hDone h0)
  · simp [execOp, hop, hit, hrun, Result.andThen]
    exact hK' _ _ (hMore e w' hem hk hlen hlt hgr hsz hen)
end
end Go.Ab
end
