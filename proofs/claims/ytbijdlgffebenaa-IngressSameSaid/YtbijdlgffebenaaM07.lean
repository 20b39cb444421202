/- Ranging over a map whose body strikes entries: a step of the range, in code; the whole loop. No condition: over any program. -/
import Derived.Test.YtbijdlgffebenaaAb9
import Derived.Maps.OwnSet
import Derived.Test.YtbijdlgffebenaaWa
import Derived.Test.YtbijdlgffebenaaAb5
section
namespace Go.Ab
attribute [simp] entryOut curR
variable {P : Program} {n B : Nat} {Q : Exit → St → Prop} {σ : St} {ty : TyTab} {Γ : Gam}

end Go.Ab
end
section
namespace Go.Ab

theorem keep_below {g : G} {w' : World} (h : RowKit.Below g.w.heap.size g.w w') : Keep g { g with w := w' } where
  len := Nat.le_refl _
  ptr _ _ := rfl
  rooms _ _ e h := ⟨e, h, Nat.le_refl _, fun _ => rfl⟩
  size := h.size
  cells a x hx _ := by rw [← hx]; simp only [World.cell?]; rw [h.block _ (cell_lt hx)]
  regs _ _ h := h
  blocks b hb _ := h.block b hb
  io := ⟨h.os, h.output⟩
  xs _ h := h
  xcell a ha _ := by simp only [World.cell?, World.frozen?]; rw [h.block _ ha]; exact ⟨rfl, rfl⟩
  xblk b hb _ := h.block b hb

theorem sim_below {g : G} {w' : World} (h : RowKit.Below g.w.heap.size g.w w') (s : Sim g) : Sim { g with w := w' } where
  fct := s.fct.keep (keep_below h)
  blk i cells hi := by
    obtain ⟨xs, T, h1, h2, h3, h4⟩ := s.blk i cells hi
    exact ⟨xs, T, (h.block _ (blk_lt s hi)).trans h1, h2, fun j hj => (h3 j hj).keep (keep_below h), h4⟩
  iter i t pos hi := (h.block _ (iter_lt s hi)).trans (s.iter i t pos hi)
  room t e ht k hk := by
    obtain ⟨x, h1, h2⟩ := s.room t e ht k hk
    have hb := cell_lt h1
    refine ⟨x, ?_, ?_⟩
    · simp only [World.cell?] at h1 ⊢; rw [h.block _ hb]; exact h1
    · simp only [World.frozen?] at h2 ⊢; rw [h.block _ hb]; exact h2
  disj := s.disj
  inb a ha := Nat.lt_of_lt_of_le (s.inb a ha) h.size
  xdis := s.xdis
  mapo i es hi := by
    obtain ⟨o', h1, h2⟩ := s.mapo i es hi
    exact ⟨o', (h.block _ (mapo_lt s hi)).trans h1, h2.keep (keep_below h)⟩
  opq i φ hi := by
    have e1 := h.block _ (whole_lt s hi (.inl rfl))
    have e2 := h.block _ (whole_lt s hi (.inr rfl))
    show φ _ _ (w'.heap[g.β i]?) (w'.heap[(g.ρ i).b]?)
    rw [e1, e2]; exact s.opq i φ hi
  mapr i es vis cur t hi := by
    obtain ⟨t1, t2, o', oi, h1, h2, h3⟩ := s.mapr i es vis cur t hi
    exact ⟨t1, t2, o', oi, (h.block _ (whole_lt s hi (.inl rfl))).trans h1, (h.block _ (whole_lt s hi (.inr rfl))).trans h2, h3.keep (keep_below h)⟩

end Go.Ab
end
section
namespace Go.Ab

/-- The block of a Writer (type T) and that of its bytes (type E). -/
def WrB (T E : TypeId) (bs : List Int) (b rb : Nat) (o1 o2 : Option Obj) : Prop :=
  ∃ p v, o1 = some (.cells #[p, v] T (0, 0)) ∧ (p = .pointer none ∨ p = .pointer (some ⟨b, 0, none⟩)) ∧
    ((v = .slice none 0 0 ∧ bs = [] ∧ rb = b) ∨
     ∃ cap cur, v = .slice (some ⟨rb, 0, none⟩) bs.length cap ∧ rb ≠ b ∧ o2 = some (.cells cur E (0, 0)) ∧ bs.length ≤ cap ∧ cap ≤ maxLen ∧ cur.size = cap ∧ cur.toList.take bs.length = bs.map (Value.int .u8))

/-- A Writer. -/
def wrO (T E : TypeId) (bs : List Int) : Opq := ⟨bs, WrB T E⟩
/-- One whose text has been taken: its bytes are frozen. -/
def wrX : Opq := ⟨[], fun _ _ _ _ _ => True⟩

theorem wr_fresh (T E : TypeId) (b : Nat) (o : Option Obj) : (wrO T E []) b b (some (.cells #[.pointer none, .slice none 0 0] T (0, 0))) o :=
  ⟨_, _, rfl, .inl rfl, .inl ⟨rfl, rfl, rfl⟩⟩

theorem WrB.at {T E : TypeId} {bs : List Int} {b rb : Nat} {w : World} (h : WrB T E bs b rb (w.heap[b]?) (w.heap[rb]?)) :
    ∃ p v, w.heap[b]? = some (.cells #[p, v] T (0, 0)) ∧ (p = .pointer none ∨ p = .pointer (some ⟨b, 0, none⟩)) ∧ w.ownsRow 0 E 1 v bs.length (bs.map (Value.int .u8)) ∧
      v.ownBlock ≠ some b ∧ ((v.ownBlock = none ∧ rb = b) ∨ v.ownBlock = some rb) := by
  obtain ⟨p, v, h1, h2, h3⟩ := h
  refine ⟨p, v, h1, h2, ?_⟩
  rcases h3 with ⟨rfl, rfl, rfl⟩ | ⟨cap, cur, rfl, hne, ho, hc, hm, hs, ht⟩
  · exact ⟨⟨by simp, .inl ⟨rfl, rfl⟩⟩, by simp [Value.ownBlock], .inl ⟨rfl, rfl⟩⟩
  · exact ⟨⟨by simp, .inr ⟨rb, cap, cur, rfl, Nat.zero_le _, ho, hc, hm, by simpa using hs, by simpa using ht⟩⟩, by simpa [Value.ownBlock] using hne, .inr rfl⟩

theorem WrB.of {T E : TypeId} {bs : List Int} {b : Nat} {p v : Value} {w : World} (h1 : w.heap[b]? = some (.cells #[p, v] T (0, 0))) (h2 : p = .pointer none ∨ p = .pointer (some ⟨b, 0, none⟩))
    (h3 : w.ownsRow 0 E 1 v bs.length (bs.map (Value.int .u8))) (h4 : v.ownBlock ≠ some b) : WrB T E bs b (v.ownBlock.getD b) (w.heap[b]?) (w.heap[v.ownBlock.getD b]?) := by
  refine ⟨p, v, h1, h2, ?_⟩
  rcases h3.2 with ⟨rfl, hn⟩ | ⟨g, cap, cur, rfl, _, ho, hc, hm, hs, ht⟩
  · exact .inl ⟨rfl, List.eq_nil_of_length_eq_zero hn, rfl⟩
  · simp only [Value.ownBlock, ne_eq, Option.some.injEq, Option.getD_some] at h4 ⊢
    exact .inr ⟨cap, cur, rfl, h4, ho, hc, hm, by simpa using hs, by simpa using ht⟩

/-- All but a Writer's two blocks is as it was. -/
structure WrKeep (b : Nat) (ob : Option Nat) (w w' : World) : Prop where
  size : w.heap.size ≤ w'.heap.size
  os : w'.os = w.os
  output : w'.output = w.output
  block : ∀ k, k < w.heap.size → k ≠ b → some k ≠ ob → w'.heap[k]? = w.heap[k]?

theorem WrKeep.refl (b : Nat) (ob : Option Nat) (w : World) : WrKeep b ob w w := ⟨Nat.le_refl _, rfl, rfl, fun _ _ _ _ => rfl⟩
theorem WrKeep.trans {b : Nat} {ob : Option Nat} {w w' w'' : World} (h : WrKeep b ob w w') (h' : WrKeep b ob w' w'') : WrKeep b ob w w'' :=
  ⟨Nat.le_trans h.size h'.size, h'.os.trans h.os, h'.output.trans h.output, fun k h1 h2 h3 => (h'.block k (Nat.lt_of_lt_of_le h1 h.size) h2 h3).trans (h.block k h1 h2 h3)⟩
theorem WrKeep.grown {b : Nat} {ob : Option Nat} {w w' : World} (h : w.grownBy w' ob) : WrKeep b ob w w' := ⟨h.size, h.os, h.output, fun k h1 _ h3 => h.block k h1 h3⟩
theorem heap_setCell_ne {w : World} {b off k : Nat} {v : Value} (h : k ≠ b) : (w.setCell ⟨b, off, none⟩ v).heap[k]? = w.heap[k]? := by
  simp only [World.setCell, Array.getElem?_modify]
  rw [if_neg (fun e => h e.symm)]
theorem WrKeep.setCell (b off : Nat) (ob : Option Nat) (w : World) (v : Value) : WrKeep b ob w (w.setCell ⟨b, off, none⟩ v) :=
  ⟨by simp [World.setCell], rfl, rfl, fun _ _ h2 _ => heap_setCell_ne h2⟩

/-- An append to a row of one's own, of whatever yields cells: where the row lies then. -/
theorem run_append_w {P : Program} (w : World) (t tx ty e : TypeId) (i : TypeInfo) (z : Value) (ht : P.underlying t = some (.slice e)) (hi : P.info? e = some i) (hz : i.zero = some z)
    (hsize : i.size = 1) (hby : i.bytes = 1) (hzs : z.cells.size = 1) (v : Value) (n : Nat) (xs : List Value) (hown : w.ownsRow 0 e 1 v n xs) (x : Value) (m : Nat) (news : List Value) (hs : Src P 1 tx x m news w)
    (hm : 0 < m) (hbytes : n + m ≤ 140737488355328) :
    ∃ v' w', (Builtin.append_ #[t, tx] ty #[v, x]).run P w = .ok v' w' ∧ w'.ownsRow 0 e 1 v' (n + m) (xs ++ news) ∧ w.grownBy w' v.ownBlock ∧ (v'.ownBlock = v.ownBlock ∨ v'.ownBlock = some w.heap.size) ∧ v'.ownBlock ≠ none := by
  have hl : news.length = m := by simpa using hs.newsLen
  have hx : xs.length = n := by simpa using hown.1
  have hlen : (xs ++ news).length = (n + m) * 1 := by rw [List.length_append, hl, hx, Nat.mul_one]
  have h63 : n + m ≤ maxLen := by simp only [maxLen]; omega
  have hs' : Src P i.size tx x m news w := by rw [hsize]; exact hs
  have grow : ∀ (base : Option Addr) (cap : Nat), cap < n + m → v = .slice base n cap → (Builtin.firstCells i.size n (.slice base n cap)).run P w.drew = .ok xs.toArray w.drew → ∀ row,
      ∃ v' w', (Builtin.append_ #[t, tx] ty #[v, x]).run P w = .ok v' w' ∧ w'.ownsRow 0 e 1 v' (n + m) (xs ++ news) ∧ w.grownBy w' row ∧ (v'.ownBlock = v.ownBlock ∨ v'.ownBlock = some w.heap.size) ∧ v'.ownBlock ≠ none := by
    intro base cap hcap hv hf row
    subst hv
    have hr := run_append_grow_src (P := P) w t tx ty e i z ht hi hz base n cap xs hf x m news hs' hcap (by omega) (growslice_fits (by omega) (by rw [hby]; omega))
    refine ⟨_, _, hr, ⟨hlen, .inr ⟨w.heap.size, _, _, rfl, Nat.zero_le _, heap_alloc_new w.drew _, grownCap_ge w (n + m) cap e, grownCap_le_maxLen w (n + m) cap e h63, ?_, ?_⟩⟩, ⟨rfl, rfl, rfl, by simp, fun k hk _ => heap_alloc_old w.drew _ hk⟩, .inr rfl, by simp [Value.ownBlock]⟩
    · have hge := grownCap_ge w (n + m) cap e
      simp only [Array.size_append, List.size_toArray, size_zeroCells, hzs, hlen]
      omega
    · simp only [Array.toList_append]
      rw [← hlen]
      exact List.take_left
  rcases hown.2 with ⟨rfl, rfl⟩ | ⟨g, cap, cur, rfl, _, hg, hnc, hcm, hcs, htake⟩
  · have : xs = [] := List.eq_nil_of_length_eq_zero hx
    subst this
    exact grow none 0 (by omega) rfl (run_firstCells_none w.drew i.size 0 0 0) _
  · by_cases hroom : n + m ≤ cap
    · have hcell : ∀ j, j < cur.size → w.cell? ⟨g, j, none⟩ = some (cur.getD j undef) := fun j hj => by simp [World.cell?, hg, hj]
      have hr := run_append_room_src (P := P) w t tx ty e i ht hi g 0 n cap x m news hs' hroom
        (fun j hj => by rw [hcell _ (by rw [hsize]; simp only [Nat.mul_one] at hcs ⊢; omega)]; rfl) (fun j _ => by simp [World.frozen?, hg])
      have hst := run_storeCells_at P g n e news 0 cur w hg (by simp only [Nat.mul_one] at hcs; simpa using (by omega : n + news.length ≤ cur.size)) hs.one
      have hst2 := run_storeCells_cells (P := P) g n news 0 w (fun j hj => by rw [hcell _ (by simp only [Nat.mul_one] at hcs; omega)]; rfl) (fun j _ => by simp [World.frozen?, hg]) hs.one
      simp only [Nat.add_zero] at hst hst2
      have hW : w.setCells g n news = w.setRow g (cur.toList.take n ++ news ++ cur.toList.drop (n + news.length)).toArray := by
        rw [hst] at hst2
        injection hst2 with _ h
        exact h.symm
      rw [hsize] at hr
      simp only [Nat.zero_add, Nat.mul_one] at hr hcs htake
      rw [hW] at hr
      refine ⟨_, _, hr, ⟨hlen, .inr ⟨g, cap, _, rfl, Nat.zero_le _, setRow_heap w g cur _ e _ hg, hroom, hcm, ?_, ?_⟩⟩, ⟨rfl, rfl, rfl, by simp, fun k _ hk => setRow_other w g k _ (fun e => hk (by simp [Value.ownBlock, e]))⟩, .inl rfl, by simp [Value.ownBlock]⟩
      · simp only [List.size_toArray, List.length_append, List.length_take, List.length_drop, Array.length_toList]
        omega
      · rw [htake, ← hlen]
        exact List.take_left
    · have holds : ∀ j u, xs[j]? = some u → w.cell? ((⟨g, 0, none⟩ : Addr).add j) = some u := hown.cells (g := g) rfl
      exact grow (some ⟨g, 0, none⟩) cap (by omega) rfl (by rw [hsize]; exact run_firstCells_some w.drew 1 n _ n cap xs (by simpa using hx) (by simpa using holds)) _

theorem wpList_append_w {P : Program} {w : World} {ops : Array Oper} {rest : List Oper} {o : Oper} {a : Act} {Q : Exit → Act → World → Prop} (hgd : o.guard = none) (s x : Operand) (t tx : TypeId)
    (ho : o.op = .call { callee := .builtin .append, args := #[s, x], argTypes := #[t, tx] }) (e : TypeId) (i : TypeInfo) (z : Value) (ht : P.underlying t = some (.slice e)) (hi : P.info? e = some i) (hz : i.zero = some z)
    (hsize : i.size = 1) (hby : i.bytes = 1) (hzs : z.cells.size = 1) (v : Value) (n : Nat) (xs : List Value) (hsv : a.eval s = v) (hown : w.ownsRow 0 e 1 v n xs) (y : Value) (hx : a.eval x = y) (m : Nat) (news : List Value) (hs : Src P 1 tx y m news w)
    (hm : 0 < m) (hbytes : n + m ≤ 140737488355328)
    (h : ∀ v' w', w'.ownsRow 0 e 1 v' (n + m) (xs ++ news) → w.grownBy w' v.ownBlock → (v'.ownBlock = v.ownBlock ∨ v'.ownBlock = some w.heap.size) → v'.ownBlock ≠ none → wpList P ops Q rest (a.put o.dst v') w') : wpList P ops Q (o :: rest) a w :=
  wpList_plain hgd fun K hK => by
    obtain ⟨v', w', hr, h2, h3, h4, h5⟩ := run_append_w (P := P) w t tx o.type e i z ht hi hz hsize hby hzs v n xs hown y m news hs hm hbytes
    unfold Oper.wp execOp
    simp only [ho, resolve, invoke, builtin, Sem.run_bind, Sem.run_pure, Result.andThen_ok, List.map_toArray, List.map_cons, List.map_nil, hsv, hx, hr]
    exact hK _ _ (h v' w' h2 h3 h4 h5)
end Go.Ab
end
section
namespace Go.Ab
/-! ### Numbers -/
theorem wrap64_of {n : Int} (h0 : -9223372036854775808 ≤ n) (h1 : n < 9223372036854775808) : IntKind.i64.wrap n = n := by
  rw [IntKind.wrap_i64]; omega

theorem and_mask {j : Nat} (hj : j ≤ 62) (a m : Int) (hm : m = 2 ^ j - 1) : IntKind.i64.wrap ((BitVec.ofInt IntKind.i64.bits a &&& BitVec.ofInt IntKind.i64.bits m).toNat : Nat) = a % 2 ^ j := by
  have hb : IntKind.i64.bits = 64 := rfl
  have hp : (2 : Int) ^ j ≤ 2 ^ 62 := by
    have : (2 : Nat) ^ j ≤ 2 ^ 62 := Nat.pow_le_pow_right (by omega) hj
    exact_mod_cast this
  have h0 : (0 : Int) < 2 ^ j := Int.pow_pos (by omega)
  have hm' : (BitVec.ofInt 64 m).toNat = 2 ^ j - 1 := by
    rw [BitVec.toNat_ofInt]
    have e : m % ((2 ^ 64 : Nat) : Int) = m := Int.emod_eq_of_lt (by omega) (by
      rw [hm]
      have : (2 : Int) ^ 62 < ((2 ^ 64 : Nat) : Int) := by decide
      omega)
    rw [e, hm]
    have : ((2 ^ j : Nat) : Int) = (2 : Int) ^ j := by push_cast; rfl
    rw [← this]; omega
  rw [hb, BitVec.toNat_and, hm', Nat.and_two_pow_sub_one_eq_mod, BitVec.toNat_ofInt]
  have e1 : (((a % ((2 ^ 64 : Nat) : Int)).toNat % 2 ^ j : Nat) : Int) = a % 2 ^ j := by
    rw [Int.natCast_emod, Int.toNat_of_nonneg (Int.emod_nonneg _ (by decide)), Int.natCast_pow]
    refine Int.emod_emod_of_dvd _ ?_
    have : ((2 ^ j : Nat) : Int) ∣ ((2 ^ 64 : Nat) : Int) := Int.natCast_dvd_natCast.2 (Nat.pow_dvd_pow 2 (by omega))
    simpa only [Int.natCast_pow] using this
  rw [e1]
  have h2 := Int.emod_nonneg a (b := (2 : Int) ^ j) (by omega)
  have h3 := Int.emod_lt_of_pos a h0
  exact wrap64_of (by omega) (by omega)
theorem and_mask' {j : Nat} (hj : j ≤ 62) (a m : Int) (hm : m = 2 ^ j - 1) : bitsOp .and .i64 a m = a % 2 ^ j := and_mask hj a m hm
end Go.Ab
end
