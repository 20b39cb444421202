/- A Writer's Builder: WriteByte and WriteString as contracts on abstract values. No condition. -/
import Derived.Test.YtjjjeolcapebbaaGreatDoorM06
namespace Go.Ab
open Go.Proofs Go.RowKit

/-- A byte is put behind. -/
@[simp] def wrPutB (T E : TypeId) : Sp
  | [.ptr i 0, .lit (.int .u8 c)], M => match M[i]? with
    | some (.opq φ) => some { av := .lit .nilIface, M := some (M.set i (.opq (wrO T E (appL φ.bs [c])))), obl := φ = wrO T E φ.bs ∧ AppB (lenL φ.bs) 1 1 }
    | _ => none
  | _, _ => none
/-- A text is put behind. -/
@[simp] def wrPutT (T E : TypeId) : Sp
  | [.ptr i 0, .lit (.string s)], M => match M[i]? with
    | some (.opq φ) => some { av := .tup [.lit (.int .i64 (lenS s)), .lit .nilIface], M := some (M.set i (.opq (wrO T E (appL φ.bs (numsOf s))))), obl := φ = wrO T E φ.bs ∧ 0 < lenS s ∧ AppB (lenL φ.bs) (lenS s) 1 }
    | _ => none
  | _, _ => none

theorem putV_ok {P : Program} {f : FuncId} {T E : TypeId} {g : G} {i : Nat} {φ : Opq} {u : Value} {news : List Int} {c : Nat} {e : Value} {av : AV} {ob : Prop} (hent : (callFunc f #[.pointer (some ⟨g.β i, 0, none⟩), u]).run P g.w = .ok (.enter f #[.pointer (some ⟨g.β i, 0, none⟩), u]) g.w)
    (sm : Sim g) (hMi : g.M[i]? = some (.opq φ)) (hφ : φ = wrO T E φ.bs) (hre : ∀ g' : G, R g' av e)
    (hU : ∀ (b : Nat) (w : World) (p v : Value) (n : Nat) (xs : List Value), w.heap[b]? = some (.cells #[p, v] T (0, 0)) → (p = .pointer none ∨ p = .pointer (some ⟨b, 0, none⟩)) → w.ownsRow 0 E 1 v n xs → v.ownBlock ≠ some b → n + news.length ≤ 140737488355328 →
      Calls P f #[.pointer (some ⟨b, 0, none⟩), u] w fun e' w' => e' = .returned e ∧
      ∃ v', w'.heap[b]? = some (.cells #[.pointer (some ⟨b, 0, none⟩), v'] T (0, 0)) ∧ w'.ownsRow 0 E 1 v' (n + news.length) (xs ++ news.map (Value.int .u8)) ∧ v'.ownBlock ≠ some b ∧ WrKeep b v.ownBlock w w' ∧
        (v'.ownBlock = v.ownBlock ∨ v'.ownBlock = some (w.heap.size + c)) ∧ ∀ g, v'.ownBlock = some g → g < w'.heap.size)
    (happ : φ.bs.length + news.length ≤ 140737488355328) :
    (callFunc f #[.pointer (some ⟨g.β i, 0, none⟩), u]).run P g.w = .ok (.enter f #[.pointer (some ⟨g.β i, 0, none⟩), u]) g.w ∧
      Calls P f #[.pointer (some ⟨g.β i, 0, none⟩), u] g.w fun e' w' => ∃ v, e' = .returned v ∧ Post g { av := av, M := some (g.M.set i (.opq (wrO T E (appL φ.bs news)))), obl := ob } v w' := by
  refine ⟨hent, ?_⟩
  have hq := sm.opq i φ hMi
  rw [hφ] at hq
  obtain ⟨p, v, h1, h2, h3, h4, h5⟩ := WrB.at hq
  refine (hU (g.β i) g.w p v φ.bs.length (φ.bs.map (Value.int .u8)) h1 h2 h3 h4 happ).mono ?_
  rintro e' w' ⟨rfl, v', k1, k2, k3, k4, k5, k6⟩
  have hW : WrB T E (φ.bs ++ news) (g.β i) (v'.ownBlock.getD (g.β i)) (w'.heap[g.β i]?) (w'.heap[v'.ownBlock.getD (g.β i)]?) := by
    refine WrB.of k1 (.inr rfl) ?_ k3
    simpa using k2
  have hρ : v.ownBlock = none ∧ (g.ρ i).b = g.β i ∨ v.ownBlock = some (g.ρ i).b := h5
  obtain ⟨kk, ss⟩ := opq_turn sm hMi (φ' := wrO T E (φ.bs ++ news)) (w' := w') (rb := v'.ownBlock.getD (g.β i)) k4.size ⟨k4.os, k4.output⟩ (fun k q1 q2 q3 => k4.block k q1 q2 (by
      rcases hρ with ⟨h, _⟩ | h <;> rw [h]
      · simp
      · simpa using q3))
    (by
      rcases k5 with h | h
      · rcases hρ with ⟨h', _⟩ | h'
        · right; left; rw [h, h']; rfl
        · left; rw [h, h']; rfl
      · right; right; rw [h]; exact ⟨Nat.le_add_right _ _, k6 _ h⟩) hW
  exact ⟨_, rfl, g.β, _, ss, hre _, kk⟩

theorem putB_ok {P : Program} {f : FuncId} {T E : TypeId} (hent : ∀ args w, (callFunc f args).run P w = .ok (.enter f args) w)
    (hU : ∀ (b : Nat) (w : World) (p v : Value) (n : Nat) (xs : List Value) (c : Int), w.heap[b]? = some (.cells #[p, v] T (0, 0)) → (p = .pointer none ∨ p = .pointer (some ⟨b, 0, none⟩)) → w.ownsRow 0 E 1 v n xs → v.ownBlock ≠ some b → n + 1 ≤ 140737488355328 →
      Calls P f #[.pointer (some ⟨b, 0, none⟩), .int .u8 c] w fun e w' => e = .returned .nilIface ∧
      ∃ v', w'.heap[b]? = some (.cells #[.pointer (some ⟨b, 0, none⟩), v'] T (0, 0)) ∧ w'.ownsRow 0 E 1 v' (n + 1) (xs ++ [.int .u8 c]) ∧ v'.ownBlock ≠ some b ∧ WrKeep b v.ownBlock w w' ∧
        (v'.ownBlock = v.ownBlock ∨ v'.ownBlock = some (w.heap.size + 1)) ∧ ∀ g, v'.ownBlock = some g → g < w'.heap.size) : SpecOk P f (wrPutB T E) := by
  intro l M out h
  unfold wrPutB at h
  split at h
  · rename_i i c
    split at h
    · rename_i φ hMi
      cases h
      intro g vs hM sm hr ho
      subst hM
      obtain ⟨hφ, happ⟩ := ho
      cases hr with | cons hv hr => cases hr with | cons hs hr => cases hr with | nil =>
      cases hs
      cases hv with
      | ptr _ _ hi =>
      exact putV_ok (news := [c]) (c := 1) (hent _ _) sm hMi hφ (fun _ => .lit _) (fun b w p v n xs k1 k2 k3 k4 k5 => hU b w p v n xs c k1 k2 k3 k4 k5) (by
        have := happ.1
        simp only [lenL] at this
        simp only [List.length_cons, List.length_nil]
        omega)
    · cases h
  · cases h

theorem putT_ok {P : Program} {f : FuncId} {T E : TypeId} (hent : ∀ args w, (callFunc f args).run P w = .ok (.enter f args) w)
    (hU : ∀ (b : Nat) (w : World) (p v : Value) (n : Nat) (xs : List Value) (s : ByteArray), w.heap[b]? = some (.cells #[p, v] T (0, 0)) → (p = .pointer none ∨ p = .pointer (some ⟨b, 0, none⟩)) → w.ownsRow 0 E 1 v n xs → v.ownBlock ≠ some b → 0 < s.size → n + s.size ≤ 140737488355328 →
      Calls P f #[.pointer (some ⟨b, 0, none⟩), .string s] w fun e w' => e = .returned (.tuple #[.int .i64 s.size, .nilIface]) ∧
      ∃ v', w'.heap[b]? = some (.cells #[.pointer (some ⟨b, 0, none⟩), v'] T (0, 0)) ∧ w'.ownsRow 0 E 1 v' (n + s.size) (xs ++ byteCells s) ∧ v'.ownBlock ≠ some b ∧ WrKeep b v.ownBlock w w' ∧
        (v'.ownBlock = v.ownBlock ∨ v'.ownBlock = some w.heap.size) ∧ ∀ g, v'.ownBlock = some g → g < w'.heap.size) : SpecOk P f (wrPutT T E) := by
  intro l M out h
  unfold wrPutT at h
  split at h
  · rename_i i s
    split at h
    · rename_i φ hMi
      cases h
      intro g vs hM sm hr ho
      subst hM
      obtain ⟨hφ, hpos, happ⟩ := ho
      cases hr with | cons hv hr => cases hr with | cons hs hr => cases hr with | nil =>
      cases hs
      have hl : (numsOf s).length = s.size := by
        unfold numsOf
        rw [List.length_map]
        exact Array.length_toList
      have hc : byteCells s = (numsOf s).map (Value.int .u8) := by
        unfold byteCells numsOf
        rw [List.map_map]
        rfl
      cases hv with
      | ptr _ _ hi =>
      refine putV_ok (news := numsOf s) (c := 0) (e := .tuple #[.int .i64 s.size, .nilIface]) (hent _ _) sm hMi hφ (fun g' => ?_) (fun b w p v n xs k1 k2 k3 k4 k5 => ?_) (by
        have := happ.1
        simp only [lenL, lenS] at this
        rw [hl]
        omega)
      · refine .tup _ _ rfl fun j hj => ?_
        match j, hj with
        | 0, _ => exact .lit _
        | 1, _ => exact .lit _
      · rw [hl] at k5 ⊢
        rw [← hc]
        exact hU b w p v n xs s k1 k2 k3 k4 (by unfold lenS at hpos; omega) k5
    · cases h
  · cases h
end Go.Ab
namespace Go.Proofs
open Go.RowKit Go.Ab
set_option maxHeartbeats 2000000 in
set_option maxRecDepth 100000 in
theorem Tryz.byteW (b : Nat) (w : World) (p v : Value) (n : Nat) (xs : List Value) (c : Int) (hb : w.heap[b]? = some (.cells #[p, v] 143 (0, 0))) (hp : p = .pointer none ∨ p = .pointer (some ⟨b, 0, none⟩))
    (hown : w.ownsRow 0 5 1 v n xs) (hne : v.ownBlock ≠ some b)  (hbytes : n + 1 ≤ 140737488355328) :
    Calls Tryz.prog 193 #[.pointer (some ⟨b, 0, none⟩), .int .u8 c] w fun e w' => e = .returned (.nilIface) ∧
      ∃ v', w'.heap[b]? = some (.cells #[.pointer (some ⟨b, 0, none⟩), v'] 143 (0, 0)) ∧ w'.ownsRow 0 5 1 v' (n + 1) (xs ++ [.int .u8 c]) ∧ v'.ownBlock ≠ some b ∧ WrKeep b v.ownBlock w w' ∧
        (v'.ownBlock = v.ownBlock ∨ v'.ownBlock = some (w.heap.size + 1)) ∧ ∀ g, v'.ownBlock = some g → g < w'.heap.size := by
  have hbl : b < w.heap.size := by
    rcases Nat.lt_or_ge b w.heap.size with h | h
    · exact h
    · simp [Array.getElem?_eq_none h] at hb
  have H1 := hidW (Tryz.ccAny b w p v n xs hb hp hown hne)
  have H2 := hidW (show _ ∧ _ from ⟨hbl, hne⟩)
  obtain ⟨i0, hi, hz⟩ := Option.map_eq_some_iff.1 Tryz.byteI
  simp only [Prod.mk.injEq] at hz
  obtain ⟨hz0, hz1, hz2⟩ := hz
  have Hi := hidW (show _ ∧ _ ∧ _ ∧ _ from ⟨hi, hz0, hz1, hz2⟩)
  clear hb hp hown hne hbl hi hz0 hz1 hz2
  go_enter Tryz.func193, Tryz.ntmps193
  go_wp2_with (go_at_call 192; refine H1.out.mono ?_)
  rintro e w1 ⟨rfl, hb1, hown1, hsz1, hk1, hall1⟩
  have Hk := hidW (show _ ∧ _ ∧ _ from ⟨hb1, hsz1, hk1⟩)
  have Ho := hidW hown1
  have c0 : w1.cell? ⟨b, 0, none⟩ = some (.pointer (some ⟨b, 0, none⟩)) := by rw [Lib.cell_of_heap hb1]; rfl
  have c1 : w1.cell? ⟨b, 1, none⟩ = some v := by rw [Lib.cell_of_heap hb1]; rfl
  clear hb1 hown1 hsz1 hk1 hall1 H1
  go_wp2_with (at_builtin; refine wpList_append_w rfl _ _ 103 103 rfl 5 i0 _ Tryz.underlying103 Hi.out.1 Hi.out.2.1 Hi.out.2.2.1 Hi.out.2.2.2 rfl v n xs rfl (Ho.out.alloc _) _ rfl 1 [.int .u8 c] (Src.ofSlice _ Tryz.underlying103 ⟨w1.heap.size, 0, none⟩ 1 1 [.int .u8 c] rfl ?c1 ?c2) (by decide) (by omega) ?c3)
  all_goals first
    | (intro u hu; simp at hu; subst hu; rfl)
    | (intro j u hj
       match j, hj with
       | 0, hj => simp at hj; subst hj; simp [Addr.add]
       | (j + 1), hj => simp at hj)
    | skip
  intro v' w2 hown' hgrow hblk' hnn
  obtain ⟨hbl, hne⟩ := H2.out
  obtain ⟨hb1, hsz1, hk1⟩ := Hk.out
  have hlt : b < w1.heap.size := by omega
  have hblk' : v'.ownBlock = v.ownBlock ∨ v'.ownBlock = some (w1.heap.size + 1) := by simpa using hblk'
  have hne' : v'.ownBlock ≠ some b := by
    rcases hblk' with h | h
    · rw [h]; exact hne
    · rw [h]; intro e; simp only [Option.some.injEq] at e; omega
  have hb2 : w2.heap[b]? = some (.cells #[.pointer (some ⟨b, 0, none⟩), v] 143 (0, 0)) := by
    rw [hgrow.block b (by simp; omega) (fun e => hne e.symm), Lib.alloc_old w1 _ b hlt]
    exact hb1
  have fin : ∀ w3, w3 = w2.setCell ⟨b, 1, none⟩ v' → w3.heap[b]? = some (.cells #[.pointer (some ⟨b, 0, none⟩), v'] 143 (0, 0)) ∧ w3.ownsRow 0 5 1 v' (n + 1) (xs ++ [.int .u8 c]) ∧ v'.ownBlock ≠ some b ∧ WrKeep b v.ownBlock w w3 ∧
        (v'.ownBlock = v.ownBlock ∨ v'.ownBlock = some (w.heap.size + 1)) ∧ ∀ g, v'.ownBlock = some g → g < w3.heap.size := by
    rintro w3 rfl
    have kg : WrKeep b v.ownBlock w1 w2 := by
      refine ⟨by have := hgrow.size; simp at this; omega, hgrow.os, hgrow.output, fun k q1 _ q3 => ?_⟩
      rw [hgrow.block k (by simp; omega) q3, Lib.alloc_old w1 _ k q1]
    refine ⟨by simp [World.setCell, Array.getElem?_modify, hb2], ?_, hne', (hk1.trans kg).trans (WrKeep.setCell _ _ _ _ _), by rw [hsz1] at hblk'; exact hblk', fun q hq => ?_⟩
    · exact hown'.kept (row := some b) ⟨rfl, rfl, rfl, by simp [World.setCell], fun k _ hk => heap_setCell_ne (fun e => hk (by simp [e]))⟩ (.inr hne')
    · rcases hown'.2 with ⟨_, h⟩ | ⟨g', cap', cur, hv, _, ho, _⟩
      · omega
      · subst hv
        simp only [Value.ownBlock, Option.some.injEq] at hq
        subst hq
        simp only [World.setCell, Array.size_modify]
        rcases Nat.lt_or_ge g' w2.heap.size with h | h
        · exact h
        · simp [Array.getElem?_eq_none h] at ho
  have Hf := hidW fin
  have d0 : w2.cell? ⟨b, 0, none⟩ = some (.pointer (some ⟨b, 0, none⟩)) := by rw [Lib.cell_of_heap hb2]; rfl
  have d1 : w2.cell? ⟨b, 1, none⟩ = some v := by rw [Lib.cell_of_heap hb2]; rfl
  have f1 : w2.frozen? ⟨b, 1, none⟩ = false := Lib.frozen_of_heap hb2 1
  obtain ⟨g, cap', hv'⟩ : ∃ g cap', v' = .slice (some ⟨g, 0, none⟩) (n + 1) cap' := by
    rcases hown'.2 with ⟨_, h⟩ | ⟨g, cap', cur, hv, _⟩
    · omega
    · exact ⟨_, _, hv⟩
  subst hv'
  clear hown' hgrow hblk' hnn hne' hk1 hsz1 hne hb1 hbl hlt hb2 fin H2 Hk Ho
  go_wp2
  go_ret
  exact ⟨rfl, _, Hf.out _ rfl⟩

set_option maxHeartbeats 2000000 in
set_option maxRecDepth 100000 in
theorem Tryz.textPutW (b : Nat) (w : World) (p v : Value) (n : Nat) (xs : List Value) (s : ByteArray) (hb : w.heap[b]? = some (.cells #[p, v] 143 (0, 0))) (hp : p = .pointer none ∨ p = .pointer (some ⟨b, 0, none⟩))
    (hown : w.ownsRow 0 5 1 v n xs) (hne : v.ownBlock ≠ some b) (hpos : 0 < s.size) (hbytes : n + s.size ≤ 140737488355328) :
    Calls Tryz.prog 105 #[.pointer (some ⟨b, 0, none⟩), .string s] w fun e w' => e = .returned (.tuple #[.int .i64 s.size, .nilIface]) ∧
      ∃ v', w'.heap[b]? = some (.cells #[.pointer (some ⟨b, 0, none⟩), v'] 143 (0, 0)) ∧ w'.ownsRow 0 5 1 v' (n + s.size) (xs ++ (byteCells s)) ∧ v'.ownBlock ≠ some b ∧ WrKeep b v.ownBlock w w' ∧
        (v'.ownBlock = v.ownBlock ∨ v'.ownBlock = some (w.heap.size)) ∧ ∀ g, v'.ownBlock = some g → g < w'.heap.size := by
  have hbl : b < w.heap.size := by
    rcases Nat.lt_or_ge b w.heap.size with h | h
    · exact h
    · simp [Array.getElem?_eq_none h] at hb
  have H1 := hidW (Tryz.ccAny b w p v n xs hb hp hown hne)
  have H2 := hidW (show _ ∧ _ from ⟨hbl, hne⟩)
  obtain ⟨i0, hi, hz⟩ := Option.map_eq_some_iff.1 Tryz.byteI
  simp only [Prod.mk.injEq] at hz
  obtain ⟨hz0, hz1, hz2⟩ := hz
  have Hi := hidW (show _ ∧ _ ∧ _ ∧ _ from ⟨hi, hz0, hz1, hz2⟩)
  clear hb hp hown hne hbl hi hz0 hz1 hz2
  go_enter Tryz.func105, Tryz.ntmps105
  go_wp2_with (go_at_call 192; refine H1.out.mono ?_)
  rintro e w1 ⟨rfl, hb1, hown1, hsz1, hk1, hall1⟩
  have Hk := hidW (show _ ∧ _ ∧ _ from ⟨hb1, hsz1, hk1⟩)
  have Ho := hidW hown1
  have c0 : w1.cell? ⟨b, 0, none⟩ = some (.pointer (some ⟨b, 0, none⟩)) := by rw [Lib.cell_of_heap hb1]; rfl
  have c1 : w1.cell? ⟨b, 1, none⟩ = some v := by rw [Lib.cell_of_heap hb1]; rfl
  clear hb1 hown1 hsz1 hk1 hall1 H1
  go_wp2_with (at_builtin; refine wpList_append_w rfl _ _ 103 9 rfl 5 i0 _ Tryz.underlying103 Hi.out.1 Hi.out.2.1 Hi.out.2.2.1 Hi.out.2.2.2 rfl v n xs rfl Ho.out _ rfl s.size (byteCells s) (Src.ofString _ Tryz.underlying9 s) hpos (by omega) ?c3)
  intro v' w2 hown' hgrow hblk' hnn
  obtain ⟨hbl, hne⟩ := H2.out
  obtain ⟨hb1, hsz1, hk1⟩ := Hk.out
  have hlt : b < w1.heap.size := by omega
  
  have hne' : v'.ownBlock ≠ some b := by
    rcases hblk' with h | h
    · rw [h]; exact hne
    · rw [h]; intro e; simp only [Option.some.injEq] at e; omega
  have hb2 : w2.heap[b]? = some (.cells #[.pointer (some ⟨b, 0, none⟩), v] 143 (0, 0)) := by
    rw [hgrow.block b hlt (fun e => hne e.symm)]
    exact hb1
  have fin : ∀ w3, w3 = w2.setCell ⟨b, 1, none⟩ v' → w3.heap[b]? = some (.cells #[.pointer (some ⟨b, 0, none⟩), v'] 143 (0, 0)) ∧ w3.ownsRow 0 5 1 v' (n + s.size) (xs ++ (byteCells s)) ∧ v'.ownBlock ≠ some b ∧ WrKeep b v.ownBlock w w3 ∧
        (v'.ownBlock = v.ownBlock ∨ v'.ownBlock = some (w.heap.size)) ∧ ∀ g, v'.ownBlock = some g → g < w3.heap.size := by
    rintro w3 rfl
    have kg : WrKeep b v.ownBlock w1 w2 := by
      refine ⟨by have := hgrow.size; omega, hgrow.os, hgrow.output, fun k q1 _ q3 => ?_⟩
      exact hgrow.block k q1 q3
    refine ⟨by simp [World.setCell, Array.getElem?_modify, hb2], ?_, hne', (hk1.trans kg).trans (WrKeep.setCell _ _ _ _ _), by rw [hsz1] at hblk'; exact hblk', fun q hq => ?_⟩
    · exact hown'.kept (row := some b) ⟨rfl, rfl, rfl, by simp [World.setCell], fun k _ hk => heap_setCell_ne (fun e => hk (by simp [e]))⟩ (.inr hne')
    · rcases hown'.2 with ⟨_, h⟩ | ⟨g', cap', cur, hv, _, ho, _⟩
      · omega
      · subst hv
        simp only [Value.ownBlock, Option.some.injEq] at hq
        subst hq
        simp only [World.setCell, Array.size_modify]
        rcases Nat.lt_or_ge g' w2.heap.size with h | h
        · exact h
        · simp [Array.getElem?_eq_none h] at ho
  have Hf := hidW fin
  have d0 : w2.cell? ⟨b, 0, none⟩ = some (.pointer (some ⟨b, 0, none⟩)) := by rw [Lib.cell_of_heap hb2]; rfl
  have d1 : w2.cell? ⟨b, 1, none⟩ = some v := by rw [Lib.cell_of_heap hb2]; rfl
  have f1 : w2.frozen? ⟨b, 1, none⟩ = false := Lib.frozen_of_heap hb2 1
  obtain ⟨g, cap', hv'⟩ : ∃ g cap', v' = .slice (some ⟨g, 0, none⟩) (n + s.size) cap' := by
    rcases hown'.2 with ⟨_, h⟩ | ⟨g, cap', cur, hv, _⟩
    · omega
    · exact ⟨_, _, hv⟩
  subst hv'
  clear hown' hgrow hblk' hnn hne' hk1 hsz1 hne hb1 hbl hlt hb2 fin H2 Hk Ho
  go_wp2
  go_ret2
  exact ⟨rfl, _, Hf.out _ rfl⟩

theorem gOwByte.ok : SpecOk Tryz.prog 193 (wrPutB 143 5) :=
  putB_ok (fun _ _ => by kernel_rfl) fun b w p v n xs c hb hp hown hne hn => Tryz.byteW b w p v n xs c hb hp hown hne hn
theorem gOwText.ok : SpecOk Tryz.prog 105 (wrPutT 143 5) :=
  putT_ok (fun _ _ => by kernel_rfl) fun b w p v n xs s hb hp hown hne hpos hn => Tryz.textPutW b w p v n xs s hb hp hown hne hpos hn
end Go.Proofs
