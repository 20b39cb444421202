/- A bare strings.Builder: WriteByte, WriteString, String as contracts on abstract values. No condition. -/
import Derived.Test.YtjjjeolcapebbaaGreatDoorBu
import Derived.Test.YtjjjeolcapebbaaGreatDoorWg
import Derived.Test.YtjjjeolcapebbaaGreatDoorM04
namespace Go.Ab
open Go.Proofs Go.RowKit
/-- The text of all, of nothing too. -/
@[simp] def wrTextE (T E : TypeId) : Sp
  | [.ptr i 0], M => match M[i]? with
    | some (.opq φ) => some { av := .lit (.string (strOfNums φ.bs)), M := some (M.set i (.opq wrX)), obl := φ = wrO T E φ.bs ∧ TextE φ.bs }
    | _ => none
  | _, _ => none
theorem textE_ok {P : Program} {f : FuncId} {T E : TypeId} (hent : ∀ args w, (callFunc f args).run P w = .ok (.enter f args) w)
    (hS : ∀ (b g cap : Nat) (w : World) (p : Value) (l : List UInt8) (cur : Array Value), w.heap[b]? = some (.cells #[p, .slice (some ⟨g, 0, none⟩) l.length cap] T (0, 0)) → w.heap[g]? = some (.cells cur E (0, 0)) →
      l.length ≤ cap → cap ≤ maxLen → cur.size = cap → cur.toList.take l.length = Lib.byteCells l → l ≠ [] →
      Calls P f #[.pointer (some ⟨b, 0, none⟩)] w fun e w' => e = .returned (.string ⟨l.toArray⟩) ∧ WrKeep b (some g) w w' ∧ w'.heap.size = w.heap.size)
    (h0 : ∀ (b : Nat) (w : World) (p v : Value), w.heap[b]? = some (.cells #[p, v] T (0, 0)) → (v = .slice none 0 0 ∨ ∃ g cap cur, v = .slice (some ⟨g, 0, none⟩) 0 cap ∧ w.heap[g]? = some (.cells cur E (0, 0)) ∧ cur.size = cap) →
      Calls P f #[.pointer (some ⟨b, 0, none⟩)] w fun e w' => e = .returned (.string ⟨#[]⟩) ∧ WrKeep b none w w') : SpecOk P f (wrTextE T E) := by
  intro l M out h
  unfold wrTextE at h
  split at h
  · rename_i i
    split at h
    · rename_i φ hMi
      cases h
      intro g vs hM sm hr ho
      subst hM
      obtain ⟨hφ, hbb⟩ := ho
      by_cases hne : φ.bs ≠ []
      · exact textW_ok hent hS [.ptr i 0] g.M { av := .lit (.string (strOfNums φ.bs)), M := some (g.M.set i (.opq wrX)), obl := φ = wrO T E φ.bs ∧ TextB φ.bs } (by unfold wrTextS; simp only [hMi]) g vs rfl sm hr ⟨hφ, hne, hbb⟩
      have he : φ.bs = [] := Classical.byContradiction hne
      cases hr with | cons hv hr => cases hr with | nil =>
      cases hv with
      | ptr _ _ hi =>
      refine ⟨hent _ _, ?_⟩
      have hq := sm.opq i φ hMi
      rw [hφ] at hq
      obtain ⟨p, v, h1, h2, h3⟩ := hq
      simp only [wrO, he] at h3
      refine (h0 (g.β i) g.w p v h1 ?_).mono ?_
      · rcases h3 with ⟨h, _, _⟩ | ⟨cap, cur, h, h4, h5, h6, h7, h8, h9⟩
        · exact .inl h
        · exact .inr ⟨_, cap, cur, h, h5, h8⟩
      rintro e w' ⟨rfl, k1⟩
      obtain ⟨kk, ss⟩ := opq_turn sm hMi (φ' := wrX) (w' := w') (rb := (g.ρ i).b) k1.size ⟨k1.os, k1.output⟩ (fun k q1 q2 q3 => k1.block k q1 q2 (by simp)) (.inl rfl) trivial
      refine ⟨_, rfl, g.β, _, ss, ?_, kk⟩
      rw [he]
      exact .lit _
    · cases h
  · cases h
end Go.Ab
namespace Go.Proofs
open Go.RowKit Go.Ab
set_option maxHeartbeats 2000000 in
set_option maxRecDepth 100000 in
theorem Tryz.bwbyteW (b : Nat) (w : World) (p v : Value) (n : Nat) (xs : List Value) (c : Int) (hb : w.heap[b]? = some (.cells #[p, v] 141 (0, 0))) (hp : p = .pointer none ∨ p = .pointer (some ⟨b, 0, none⟩))
    (hown : w.ownsRow 0 5 1 v n xs) (hne : v.ownBlock ≠ some b)  (hbytes : n + 1 ≤ 140737488355328) :
    Calls Tryz.prog 193 #[.pointer (some ⟨b, 0, none⟩), .int .u8 c] w fun e w' => e = .returned (.nilIface) ∧
      ∃ v', w'.heap[b]? = some (.cells #[.pointer (some ⟨b, 0, none⟩), v'] 141 (0, 0)) ∧ w'.ownsRow 0 5 1 v' (n + 1) (xs ++ [.int .u8 c]) ∧ v'.ownBlock ≠ some b ∧ WrKeep b v.ownBlock w w' ∧
        (v'.ownBlock = v.ownBlock ∨ v'.ownBlock = some (w.heap.size + 1)) ∧ ∀ g, v'.ownBlock = some g → g < w'.heap.size := by
  have hbl : b < w.heap.size := by
    rcases Nat.lt_or_ge b w.heap.size with h | h
    · exact h
    · simp [Array.getElem?_eq_none h] at hb
  have H1 := hidB (Tryz.bcAny b w p v n xs hb hp hown hne)
  have H2 := hidB (show _ ∧ _ from ⟨hbl, hne⟩)
  obtain ⟨i0, hi, hz⟩ := Option.map_eq_some_iff.1 Tryz.bbyteI
  simp only [Prod.mk.injEq] at hz
  obtain ⟨hz0, hz1, hz2⟩ := hz
  have Hi := hidB (show _ ∧ _ ∧ _ ∧ _ from ⟨hi, hz0, hz1, hz2⟩)
  clear hb hp hown hne hbl hi hz0 hz1 hz2
  go_enter Tryz.func193, Tryz.ntmps193
  go_wp2_with (go_at_call 192; refine H1.out.mono ?_)
  rintro e w1 ⟨rfl, hb1, hown1, hsz1, hk1, hall1⟩
  have Hk := hidB (show _ ∧ _ ∧ _ from ⟨hb1, hsz1, hk1⟩)
  have Ho := hidB hown1
  have c0 : w1.cell? ⟨b, 0, none⟩ = some (.pointer (some ⟨b, 0, none⟩)) := by rw [Lib.cell_of_heap hb1]; rfl
  have c1 : w1.cell? ⟨b, 1, none⟩ = some v := by rw [Lib.cell_of_heap hb1]; rfl
  clear hb1 hown1 hsz1 hk1 hall1 H1
  go_wp2_with (at_builtin; refine wpList_append_w rfl _ _ 103 103 rfl 5 i0 _ Tryz.underlying103 Hi.out.1 Hi.out.2.1 Hi.out.2.2.1 Hi.out.2.2.2 rfl v n xs rfl (Ho.out.alloc _) _ rfl 1 [.int .u8 c] (Src.ofSlice _ Tryz.underlying103 ⟨w1.heap.size, 0, none⟩ 1 1 [.int .u8 c] rfl ?c1 ?c2) (by decide) (by omega) ?c3)
  all_goals first
    | (intro u hu; simp at hu; subst hu; rfl)
    | (intro j u hj
       match j, hj with
       | 0, hj => simp at hj; subst hj; simp [Addr.add]
       | (j + 1), hj => simp at hj)
    | skip
  intro v' w2 hown' hgrow hblk' hnn
  obtain ⟨hbl, hne⟩ := H2.out
  obtain ⟨hb1, hsz1, hk1⟩ := Hk.out
  have hlt : b < w1.heap.size := by omega
  have hblk' : v'.ownBlock = v.ownBlock ∨ v'.ownBlock = some (w1.heap.size + 1) := by simpa using hblk'
  have hne' : v'.ownBlock ≠ some b := by
    rcases hblk' with h | h
    · rw [h]; exact hne
    · rw [h]; intro e; simp only [Option.some.injEq] at e; omega
  have hb2 : w2.heap[b]? = some (.cells #[.pointer (some ⟨b, 0, none⟩), v] 141 (0, 0)) := by
    rw [hgrow.block b (by simp; omega) (fun e => hne e.symm), Lib.alloc_old w1 _ b hlt]
    exact hb1
  have fin : ∀ w3, w3 = w2.setCell ⟨b, 1, none⟩ v' → w3.heap[b]? = some (.cells #[.pointer (some ⟨b, 0, none⟩), v'] 141 (0, 0)) ∧ w3.ownsRow 0 5 1 v' (n + 1) (xs ++ [.int .u8 c]) ∧ v'.ownBlock ≠ some b ∧ WrKeep b v.ownBlock w w3 ∧
        (v'.ownBlock = v.ownBlock ∨ v'.ownBlock = some (w.heap.size + 1)) ∧ ∀ g, v'.ownBlock = some g → g < w3.heap.size := by
    rintro w3 rfl
    have kg : WrKeep b v.ownBlock w1 w2 := by
      refine ⟨by have := hgrow.size; simp at this; omega, hgrow.os, hgrow.output, fun k q1 _ q3 => ?_⟩
      rw [hgrow.block k (by simp; omega) q3, Lib.alloc_old w1 _ k q1]
    refine ⟨by simp [World.setCell, Array.getElem?_modify, hb2], ?_, hne', (hk1.trans kg).trans (WrKeep.setCell _ _ _ _ _), by rw [hsz1] at hblk'; exact hblk', fun q hq => ?_⟩
    · exact hown'.kept (row := some b) ⟨rfl, rfl, rfl, by simp [World.setCell], fun k _ hk => heap_setCell_ne (fun e => hk (by simp [e]))⟩ (.inr hne')
    · rcases hown'.2 with ⟨_, h⟩ | ⟨g', cap', cur, hv, _, ho, _⟩
      · omega
      · subst hv
        simp only [Value.ownBlock, Option.some.injEq] at hq
        subst hq
        simp only [World.setCell, Array.size_modify]
        rcases Nat.lt_or_ge g' w2.heap.size with h | h
        · exact h
        · simp [Array.getElem?_eq_none h] at ho
  have Hf := hidB fin
  have d0 : w2.cell? ⟨b, 0, none⟩ = some (.pointer (some ⟨b, 0, none⟩)) := by rw [Lib.cell_of_heap hb2]; rfl
  have d1 : w2.cell? ⟨b, 1, none⟩ = some v := by rw [Lib.cell_of_heap hb2]; rfl
  have f1 : w2.frozen? ⟨b, 1, none⟩ = false := Lib.frozen_of_heap hb2 1
  obtain ⟨g, cap', hv'⟩ : ∃ g cap', v' = .slice (some ⟨g, 0, none⟩) (n + 1) cap' := by
    rcases hown'.2 with ⟨_, h⟩ | ⟨g, cap', cur, hv, _⟩
    · omega
    · exact ⟨_, _, hv⟩
  subst hv'
  clear hown' hgrow hblk' hnn hne' hk1 hsz1 hne hb1 hbl hlt hb2 fin H2 Hk Ho
  go_wp2
  go_ret
  exact ⟨rfl, _, Hf.out _ rfl⟩

set_option maxHeartbeats 2000000 in
set_option maxRecDepth 100000 in
theorem Tryz.bwtextW (b : Nat) (w : World) (p v : Value) (n : Nat) (xs : List Value) (s : ByteArray) (hb : w.heap[b]? = some (.cells #[p, v] 141 (0, 0))) (hp : p = .pointer none ∨ p = .pointer (some ⟨b, 0, none⟩))
    (hown : w.ownsRow 0 5 1 v n xs) (hne : v.ownBlock ≠ some b) (hpos : 0 < s.size) (hbytes : n + s.size ≤ 140737488355328) :
    Calls Tryz.prog 105 #[.pointer (some ⟨b, 0, none⟩), .string s] w fun e w' => e = .returned (.tuple #[.int .i64 s.size, .nilIface]) ∧
      ∃ v', w'.heap[b]? = some (.cells #[.pointer (some ⟨b, 0, none⟩), v'] 141 (0, 0)) ∧ w'.ownsRow 0 5 1 v' (n + s.size) (xs ++ (byteCells s)) ∧ v'.ownBlock ≠ some b ∧ WrKeep b v.ownBlock w w' ∧
        (v'.ownBlock = v.ownBlock ∨ v'.ownBlock = some (w.heap.size)) ∧ ∀ g, v'.ownBlock = some g → g < w'.heap.size := by
  have hbl : b < w.heap.size := by
    rcases Nat.lt_or_ge b w.heap.size with h | h
    · exact h
    · simp [Array.getElem?_eq_none h] at hb
  have H1 := hidB (Tryz.bcAny b w p v n xs hb hp hown hne)
  have H2 := hidB (show _ ∧ _ from ⟨hbl, hne⟩)
  obtain ⟨i0, hi, hz⟩ := Option.map_eq_some_iff.1 Tryz.bbyteI
  simp only [Prod.mk.injEq] at hz
  obtain ⟨hz0, hz1, hz2⟩ := hz
  have Hi := hidB (show _ ∧ _ ∧ _ ∧ _ from ⟨hi, hz0, hz1, hz2⟩)
  clear hb hp hown hne hbl hi hz0 hz1 hz2
  go_enter Tryz.func105, Tryz.ntmps105
  go_wp2_with (go_at_call 192; refine H1.out.mono ?_)
  rintro e w1 ⟨rfl, hb1, hown1, hsz1, hk1, hall1⟩
  have Hk := hidB (show _ ∧ _ ∧ _ from ⟨hb1, hsz1, hk1⟩)
  have Ho := hidB hown1
  have c0 : w1.cell? ⟨b, 0, none⟩ = some (.pointer (some ⟨b, 0, none⟩)) := by rw [Lib.cell_of_heap hb1]; rfl
  have c1 : w1.cell? ⟨b, 1, none⟩ = some v := by rw [Lib.cell_of_heap hb1]; rfl
  clear hb1 hown1 hsz1 hk1 hall1 H1
  go_wp2_with (at_builtin; refine wpList_append_w rfl _ _ 103 9 rfl 5 i0 _ Tryz.underlying103 Hi.out.1 Hi.out.2.1 Hi.out.2.2.1 Hi.out.2.2.2 rfl v n xs rfl Ho.out _ rfl s.size (byteCells s) (Src.ofString _ Tryz.underlying9 s) hpos (by omega) ?c3)
  intro v' w2 hown' hgrow hblk' hnn
  obtain ⟨hbl, hne⟩ := H2.out
  obtain ⟨hb1, hsz1, hk1⟩ := Hk.out
  have hlt : b < w1.heap.size := by omega
  
  have hne' : v'.ownBlock ≠ some b := by
    rcases hblk' with h | h
    · rw [h]; exact hne
    · rw [h]; intro e; simp only [Option.some.injEq] at e; omega
  have hb2 : w2.heap[b]? = some (.cells #[.pointer (some ⟨b, 0, none⟩), v] 141 (0, 0)) := by
    rw [hgrow.block b hlt (fun e => hne e.symm)]
    exact hb1
  have fin : ∀ w3, w3 = w2.setCell ⟨b, 1, none⟩ v' → w3.heap[b]? = some (.cells #[.pointer (some ⟨b, 0, none⟩), v'] 141 (0, 0)) ∧ w3.ownsRow 0 5 1 v' (n + s.size) (xs ++ (byteCells s)) ∧ v'.ownBlock ≠ some b ∧ WrKeep b v.ownBlock w w3 ∧
        (v'.ownBlock = v.ownBlock ∨ v'.ownBlock = some (w.heap.size)) ∧ ∀ g, v'.ownBlock = some g → g < w3.heap.size := by
    rintro w3 rfl
    have kg : WrKeep b v.ownBlock w1 w2 := by
      refine ⟨by have := hgrow.size; omega, hgrow.os, hgrow.output, fun k q1 _ q3 => ?_⟩
      exact hgrow.block k q1 q3
    refine ⟨by simp [World.setCell, Array.getElem?_modify, hb2], ?_, hne', (hk1.trans kg).trans (WrKeep.setCell _ _ _ _ _), by rw [hsz1] at hblk'; exact hblk', fun q hq => ?_⟩
    · exact hown'.kept (row := some b) ⟨rfl, rfl, rfl, by simp [World.setCell], fun k _ hk => heap_setCell_ne (fun e => hk (by simp [e]))⟩ (.inr hne')
    · rcases hown'.2 with ⟨_, h⟩ | ⟨g', cap', cur, hv, _, ho, _⟩
      · omega
      · subst hv
        simp only [Value.ownBlock, Option.some.injEq] at hq
        subst hq
        simp only [World.setCell, Array.size_modify]
        rcases Nat.lt_or_ge g' w2.heap.size with h | h
        · exact h
        · simp [Array.getElem?_eq_none h] at ho
  have Hf := hidB fin
  have d0 : w2.cell? ⟨b, 0, none⟩ = some (.pointer (some ⟨b, 0, none⟩)) := by rw [Lib.cell_of_heap hb2]; rfl
  have d1 : w2.cell? ⟨b, 1, none⟩ = some v := by rw [Lib.cell_of_heap hb2]; rfl
  have f1 : w2.frozen? ⟨b, 1, none⟩ = false := Lib.frozen_of_heap hb2 1
  obtain ⟨g, cap', hv'⟩ : ∃ g cap', v' = .slice (some ⟨g, 0, none⟩) (n + s.size) cap' := by
    rcases hown'.2 with ⟨_, h⟩ | ⟨g, cap', cur, hv, _⟩
    · omega
    · exact ⟨_, _, hv⟩
  subst hv'
  clear hown' hgrow hblk' hnn hne' hk1 hsz1 hne hb1 hbl hlt hb2 fin H2 Hk Ho
  go_wp2
  go_ret2
  exact ⟨rfl, _, Hf.out _ rfl⟩

theorem gBwByte.ok : SpecOk Tryz.prog 193 (wrPutB 141 5) :=
  putB_ok (fun _ _ => by kernel_rfl) fun b w p v n xs c hb hp hown hne hn => Tryz.bwbyteW b w p v n xs c hb hp hown hne hn
theorem gBwText.ok : SpecOk Tryz.prog 105 (wrPutT 141 5) :=
  putT_ok (fun _ _ => by kernel_rfl) fun b w p v n xs s hb hp hown hne hpos hn => Tryz.bwtextW b w p v n xs s hb hp hown hne hpos hn
set_option maxHeartbeats 1000000 in
set_option maxRecDepth 100000 in
theorem Tryz.bstringE1 (b : Nat) (w : World) (p : Value) (ao po : Option Addr) (cap : Nat) (hb : w.heap[b]? = some (.cells #[p, .slice ao 0 cap] 141 (0, 0)))
    (hSD : (Builtin.unsafeSliceData_ #[103] 362 #[.slice ao 0 cap]).run Tryz.prog w.drew = .ok (.pointer po) w.drew) :
    Calls Tryz.prog 107 #[.pointer (some ⟨b, 0, none⟩)] w fun e w' => e = .returned (.string ⟨#[]⟩) ∧ WrKeep b none w w' := by
  have c1 : w.drew.cell? ⟨b, 1, none⟩ = some (.slice ao 0 cap) := by
    have : w.drew.heap[b]? = some (.cells #[p, .slice ao 0 cap] 141 (0, 0)) := hb
    rw [Lib.cell_of_heap this]; rfl
  have hUS : (Builtin.unsafeString_ #[362, 3] 9 #[.pointer po, .int .i64 0]).run Tryz.prog w.drew = .ok (.string ⟨#[]⟩) w.drew := Lib.run_unsafeString_none _ _ _ _ _
  have Hf := hidB (show WrKeep b none w w.drew from ⟨by simp, rfl, rfl, fun k _ _ _ => rfl⟩)
  clear hb
  go_enter Tryz.func107, Tryz.ntmps107
  go_wp2
  go_region
  all_goals (go_wp2; go_ret; exact ⟨rfl, Hf.out⟩)
set_option maxHeartbeats 1000000 in
set_option maxRecDepth 100000 in
theorem Tryz.bstringE2 (b : Nat) (w : World) (p : Value) (g : Nat) (cur : Array Value) (hb : w.heap[b]? = some (.cells #[p, .slice (some ⟨g, 0, none⟩) 0 0] 141 (0, 0))) (hg : w.heap[g]? = some (.cells cur 5 (0, 0))) :
    Calls Tryz.prog 107 #[.pointer (some ⟨b, 0, none⟩)] w fun e w' => e = .returned (.string ⟨#[]⟩) ∧ WrKeep b none w w' := by
  have hbl : b < w.heap.size := by
    rcases Nat.lt_or_ge b w.heap.size with h | h
    · exact h
    · simp [Array.getElem?_eq_none h] at hb
  have hb' : w.drew.heap[b]? = some (.cells #[p, .slice (some ⟨g, 0, none⟩) 0 0] 141 (0, 0)) := hb
  have hg' : w.drew.heap[g]? = some (.cells cur 5 (0, 0)) := hg
  have c1 : w.drew.cell? ⟨b, 1, none⟩ = some (.slice (some ⟨g, 0, none⟩) 0 0) := by rw [Lib.cell_of_heap hb']; rfl
  have hSD : (Builtin.unsafeSliceData_ #[103] 362 #[.slice (some ⟨g, 0, none⟩) 0 0]).run Tryz.prog w.drew = _ := Lib.run_unsafeSliceData_zero w.drew _ _ 5 Tryz.underlying362 ⟨g, 0, none⟩ 0 (5, cur.size) (by simp only [World.shape?, hg'])
  have c2 : (w.alloc (Obj.view ⟨g, 0, none⟩ 5)).cell? ⟨b, 1, none⟩ = some (.slice (some ⟨g, 0, none⟩) 0 0) := by
    have : (w.alloc (Obj.view ⟨g, 0, none⟩ 5)).heap[b]? = some (.cells #[p, .slice (some ⟨g, 0, none⟩) 0 0] 141 (0, 0)) := by rw [Lib.alloc_old w _ b hbl]; exact hb
    rw [Lib.cell_of_heap this]; rfl
  have hUS : ∀ (W : World) (a : Option Addr), (Builtin.unsafeString_ #[362, 3] 9 #[.pointer a, .int .i64 0]).run Tryz.prog W = .ok (.string ⟨#[]⟩) W := fun W a => Lib.run_unsafeString_none _ _ _ _ _
  have Hf := hidB (show WrKeep b none w (w.alloc (Obj.view ⟨g, 0, none⟩ 5)).drew from ⟨by simp, rfl, rfl, fun k q1 _ _ => by show (w.alloc _).heap[k]? = _; rw [Lib.alloc_old w _ k q1]⟩)
  clear hb hb' hg hg' hbl
  go_enter Tryz.func107, Tryz.ntmps107
  go_wp2
  go_region
  all_goals (go_wp2; go_ret; exact ⟨rfl, Hf.out⟩)
theorem Tryz.bstringE (b : Nat) (w : World) (p v : Value) (hb : w.heap[b]? = some (.cells #[p, v] 141 (0, 0)))
    (hv : v = .slice none 0 0 ∨ ∃ g cap cur, v = .slice (some ⟨g, 0, none⟩) 0 cap ∧ w.heap[g]? = some (.cells cur 5 (0, 0)) ∧ cur.size = cap) :
    Calls Tryz.prog 107 #[.pointer (some ⟨b, 0, none⟩)] w fun e w' => e = .returned (.string ⟨#[]⟩) ∧ WrKeep b none w w' := by
  rcases hv with rfl | ⟨g, cap, cur, rfl, hg, hs⟩
  · exact Tryz.bstringE1 b w p none none 0 hb (Lib.run_unsafeSliceData_nil _ _ _ _ _)
  · by_cases hc : cap = 0
    · subst hc; exact Tryz.bstringE2 b w p g cur hb hg
    · exact Tryz.bstringE1 b w p _ _ cap hb (Lib.run_unsafeSliceData_row _ _ _ _ _ _ hc)
theorem gBwString.ok : SpecOk Tryz.prog 107 (wrTextE 141 5) :=
  textE_ok (fun _ _ => by kernel_rfl) Tryz.bstringW Tryz.bstringE
end Go.Proofs
