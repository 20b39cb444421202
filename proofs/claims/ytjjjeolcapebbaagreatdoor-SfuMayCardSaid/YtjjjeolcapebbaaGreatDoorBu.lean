/- A bare strings.Builder: WriteRune and String as contracts on abstract values. No condition. -/
import Derived.Test.YtjjjeolcapebbaaGreatDoorM13
import Derived.Test.YtjjjeolcapebbaaGreatDoorM06
import Derived.Test.YtjjjeolcapebbaaGreatDoorM04
import Derived.Shelf.RegionOpenPlain
import Derived.Lib.RuneBytes
namespace Go.Ab
open Go.Proofs Go.RowKit
/-- What an append to a row of one's own leaves. -/
def ArOut (E : TypeId) (w w' : World) (v v' : Value) (n : Nat) (xs news : List Value) : Prop :=
  w'.ownsRow 0 E 1 v' (n + news.length) (xs ++ news) ∧ (∃ o, (w.alloc o).grownBy w' v.ownBlock) ∧ (v'.ownBlock = v.ownBlock ∨ v'.ownBlock = some (w.heap.size + 1)) ∧ v'.ownBlock ≠ none

/-- A rune is put behind. -/
@[simp] def wrPutR (T E : TypeId) : Sp
  | [.ptr i 0, .lit (.int .i32 r)], M => match M[i]? with
    | some (.opq φ) => some { av := .tup [.lit (.int .i64 (lenL (runeZ r))), .lit .nilIface], M := some (M.set i (.opq (wrO T E (appL φ.bs (runeZ r))))), obl := φ = wrO T E φ.bs ∧ I32B r ∧ AppB (lenL φ.bs) 4 1 }
    | _ => none
  | _, _ => none

theorem putR_ok {P : Program} {f : FuncId} {T E : TypeId} (hent : ∀ args w, (callFunc f args).run P w = .ok (.enter f args) w)
    (hU : ∀ (b : Nat) (w : World) (p v : Value) (n : Nat) (xs : List Value) (r : Int), I32B r → w.heap[b]? = some (.cells #[p, v] T (0, 0)) → (p = .pointer none ∨ p = .pointer (some ⟨b, 0, none⟩)) → w.ownsRow 0 E 1 v n xs → v.ownBlock ≠ some b → n + 4 ≤ 140737488355328 →
      Calls P f #[.pointer (some ⟨b, 0, none⟩), .int .i32 r] w fun e w' => e = .returned (.tuple #[.int .i64 (Lib.runeCells r).length, .nilIface]) ∧
      ∃ v', w'.heap[b]? = some (.cells #[.pointer (some ⟨b, 0, none⟩), v'] T (0, 0)) ∧ w'.ownsRow 0 E 1 v' (n + (Lib.runeCells r).length) (xs ++ Lib.runeCells r) ∧ v'.ownBlock ≠ some b ∧ WrKeep b v.ownBlock w w' ∧
        (v'.ownBlock = v.ownBlock ∨ v'.ownBlock = some (w.heap.size + 1)) ∧ ∀ g, v'.ownBlock = some g → g < w'.heap.size) : SpecOk P f (wrPutR T E) := by
  intro l M out h
  unfold wrPutR at h
  split at h
  · rename_i i r
    split at h
    · rename_i φ hMi
      cases h
      intro g vs hM sm hr ho
      subst hM
      obtain ⟨hφ, hu, happ⟩ := ho
      cases hr with | cons hv hr => cases hr with | cons hs hr => cases hr with | nil =>
      cases hs
      cases hv with
      | ptr _ _ hi =>
      refine ⟨hent _ _, ?_⟩
      have hq := sm.opq i φ hMi
      rw [hφ] at hq
      obtain ⟨p, v, h1, h2, h3, h4, h5⟩ := WrB.at hq
      have happ' : φ.bs.length + 4 ≤ 140737488355328 := by
        have := happ.1
        simp only [lenL] at this
        omega
      refine (hU (g.β i) g.w p v φ.bs.length (φ.bs.map (Value.int .u8)) r hu h1 h2 h3 h4 happ').mono ?_
      rintro e w' ⟨rfl, v', k1, k2, k3, k4, k5, k6⟩
      have hrl : (Lib.runeCells r).length = (runeZ r).length := by simp [Lib.runeCells, runeZ]
      have hrc : Lib.runeCells r = (runeZ r).map (Value.int .u8) := rfl
      have hW : WrB T E (φ.bs ++ runeZ r) (g.β i) (v'.ownBlock.getD (g.β i)) (w'.heap[g.β i]?) (w'.heap[v'.ownBlock.getD (g.β i)]?) := by
        refine WrB.of k1 (.inr rfl) ?_ k3
        rw [hrl, hrc] at k2
        simpa using k2
      have hρ : v.ownBlock = none ∧ (g.ρ i).b = g.β i ∨ v.ownBlock = some (g.ρ i).b := h5
      obtain ⟨kk, ss⟩ := opq_turn sm hMi (φ' := wrO T E (φ.bs ++ runeZ r)) (w' := w') (rb := v'.ownBlock.getD (g.β i)) k4.size ⟨k4.os, k4.output⟩ (fun k q1 q2 q3 => k4.block k q1 q2 (by
          rcases hρ with ⟨h, _⟩ | h <;> rw [h]
          · simp
          · simpa using q3))
        (by
          rcases k5 with h | h
          · rcases hρ with ⟨h', _⟩ | h'
            · right; left; rw [h, h']; rfl
            · left; rw [h, h']; rfl
          · right; right; rw [h]; exact ⟨Nat.le_succ _, k6 _ h⟩) hW
      refine ⟨_, rfl, g.β, _, ss, ?_, kk⟩
      refine .tup _ _ rfl fun j hj => ?_
      match j, hj with
      | 0, _ => rw [show ((#[Value.int .i64 (Lib.runeCells r).length, Value.nilIface] : Array Value).getD 0 undef) = Value.int .i64 (lenL (runeZ r)) by rw [hrl]; rfl]; exact .lit _
      | 1, _ => exact .lit _
    · cases h
  · cases h
end Go.Ab
namespace Go.Proofs
open Go.RowKit Go.Ab
theorem hidB {p : Prop} (h : p) : Hid p := h

theorem Tryz.bbyteC : Tryz.prog.cellsOf 5 = 1 := by kernel_rfl

set_option maxHeartbeats 1000000 in
set_option maxRecDepth 100000 in
theorem Tryz.bstringW (b g cap : Nat) (w : World) (p : Value) (l : List UInt8) (cur : Array Value) (hb : w.heap[b]? = some (.cells #[p, .slice (some ⟨g, 0, none⟩) l.length cap] 141 (0, 0)))
    (hg : w.heap[g]? = some (.cells cur 5 (0, 0))) (hnc : l.length ≤ cap) (hcm : cap ≤ maxLen) (hcs : cur.size = cap) (ht : cur.toList.take l.length = Lib.byteCells l) (h0 : l ≠ []) :
    Calls Tryz.prog 107 #[.pointer (some ⟨b, 0, none⟩)] w fun e w' => e = .returned (.string ⟨l.toArray⟩) ∧ WrKeep b (some g) w w' ∧ w'.heap.size = w.heap.size := by
  have hl0 : l.length ≠ 0 := by simpa using h0
  have c1 : w.drew.cell? ⟨b, 1, none⟩ = some (.slice (some ⟨g, 0, none⟩) l.length cap) := by
    have : w.drew.heap[b]? = some (.cells #[p, .slice (some ⟨g, 0, none⟩) l.length cap] 141 (0, 0)) := hb
    rw [Lib.cell_of_heap this]; rfl
  have hSD : (Builtin.unsafeSliceData_ #[103] 362 #[.slice (some ⟨g, 0, none⟩) l.length cap]).run Tryz.prog w.drew = .ok (.pointer (some ⟨g, 0, none⟩)) w.drew :=
    Lib.run_unsafeSliceData_row _ _ _ _ _ _ (by omega)
  have hUS : (Builtin.unsafeString_ #[362, 3] 9 #[.pointer (some ⟨g, 0, none⟩), .int .i64 l.length]).run Tryz.prog w.drew = .ok (.string ⟨l.toArray⟩) (w.drew.freeze ⟨g, 0, none⟩ l.length) := by
    refine Lib.run_unsafeString_row w.drew 362 3 9 5 Tryz.underlying362 Tryz.bbyteC g cur.size (by have hg' : w.drew.heap[g]? = some (.cells cur 5 (0, 0)) := hg; simp [World.shape?, hg']) l h0 (by omega) (by unfold maxLen at hcm; omega) ?_
    intro j x hx
    have hadd : (⟨g, 0, none⟩ : Addr).add j = ⟨g, j, none⟩ := by unfold Addr.add; split <;> simp_all
    have hj : (cur.toList.take l.length)[j]? = some (.int .u8 x.toNat) := by rw [ht]; simp [Lib.byteCells, hx]
    rw [List.getElem?_take] at hj
    split at hj
    · show w.cell? _ = _
      rw [hadd]
      simp only [World.cell?, hg]
      simpa using hj
    · cases hj
  have Hf := hidB (show WrKeep b (some g) w (w.drew.freeze ⟨g, 0, none⟩ l.length) ∧ (w.drew.freeze ⟨g, 0, none⟩ l.length).heap.size = w.heap.size from by
    unfold World.freeze
    rw [if_neg hl0]
    refine ⟨⟨by simp, rfl, rfl, fun k _ _ hk => ?_⟩, by simp⟩
    simp only [Array.getElem?_modify]
    rw [if_neg (fun e => hk (by rw [e]))]
    rfl)
  clear hb hg hnc hcm hcs ht h0 hl0
  go_enter Tryz.func107, Tryz.ntmps107
  go_wp2
  go_region
  all_goals (go_wp2; go_ret; exact ⟨rfl, Hf.out⟩)
set_option maxHeartbeats 4000000 in
set_option maxRecDepth 100000 in
theorem Tryz.arn_two (v : Value) (n : Nat) (xs : List Value) (r : Int) (h0 : 128 ≤ r) (h1 : r ≤ 2047) (w : World) (hown : w.ownsRow 0 5 1 v n xs) (hlen : n + 4 ≤ 140737488355328) :
    Calls Tryz.prog 378 #[v, .int .i32 r] w fun e w' => ∃ v', e = .returned v' ∧ ArOut 5 w w' v v' n xs [.int .u8 (192 + r / 64), .int .u8 (128 + r % 64)] := by
  obtain ⟨i0, hi, hz⟩ := Option.map_eq_some_iff.1 Tryz.bbyteI
  simp only [Prod.mk.injEq] at hz
  obtain ⟨hz0, hz1, hz2⟩ := hz
  have Hi := hidB (show _ ∧ _ ∧ _ ∧ _ from ⟨hi, hz0, hz1, hz2⟩)
  have Ho := hidB hown
  clear hi hz0 hz1 hz2 hown
  go_enter Tryz.func378, Tryz.ntmps378
  go_wp2_with (at_builtin; refine wpList_append_w rfl _ _ 103 103 rfl 5 i0 _ Tryz.underlying103 Hi.out.1 Hi.out.2.1 Hi.out.2.2.1 Hi.out.2.2.2 rfl v n xs rfl (Ho.out.alloc _) _ rfl 2 [.int .u8 (192 + r / 64), .int .u8 (128 + r % 64)] (Src.ofSlice _ Tryz.underlying103 ⟨w.heap.size, 0, none⟩ 2 2 [.int .u8 (192 + r / 64), .int .u8 (128 + r % 64)] rfl ?c1 ?c2) (by decide) (by omega) ?c3)
  all_goals first
    | (intro v' w2 hown' hgrow hb hnn; go_wp2; go_ret; exact ⟨_, rfl, hown', ⟨_, hgrow⟩, by simpa using hb, hnn⟩)
    | (intro u hu; simp at hu; rcases hu with rfl | rfl <;> rfl)
    | (intro j u hj
       match j, hj with
       | 0, hj => simp at hj; subst hj; simp [Addr.add]
       | 1, hj => simp at hj; subst hj; simp [Addr.add]
       | (j + 2), hj => simp at hj)

set_option maxHeartbeats 4000000 in
set_option maxRecDepth 100000 in
theorem Tryz.arn_lo (v : Value) (n : Nat) (xs : List Value) (r : Int) (h0 : 2048 ≤ r) (h1 : r < 55296) (w : World) (hown : w.ownsRow 0 5 1 v n xs) (hlen : n + 4 ≤ 140737488355328) :
    Calls Tryz.prog 378 #[v, .int .i32 r] w fun e w' => ∃ v', e = .returned v' ∧ ArOut 5 w w' v v' n xs [.int .u8 (224 + r / 4096), .int .u8 (128 + r / 64 % 64), .int .u8 (128 + r % 64)] := by
  obtain ⟨i0, hi, hz⟩ := Option.map_eq_some_iff.1 Tryz.bbyteI
  simp only [Prod.mk.injEq] at hz
  obtain ⟨hz0, hz1, hz2⟩ := hz
  have Hi := hidB (show _ ∧ _ ∧ _ ∧ _ from ⟨hi, hz0, hz1, hz2⟩)
  have Ho := hidB hown
  clear hi hz0 hz1 hz2 hown
  go_enter Tryz.func378, Tryz.ntmps378
  go_wp2_with (at_builtin; refine wpList_append_w rfl _ _ 103 103 rfl 5 i0 _ Tryz.underlying103 Hi.out.1 Hi.out.2.1 Hi.out.2.2.1 Hi.out.2.2.2 rfl v n xs rfl (Ho.out.alloc _) _ rfl 3 [.int .u8 (224 + r / 4096), .int .u8 (128 + r / 64 % 64), .int .u8 (128 + r % 64)] (Src.ofSlice _ Tryz.underlying103 ⟨w.heap.size, 0, none⟩ 3 3 [.int .u8 (224 + r / 4096), .int .u8 (128 + r / 64 % 64), .int .u8 (128 + r % 64)] rfl ?c1 ?c2) (by decide) (by omega) ?c3)
  all_goals first
    | (intro v' w2 hown' hgrow hb hnn; go_wp2; go_ret; exact ⟨_, rfl, hown', ⟨_, hgrow⟩, by simpa using hb, hnn⟩)
    | (intro u hu; simp at hu; rcases hu with rfl | rfl | rfl <;> rfl)
    | (intro j u hj
       match j, hj with
       | 0, hj => simp at hj; subst hj; simp [Addr.add]
       | 1, hj => simp at hj; subst hj; simp [Addr.add]
       | 2, hj => simp at hj; subst hj; simp [Addr.add]
       | (j + 3), hj => simp at hj)

set_option maxHeartbeats 4000000 in
set_option maxRecDepth 100000 in
theorem Tryz.arn_hi (v : Value) (n : Nat) (xs : List Value) (r : Int) (h0 : 57343 < r) (h1 : r ≤ 65535) (w : World) (hown : w.ownsRow 0 5 1 v n xs) (hlen : n + 4 ≤ 140737488355328) :
    Calls Tryz.prog 378 #[v, .int .i32 r] w fun e w' => ∃ v', e = .returned v' ∧ ArOut 5 w w' v v' n xs [.int .u8 (224 + r / 4096), .int .u8 (128 + r / 64 % 64), .int .u8 (128 + r % 64)] := by
  obtain ⟨i0, hi, hz⟩ := Option.map_eq_some_iff.1 Tryz.bbyteI
  simp only [Prod.mk.injEq] at hz
  obtain ⟨hz0, hz1, hz2⟩ := hz
  have Hi := hidB (show _ ∧ _ ∧ _ ∧ _ from ⟨hi, hz0, hz1, hz2⟩)
  have Ho := hidB hown
  clear hi hz0 hz1 hz2 hown
  go_enter Tryz.func378, Tryz.ntmps378
  go_wp2_with (at_builtin; refine wpList_append_w rfl _ _ 103 103 rfl 5 i0 _ Tryz.underlying103 Hi.out.1 Hi.out.2.1 Hi.out.2.2.1 Hi.out.2.2.2 rfl v n xs rfl (Ho.out.alloc _) _ rfl 3 [.int .u8 (224 + r / 4096), .int .u8 (128 + r / 64 % 64), .int .u8 (128 + r % 64)] (Src.ofSlice _ Tryz.underlying103 ⟨w.heap.size, 0, none⟩ 3 3 [.int .u8 (224 + r / 4096), .int .u8 (128 + r / 64 % 64), .int .u8 (128 + r % 64)] rfl ?c1 ?c2) (by decide) (by omega) ?c3)
  all_goals first
    | (intro v' w2 hown' hgrow hb hnn; go_wp2; go_ret; exact ⟨_, rfl, hown', ⟨_, hgrow⟩, by simpa using hb, hnn⟩)
    | (intro u hu; simp at hu; rcases hu with rfl | rfl | rfl <;> rfl)
    | (intro j u hj
       match j, hj with
       | 0, hj => simp at hj; subst hj; simp [Addr.add]
       | 1, hj => simp at hj; subst hj; simp [Addr.add]
       | 2, hj => simp at hj; subst hj; simp [Addr.add]
       | (j + 3), hj => simp at hj)

set_option maxHeartbeats 4000000 in
set_option maxRecDepth 100000 in
theorem Tryz.arn_four (v : Value) (n : Nat) (xs : List Value) (r : Int) (h0 : 65536 ≤ r) (h1 : r ≤ 1114111) (w : World) (hown : w.ownsRow 0 5 1 v n xs) (hlen : n + 4 ≤ 140737488355328) :
    Calls Tryz.prog 378 #[v, .int .i32 r] w fun e w' => ∃ v', e = .returned v' ∧ ArOut 5 w w' v v' n xs [.int .u8 (240 + r / 262144), .int .u8 (128 + r / 4096 % 64), .int .u8 (128 + r / 64 % 64), .int .u8 (128 + r % 64)] := by
  obtain ⟨i0, hi, hz⟩ := Option.map_eq_some_iff.1 Tryz.bbyteI
  simp only [Prod.mk.injEq] at hz
  obtain ⟨hz0, hz1, hz2⟩ := hz
  have Hi := hidB (show _ ∧ _ ∧ _ ∧ _ from ⟨hi, hz0, hz1, hz2⟩)
  have Ho := hidB hown
  clear hi hz0 hz1 hz2 hown
  go_enter Tryz.func378, Tryz.ntmps378
  go_wp2_with (at_builtin; refine wpList_append_w rfl _ _ 103 103 rfl 5 i0 _ Tryz.underlying103 Hi.out.1 Hi.out.2.1 Hi.out.2.2.1 Hi.out.2.2.2 rfl v n xs rfl (Ho.out.alloc _) _ rfl 4 [.int .u8 (240 + r / 262144), .int .u8 (128 + r / 4096 % 64), .int .u8 (128 + r / 64 % 64), .int .u8 (128 + r % 64)] (Src.ofSlice _ Tryz.underlying103 ⟨w.heap.size, 0, none⟩ 4 4 [.int .u8 (240 + r / 262144), .int .u8 (128 + r / 4096 % 64), .int .u8 (128 + r / 64 % 64), .int .u8 (128 + r % 64)] rfl ?c1 ?c2) (by decide) (by omega) ?c3)
  all_goals first
    | (intro v' w2 hown' hgrow hb hnn; go_wp2; go_ret; exact ⟨_, rfl, hown', ⟨_, hgrow⟩, by simpa using hb, hnn⟩)
    | (intro u hu; simp at hu; rcases hu with rfl | rfl | rfl | rfl <;> rfl)
    | (intro j u hj
       match j, hj with
       | 0, hj => simp at hj; subst hj; simp [Addr.add]
       | 1, hj => simp at hj; subst hj; simp [Addr.add]
       | 2, hj => simp at hj; subst hj; simp [Addr.add]
       | 3, hj => simp at hj; subst hj; simp [Addr.add]
       | (j + 4), hj => simp at hj)

set_option maxHeartbeats 4000000 in
set_option maxRecDepth 100000 in
theorem Tryz.arn_neg (v : Value) (n : Nat) (xs : List Value) (r : Int) (h0 : -2147483648 ≤ r) (h1 : r < 0) (w : World) (hown : w.ownsRow 0 5 1 v n xs) (hlen : n + 4 ≤ 140737488355328) :
    Calls Tryz.prog 378 #[v, .int .i32 r] w fun e w' => ∃ v', e = .returned v' ∧ ArOut 5 w w' v v' n xs [.int .u8 (239), .int .u8 (191), .int .u8 (189)] := by
  obtain ⟨i0, hi, hz⟩ := Option.map_eq_some_iff.1 Tryz.bbyteI
  simp only [Prod.mk.injEq] at hz
  obtain ⟨hz0, hz1, hz2⟩ := hz
  have Hi := hidB (show _ ∧ _ ∧ _ ∧ _ from ⟨hi, hz0, hz1, hz2⟩)
  have Ho := hidB hown
  clear hi hz0 hz1 hz2 hown
  go_enter Tryz.func378, Tryz.ntmps378
  go_wp2_with (at_builtin; refine wpList_append_w rfl _ _ 103 103 rfl 5 i0 _ Tryz.underlying103 Hi.out.1 Hi.out.2.1 Hi.out.2.2.1 Hi.out.2.2.2 rfl v n xs rfl (Ho.out.alloc _) _ rfl 3 [.int .u8 (239), .int .u8 (191), .int .u8 (189)] (Src.ofSlice _ Tryz.underlying103 ⟨w.heap.size, 0, none⟩ 3 3 [.int .u8 (239), .int .u8 (191), .int .u8 (189)] rfl ?c1 ?c2) (by decide) (by omega) ?c3)
  all_goals first
    | (intro v' w2 hown' hgrow hb hnn; go_wp2; go_ret; exact ⟨_, rfl, hown', ⟨_, hgrow⟩, by simpa using hb, hnn⟩)
    | (intro u hu; simp at hu; rcases hu with rfl | rfl | rfl <;> rfl)
    | (intro j u hj
       match j, hj with
       | 0, hj => simp at hj; subst hj; simp [Addr.add]
       | 1, hj => simp at hj; subst hj; simp [Addr.add]
       | 2, hj => simp at hj; subst hj; simp [Addr.add]
       | (j + 3), hj => simp at hj)

set_option maxHeartbeats 4000000 in
set_option maxRecDepth 100000 in
theorem Tryz.arn_sur (v : Value) (n : Nat) (xs : List Value) (r : Int) (h0 : 55296 ≤ r) (h1 : r ≤ 57343) (w : World) (hown : w.ownsRow 0 5 1 v n xs) (hlen : n + 4 ≤ 140737488355328) :
    Calls Tryz.prog 378 #[v, .int .i32 r] w fun e w' => ∃ v', e = .returned v' ∧ ArOut 5 w w' v v' n xs [.int .u8 (239), .int .u8 (191), .int .u8 (189)] := by
  obtain ⟨i0, hi, hz⟩ := Option.map_eq_some_iff.1 Tryz.bbyteI
  simp only [Prod.mk.injEq] at hz
  obtain ⟨hz0, hz1, hz2⟩ := hz
  have Hi := hidB (show _ ∧ _ ∧ _ ∧ _ from ⟨hi, hz0, hz1, hz2⟩)
  have Ho := hidB hown
  clear hi hz0 hz1 hz2 hown
  go_enter Tryz.func378, Tryz.ntmps378
  go_wp2_with (at_builtin; refine wpList_append_w rfl _ _ 103 103 rfl 5 i0 _ Tryz.underlying103 Hi.out.1 Hi.out.2.1 Hi.out.2.2.1 Hi.out.2.2.2 rfl v n xs rfl (Ho.out.alloc _) _ rfl 3 [.int .u8 (239), .int .u8 (191), .int .u8 (189)] (Src.ofSlice _ Tryz.underlying103 ⟨w.heap.size, 0, none⟩ 3 3 [.int .u8 (239), .int .u8 (191), .int .u8 (189)] rfl ?c1 ?c2) (by decide) (by omega) ?c3)
  all_goals first
    | (intro v' w2 hown' hgrow hb hnn; go_wp2; go_ret; exact ⟨_, rfl, hown', ⟨_, hgrow⟩, by simpa using hb, hnn⟩)
    | (intro u hu; simp at hu; rcases hu with rfl | rfl | rfl <;> rfl)
    | (intro j u hj
       match j, hj with
       | 0, hj => simp at hj; subst hj; simp [Addr.add]
       | 1, hj => simp at hj; subst hj; simp [Addr.add]
       | 2, hj => simp at hj; subst hj; simp [Addr.add]
       | (j + 3), hj => simp at hj)

set_option maxHeartbeats 4000000 in
set_option maxRecDepth 100000 in
theorem Tryz.arn_big (v : Value) (n : Nat) (xs : List Value) (r : Int) (h0 : 1114111 < r) (h1 : r ≤ 2147483647) (w : World) (hown : w.ownsRow 0 5 1 v n xs) (hlen : n + 4 ≤ 140737488355328) :
    Calls Tryz.prog 378 #[v, .int .i32 r] w fun e w' => ∃ v', e = .returned v' ∧ ArOut 5 w w' v v' n xs [.int .u8 (239), .int .u8 (191), .int .u8 (189)] := by
  obtain ⟨i0, hi, hz⟩ := Option.map_eq_some_iff.1 Tryz.bbyteI
  simp only [Prod.mk.injEq] at hz
  obtain ⟨hz0, hz1, hz2⟩ := hz
  have Hi := hidB (show _ ∧ _ ∧ _ ∧ _ from ⟨hi, hz0, hz1, hz2⟩)
  have Ho := hidB hown
  clear hi hz0 hz1 hz2 hown
  go_enter Tryz.func378, Tryz.ntmps378
  go_wp2_with (at_builtin; refine wpList_append_w rfl _ _ 103 103 rfl 5 i0 _ Tryz.underlying103 Hi.out.1 Hi.out.2.1 Hi.out.2.2.1 Hi.out.2.2.2 rfl v n xs rfl (Ho.out.alloc _) _ rfl 3 [.int .u8 (239), .int .u8 (191), .int .u8 (189)] (Src.ofSlice _ Tryz.underlying103 ⟨w.heap.size, 0, none⟩ 3 3 [.int .u8 (239), .int .u8 (191), .int .u8 (189)] rfl ?c1 ?c2) (by decide) (by omega) ?c3)
  all_goals first
    | (intro v' w2 hown' hgrow hb hnn; go_wp2; go_ret; exact ⟨_, rfl, hown', ⟨_, hgrow⟩, by simpa using hb, hnn⟩)
    | (intro u hu; simp at hu; rcases hu with rfl | rfl | rfl <;> rfl)
    | (intro j u hj
       match j, hj with
       | 0, hj => simp at hj; subst hj; simp [Addr.add]
       | 1, hj => simp at hj; subst hj; simp [Addr.add]
       | 2, hj => simp at hj; subst hj; simp [Addr.add]
       | (j + 3), hj => simp at hj)

theorem Tryz.arn (v : Value) (n : Nat) (xs : List Value) (r : Int) (hr : I32B r) (hna : r < 0 ∨ 128 ≤ r) (w : World) (hown : w.ownsRow 0 5 1 v n xs) (hlen : n + 4 ≤ 140737488355328) :
    Calls Tryz.prog 378 #[v, .int .i32 r] w fun e w' => ∃ v', e = .returned v' ∧ ArOut 5 w w' v v' n xs (Lib.runeCells r) := by
  by_cases c0 : r < 0
  · rw [show Lib.runeCells r = [.int .u8 239, .int .u8 191, .int .u8 189] by simp [Lib.runeCells, Lib.encodeRuneZ_bad (Or.inl c0)]]
    exact Tryz.arn_neg v n xs r hr.1 c0 w hown hlen
  by_cases c1 : r ≤ 2047
  · rw [show Lib.runeCells r = [.int .u8 (192 + r / 64), .int .u8 (128 + r % 64)] by simp [Lib.runeCells, Lib.encodeRuneZ_two (by omega) c1]]
    exact Tryz.arn_two v n xs r (by omega) c1 w hown hlen
  by_cases c2 : r < 55296
  · rw [show Lib.runeCells r = [.int .u8 (224 + r / 4096), .int .u8 (128 + r / 64 % 64), .int .u8 (128 + r % 64)] by simp [Lib.runeCells, Lib.encodeRuneZ_three (Or.inl ⟨by omega, c2⟩)]]
    exact Tryz.arn_lo v n xs r (by omega) c2 w hown hlen
  by_cases c3 : r ≤ 57343
  · rw [show Lib.runeCells r = [.int .u8 239, .int .u8 191, .int .u8 189] by simp [Lib.runeCells, Lib.encodeRuneZ_bad (Or.inr (Or.inl ⟨by omega, c3⟩))]]
    exact Tryz.arn_sur v n xs r (by omega) c3 w hown hlen
  by_cases c4 : r ≤ 65535
  · rw [show Lib.runeCells r = [.int .u8 (224 + r / 4096), .int .u8 (128 + r / 64 % 64), .int .u8 (128 + r % 64)] by simp [Lib.runeCells, Lib.encodeRuneZ_three (Or.inr ⟨by omega, c4⟩)]]
    exact Tryz.arn_hi v n xs r (by omega) c4 w hown hlen
  by_cases c5 : r ≤ 1114111
  · rw [show Lib.runeCells r = [.int .u8 (240 + r / 262144), .int .u8 (128 + r / 4096 % 64), .int .u8 (128 + r / 64 % 64), .int .u8 (128 + r % 64)] by simp [Lib.runeCells, Lib.encodeRuneZ_four (by omega) c5]]
    exact Tryz.arn_four v n xs r (by omega) c5 w hown hlen
  · rw [show Lib.runeCells r = [.int .u8 239, .int .u8 191, .int .u8 189] by simp [Lib.runeCells, Lib.encodeRuneZ_bad (r := r) (Or.inr (Or.inr (by omega)))]]
    exact Tryz.arn_big v n xs r (by omega) hr.2 w hown hlen

set_option maxHeartbeats 4000000 in
set_option maxRecDepth 100000 in
theorem Tryz.arn_ascii (v : Value) (n : Nat) (xs : List Value) (r : Int) (h0 : 0 ≤ r) (h1 : r ≤ 127) (w : World) (hown : w.ownsRow 0 5 1 v n xs) (hlen : n + 4 ≤ 140737488355328) :
    Calls Tryz.prog 367 #[v, .int .i32 r] w fun e w' => ∃ v', e = .returned v' ∧ ArOut 5 w w' v v' n xs [.int .u8 r] := by
  obtain ⟨i0, hi, hz⟩ := Option.map_eq_some_iff.1 Tryz.bbyteI
  simp only [Prod.mk.injEq] at hz
  obtain ⟨hz0, hz1, hz2⟩ := hz
  have Hi := hidB (show _ ∧ _ ∧ _ ∧ _ from ⟨hi, hz0, hz1, hz2⟩)
  have Ho := hidB hown
  clear hi hz0 hz1 hz2 hown
  go_enter Tryz.func367, Tryz.ntmps367
  go_wp2_with (at_builtin; refine wpList_append_w rfl _ _ 103 103 rfl 5 i0 _ Tryz.underlying103 Hi.out.1 Hi.out.2.1 Hi.out.2.2.1 Hi.out.2.2.2 rfl v n xs rfl (Ho.out.alloc _) _ rfl 1 [.int .u8 r] (Src.ofSlice _ Tryz.underlying103 ⟨w.heap.size, 0, none⟩ 1 1 [.int .u8 r] rfl ?c1 ?c2) (by decide) (by omega) ?c3)
  all_goals first
    | (intro v' w2 hown' hgrow hb hnn; go_wp2; go_ret; exact ⟨_, rfl, hown', ⟨_, hgrow⟩, by simpa using hb, hnn⟩)
    | (intro u hu; simp at hu; rcases hu with rfl; rfl)
    | (intro j u hj
       match j, hj with
       | 0, hj => simp at hj; subst hj; simp [Addr.add]
       | (j + 1), hj => simp at hj)

set_option maxHeartbeats 4000000 in
set_option maxRecDepth 100000 in
theorem Tryz.ar (v : Value) (n : Nat) (xs : List Value) (r : Int) (hr : I32B r) (w : World) (hown : w.ownsRow 0 5 1 v n xs) (hlen : n + 4 ≤ 140737488355328) :
    Calls Tryz.prog 367 #[v, .int .i32 r] w fun e w' => ∃ v', e = .returned v' ∧ ArOut 5 w w' v v' n xs (Lib.runeCells r) := by
  by_cases c : 0 ≤ r ∧ r ≤ 127
  · rw [show Lib.runeCells r = [.int .u8 r] by simp [Lib.runeCells, Lib.encodeRuneZ_one c.1 c.2]]
    exact Tryz.arn_ascii v n xs r c.1 c.2 w hown hlen
  have hna : r < 0 ∨ 128 ≤ r := by omega
  have H := hidB (Tryz.arn v n xs r hr hna w hown hlen)
  obtain ⟨hr0, hr1⟩ := hr
  clear hown c
  rcases hna with hna | hna
  all_goals
    go_enter Tryz.func367, Tryz.ntmps367
    go_wp2_with (go_at_call 378; refine H.out.mono ?_)
    rintro e w1 ⟨v', rfl, h1⟩
    go_wp2
    go_ret
    exact ⟨_, rfl, h1⟩

set_option maxHeartbeats 4000000 in
set_option maxRecDepth 100000 in
theorem Tryz.runeW (b : Nat) (w : World) (p v : Value) (n : Nat) (xs : List Value) (r : Int) (hr : I32B r) (hb : w.heap[b]? = some (.cells #[p, v] 141 (0, 0))) (hp : p = .pointer none ∨ p = .pointer (some ⟨b, 0, none⟩))
    (hown : w.ownsRow 0 5 1 v n xs) (hne : v.ownBlock ≠ some b) (hbytes : n + 4 ≤ 140737488355328) :
    Calls Tryz.prog 340 #[.pointer (some ⟨b, 0, none⟩), .int .i32 r] w fun e w' => e = .returned (.tuple #[.int .i64 (Lib.runeCells r).length, .nilIface]) ∧
      ∃ v', w'.heap[b]? = some (.cells #[.pointer (some ⟨b, 0, none⟩), v'] 141 (0, 0)) ∧ w'.ownsRow 0 5 1 v' (n + (Lib.runeCells r).length) (xs ++ Lib.runeCells r) ∧ v'.ownBlock ≠ some b ∧ WrKeep b v.ownBlock w w' ∧
        (v'.ownBlock = v.ownBlock ∨ v'.ownBlock = some (w.heap.size + 1)) ∧ ∀ g, v'.ownBlock = some g → g < w'.heap.size := by
  have hbl : b < w.heap.size := by
    rcases Nat.lt_or_ge b w.heap.size with h | h
    · exact h
    · simp [Array.getElem?_eq_none h] at hb
  have hk4 := Lib.runeCells_le r
  have H1 := hidB (Tryz.bcAny b w p v n xs hb hp hown hne)
  have H2 := hidB (show _ ∧ _ from ⟨hbl, hne⟩)
  have Hr := hidB hr
  obtain ⟨ao, cap, hv0⟩ : ∃ ao cap, v = .slice ao n cap := by
    rcases hown.2 with ⟨hv, h0⟩ | ⟨g, cap, cur, hv, _⟩
    · exact ⟨none, 0, by rw [hv, h0]⟩
    · exact ⟨_, _, hv⟩
  subst hv0
  clear hb hp hown hne hbl hr
  go_enter Tryz.func340, Tryz.ntmps340
  go_wp2_with (go_at_call 192; refine H1.out.mono ?_)
  rintro e w1 ⟨rfl, hb1, hown1, hsz1, hk1, hall1⟩
  have H3 := hidB (Tryz.ar (.slice ao n cap) n xs r Hr.out w1 hown1 hbytes)
  have Hk := hidB (show _ ∧ _ ∧ _ from ⟨hb1, hsz1, hk1⟩)
  have c0 : w1.cell? ⟨b, 0, none⟩ = some (.pointer (some ⟨b, 0, none⟩)) := by rw [Lib.cell_of_heap hb1]; rfl
  have c1 : w1.cell? ⟨b, 1, none⟩ = some (.slice ao n cap) := by rw [Lib.cell_of_heap hb1]; rfl
  clear hb1 hown1 hsz1 hk1 hall1 H1
  go_wp2_with (go_at_call 367; refine H3.out.mono ?_)
  rintro e w2 ⟨v', rfl, hown', ⟨o, hgrow⟩, hblk', hnn⟩
  obtain ⟨hbl, hne⟩ := H2.out
  obtain ⟨hb1, hsz1, hk1⟩ := Hk.out
  have hlt : b < w1.heap.size := by omega
  have hne' : v'.ownBlock ≠ some b := by
    rcases hblk' with h | h
    · rw [h]; exact hne
    · rw [h]; intro e; simp only [Option.some.injEq] at e; omega
  have hb2 : w2.heap[b]? = some (.cells #[.pointer (some ⟨b, 0, none⟩), .slice ao n cap] 141 (0, 0)) := by
    rw [hgrow.block b (by simp; omega) (fun e => hne e.symm), Lib.alloc_old w1 o b hlt]
    exact hb1
  have fin : ∀ w3, w3 = w2.setCell ⟨b, 1, none⟩ v' → w3.heap[b]? = some (.cells #[.pointer (some ⟨b, 0, none⟩), v'] 141 (0, 0)) ∧ w3.ownsRow 0 5 1 v' (n + (Lib.runeCells r).length) (xs ++ Lib.runeCells r) ∧ v'.ownBlock ≠ some b ∧ WrKeep b (Value.slice ao n cap).ownBlock w w3 ∧
        (v'.ownBlock = (Value.slice ao n cap).ownBlock ∨ v'.ownBlock = some (w.heap.size + 1)) ∧ ∀ g, v'.ownBlock = some g → g < w3.heap.size := by
    rintro w3 rfl
    have kg : WrKeep b (Value.slice ao n cap).ownBlock w1 w2 := by
      refine ⟨by have := hgrow.size; simp at this; omega, hgrow.os, hgrow.output, fun k q1 _ q3 => ?_⟩
      rw [hgrow.block k (by simp; omega) q3, Lib.alloc_old w1 o k q1]
    refine ⟨by simp [World.setCell, Array.getElem?_modify, hb2], ?_, hne', (hk1.trans kg).trans (WrKeep.setCell _ _ _ _ _), by rw [hsz1] at hblk'; exact hblk', fun q hq => ?_⟩
    · exact hown'.kept (row := some b) ⟨rfl, rfl, rfl, by simp [World.setCell], fun k _ hk => heap_setCell_ne (fun e => hk (by simp [e]))⟩ (.inr hne')
    · rcases hown'.2 with ⟨_, h⟩ | ⟨g', cap', cur, hv, _, ho, _⟩
      · omega
      · subst hv
        simp only [Value.ownBlock, Option.some.injEq] at hq
        subst hq
        simp only [World.setCell, Array.size_modify]
        rcases Nat.lt_or_ge g' w2.heap.size with h | h
        · exact h
        · simp [Array.getElem?_eq_none h] at ho
  have Hf := hidB fin
  have d0 : w2.cell? ⟨b, 0, none⟩ = some (.pointer (some ⟨b, 0, none⟩)) := by rw [Lib.cell_of_heap hb2]; rfl
  have d1 : w2.cell? ⟨b, 1, none⟩ = some (.slice ao n cap) := by rw [Lib.cell_of_heap hb2]; rfl
  have f1 : w2.frozen? ⟨b, 1, none⟩ = false := Lib.frozen_of_heap hb2 1
  obtain ⟨g, cap', hv'⟩ : ∃ g cap', v' = .slice (some ⟨g, 0, none⟩) (n + (Lib.runeCells r).length) cap' := by
    rcases hown'.2 with ⟨_, h⟩ | ⟨g, cap', cur, hv, _⟩
    · omega
    · exact ⟨_, _, hv⟩
  subst hv'
  clear hown' hgrow hblk' hnn hne' hk1 hsz1 hne hb1 hbl hlt hb2 fin H2 H3 Hk
  go_wp2
  go_ret2
  refine ⟨?_, _, Hf.out _ rfl⟩
  have e : ((n : Int) + ((Lib.runeCells r).length : Int) - (n : Int)) = ((Lib.runeCells r).length : Int) := by omega
  simp [e]

theorem Tryz.bZero (w : World) : (zeroValue 141).run Tryz.prog w = .ok (.agg #[.pointer none, .slice none 0 0]) w := by kernel_rfl
theorem gBuilder.WriteRune.ok : SpecOk Tryz.prog 340 (wrPutR 141 5) :=
  putR_ok (fun _ _ => by kernel_rfl) fun b w p v n xs r hr hb hp hown hne hn => Tryz.runeW b w p v n xs r hr hb hp hown hne hn
theorem gBuilder.alloc {n B : Nat} {Q : Exit → Go.Ab.St → Prop} {σ : Go.Ab.St} {id d1 : Nat} {ops : Array Oper} {o1 : Oper} (ho : ops.toList = [o1]) (ho1 : o1.op = .alloc 141) (hg : o1.guard = none)
    (hd1 : o1.dst = some d1) (hd : dstsOk ops n ops.toList [] = true) (hn : noTags σ.A = true) {dead : List Nat}
    (h : Q .normal ⟨⟨d1, none, .ptr σ.M.length 0⟩ :: without dead (without [d1] σ.A), σ.M ++ [.opq (wrO 141 5 [])]⟩) : AWp Tryz.prog n B (.region id ops false) Q σ :=
  AWp.regAlloc (wrO 141 5 []) ho ho1 hg hd1 hd hn Tryz.bZero rfl (fun b o => wr_fresh _ _ b o) h
end Go.Proofs
