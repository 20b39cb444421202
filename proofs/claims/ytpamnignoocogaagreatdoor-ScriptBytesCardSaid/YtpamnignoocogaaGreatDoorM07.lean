/- A Writer is written and read. No condition. -/
import Derived.Test.YtpamnignoocogaaGreatDoorM11
import Derived.Lib.UnsafeStr
import Derived.Shelf.RegionOpenPlain
import Derived.Test.YtpamnignoocogaaGreatDoorM03
section
namespace Go.Proofs
open Go.RowKit Go.Ab

theorem hidW {p : Prop} (h : p) : Hid p := h

set_option maxHeartbeats 2000000 in
set_option maxRecDepth 100000 in
theorem Tryz.writeW (b : Nat) (w : World) (p v : Value) (n : Nat) (xs : List Value) (hb : w.heap[b]? = some (.cells #[p, v] 126 (0, 0))) (hp : p = .pointer none ∨ p = .pointer (some ⟨b, 0, none⟩))
    (hown : w.ownsRow 0 5 1 v n xs) (hne : v.ownBlock ≠ some b) (ad : Addr) (m c : Nat) (news : List Value) (hl : news.length = m) (hm : 0 < m) (hnews : ∀ j u, news[j]? = some u → w.cell? (ad.add j) = some u)
    (h1 : ∀ u ∈ news, u.oneCell' = true) (hap : ∀ j, (ad.add j).block ≠ b) (hbytes : n + m ≤ 140737488355328) :
    Calls Tryz.prog 100 #[.pointer (some ⟨b, 0, none⟩), .slice (some ad) m c] w fun e w' => e = .returned (.tuple #[.int .i64 m, .nilIface]) ∧
      ∃ v', w'.heap[b]? = some (.cells #[.pointer (some ⟨b, 0, none⟩), v'] 126 (0, 0)) ∧ w'.ownsRow 0 5 1 v' (n + m) (xs ++ news) ∧ v'.ownBlock ≠ some b ∧ WrKeep b v.ownBlock w w' ∧
        (v'.ownBlock = v.ownBlock ∨ v'.ownBlock = some w.heap.size) ∧ ∀ g, v'.ownBlock = some g → g < w'.heap.size := by
  have hbl : b < w.heap.size := by
    rcases Nat.lt_or_ge b w.heap.size with h | h
    · exact h
    · simp [Array.getElem?_eq_none h] at hb
  have H1 := hidW (Tryz.ccAny b w p v n xs hb hp hown hne)
  have H2 := hidW (show _ ∧ _ ∧ _ ∧ _ ∧ _ ∧ _ from ⟨hbl, hne, hnews, h1, hap, hl⟩)
  clear hb hp hown hne hnews h1 hap hbl hl
  go_enter Tryz.func100, Tryz.ntmps100
  go_wp2_with (go_at_call 57; refine H1.out.mono ?_)
  rintro e w1 ⟨rfl, hb1, hown1, hsz1, hk1, hall1⟩
  obtain ⟨hbl, hne, hnews, h1, hap, hl⟩ := H2.out
  obtain ⟨i0, hi, hz⟩ := Option.map_eq_some_iff.1 Tryz.byteI
  simp only [Prod.mk.injEq] at hz
  obtain ⟨hz0, hz1, hz2⟩ := hz
  have hnews1 : ∀ j u, news[j]? = some u → w1.cell? (ad.add j) = some u := fun j u hj => by
    rw [← hnews j u hj]; simp only [World.cell?]; rw [hall1 _ (hap j)]
  have hsrc : Src Tryz.prog 1 77 (.slice (some ad) m c) m news w1 := Src.ofSlice w1 Tryz.underlying77 ad m c news (by omega) hnews1 h1
  have Hs := hidW hsrc
  have Hi := hidW (show _ ∧ _ ∧ _ ∧ _ from ⟨hi, hz0, hz1, hz2⟩)
  have Hk := hidW (show _ ∧ _ from ⟨hk1, hsz1⟩)
  have Ho := hidW hown1
  have Hn := hidW hne
  have Hb := hidW hb1
  have Hl := hidW hbl
  have c0 : w1.cell? ⟨b, 0, none⟩ = some (.pointer (some ⟨b, 0, none⟩)) := by rw [Lib.cell_of_heap hb1]; rfl
  have c1 : w1.cell? ⟨b, 1, none⟩ = some v := by rw [Lib.cell_of_heap hb1]; rfl
  clear hall1 hk1 hsz1 hown1 hne hb1 hsrc hnews1 hnews h1 hap hi hz0 hz1 hz2 hbl hl H1 H2
  go_wp2_with (at_builtin; refine wpList_append_w rfl _ _ 77 77 rfl 5 i0 _ Tryz.underlying77 Hi.out.1 Hi.out.2.1 Hi.out.2.2.1 Hi.out.2.2.2 rfl _ _ _ rfl Ho.out _ rfl m news Hs.out hm hbytes ?_)
  intro v' w2 hown' hgrow hblk' hnn
  obtain ⟨hk1, hsz1⟩ := Hk.out
  have hne := Hn.out
  have hb1 := Hb.out
  have hbl := Hl.out
  have hlt : b < w1.heap.size := by omega
  have hne' : v'.ownBlock ≠ some b := by
    rcases hblk' with h | h
    · rw [h]; exact hne
    · rw [h]; intro e; simp only [Option.some.injEq] at e; omega
  have hb2 : w2.heap[b]? = some (.cells #[.pointer (some ⟨b, 0, none⟩), v] 126 (0, 0)) := by
    rw [hgrow.block b hlt (fun e => hne e.symm)]
    exact hb1
  have fin : ∀ w3, w3 = w2.setCell ⟨b, 1, none⟩ v' → w3.heap[b]? = some (.cells #[.pointer (some ⟨b, 0, none⟩), v'] 126 (0, 0)) ∧ w3.ownsRow 0 5 1 v' (n + m) (xs ++ news) ∧ v'.ownBlock ≠ some b ∧ WrKeep b v.ownBlock w w3 ∧
        (v'.ownBlock = v.ownBlock ∨ v'.ownBlock = some w.heap.size) ∧ ∀ g, v'.ownBlock = some g → g < w3.heap.size := by
    rintro w3 rfl
    refine ⟨by simp [World.setCell, Array.getElem?_modify, hb2], ?_, hne', (hk1.trans (WrKeep.grown hgrow)).trans (WrKeep.setCell _ _ _ _ _), by rw [hsz1] at hblk'; exact hblk', fun q hq => ?_⟩
    · exact hown'.kept (row := some b) ⟨rfl, rfl, rfl, by simp [World.setCell], fun k _ hk => heap_setCell_ne (fun e => hk (by simp [e]))⟩ (.inr hne')
    · rcases hown'.2 with ⟨_, h⟩ | ⟨g', cap', cur, hv, _, ho, _⟩
      · omega
      · subst hv
        simp only [Value.ownBlock, Option.some.injEq] at hq
        subst hq
        simp only [World.setCell, Array.size_modify]
        rcases Nat.lt_or_ge g' w2.heap.size with h | h
        · exact h
        · simp [Array.getElem?_eq_none h] at ho
  have Hf := hidW fin
  have d0 : w2.cell? ⟨b, 0, none⟩ = some (.pointer (some ⟨b, 0, none⟩)) := by rw [Lib.cell_of_heap hb2]; rfl
  have d1 : w2.cell? ⟨b, 1, none⟩ = some v := by rw [Lib.cell_of_heap hb2]; rfl
  have f1 : w2.frozen? ⟨b, 1, none⟩ = false := Lib.frozen_of_heap hb2 1
  obtain ⟨g, cap, hv'⟩ : ∃ g cap, v' = .slice (some ⟨g, 0, none⟩) (n + m) cap := by
    rcases hown'.2 with ⟨_, h⟩ | ⟨g, cap, cur, hv, _⟩
    · omega
    · exact ⟨_, _, hv⟩
  subst hv'
  clear hown' hgrow hblk' hnn hne' hk1 hsz1 hne hb1 hbl hlt hb2 fin
  go_wp2
  go_ret2
  exact ⟨rfl, _, Hf.out _ rfl⟩

theorem Tryz.byteC : Tryz.prog.cellsOf 5 = 1 := by kernel_rfl

set_option maxHeartbeats 1000000 in
set_option maxRecDepth 100000 in
theorem Tryz.stringW (b g cap : Nat) (w : World) (p : Value) (l : List UInt8) (cur : Array Value) (hb : w.heap[b]? = some (.cells #[p, .slice (some ⟨g, 0, none⟩) l.length cap] 126 (0, 0)))
    (hg : w.heap[g]? = some (.cells cur 5 (0, 0))) (hnc : l.length ≤ cap) (hcm : cap ≤ maxLen) (hcs : cur.size = cap) (ht : cur.toList.take l.length = Lib.byteCells l) (h0 : l ≠ []) :
    Calls Tryz.prog 30 #[.pointer (some ⟨b, 0, none⟩)] w fun e w' => e = .returned (.string ⟨l.toArray⟩) ∧ WrKeep b (some g) w w' ∧ w'.heap.size = w.heap.size := by
  have hl0 : l.length ≠ 0 := by simpa using h0
  have c1 : w.drew.cell? ⟨b, 1, none⟩ = some (.slice (some ⟨g, 0, none⟩) l.length cap) := by
    have : w.drew.heap[b]? = some (.cells #[p, .slice (some ⟨g, 0, none⟩) l.length cap] 126 (0, 0)) := hb
    rw [Lib.cell_of_heap this]; rfl
  have hSD : (Builtin.unsafeSliceData_ #[77] 118 #[.slice (some ⟨g, 0, none⟩) l.length cap]).run Tryz.prog w.drew = .ok (.pointer (some ⟨g, 0, none⟩)) w.drew :=
    Lib.run_unsafeSliceData_row _ _ _ _ _ _ (by omega)
  have hUS : (Builtin.unsafeString_ #[118, 3] 9 #[.pointer (some ⟨g, 0, none⟩), .int .i64 l.length]).run Tryz.prog w.drew = .ok (.string ⟨l.toArray⟩) (w.drew.freeze ⟨g, 0, none⟩ l.length) := by
    refine Lib.run_unsafeString_row w.drew 118 3 9 5 Tryz.underlying118 Tryz.byteC g cur.size (by have hg' : w.drew.heap[g]? = some (.cells cur 5 (0, 0)) := hg; simp [World.shape?, hg']) l h0 (by omega) (by unfold maxLen at hcm; omega) ?_
    intro j x hx
    have hadd : (⟨g, 0, none⟩ : Addr).add j = ⟨g, j, none⟩ := by unfold Addr.add; split <;> simp_all
    have hj : (cur.toList.take l.length)[j]? = some (.int .u8 x.toNat) := by rw [ht]; simp [Lib.byteCells, hx]
    rw [List.getElem?_take] at hj
    split at hj
    · show w.cell? _ = _
      rw [hadd]
      simp only [World.cell?, hg]
      simpa using hj
    · cases hj
  have Hf := hidW (show WrKeep b (some g) w (w.drew.freeze ⟨g, 0, none⟩ l.length) ∧ (w.drew.freeze ⟨g, 0, none⟩ l.length).heap.size = w.heap.size from by
    unfold World.freeze
    rw [if_neg hl0]
    refine ⟨⟨by simp, rfl, rfl, fun k _ _ hk => ?_⟩, by simp⟩
    simp only [Array.getElem?_modify]
    rw [if_neg (fun e => hk (by rw [e]))]
    rfl)
  clear hb hg hnc hcm hcs ht h0 hl0
  go_enter Tryz.func30, Tryz.ntmps30
  go_wp2
  go_region
  all_goals (go_wp2; go_ret; exact ⟨rfl, Hf.out⟩)
end Go.Proofs
end
section
namespace Go.Ab
open Go.Proofs

@[simp] theorem u8_rows (l : List Int) : (∀ e ∈ l.map (eNum .u8), ∃ n, e = [.lit (.int .u8 n)]) ↔ True :=
  ⟨fun _ => trivial, fun _ e he => by obtain ⟨n, _, rfl⟩ := List.mem_map.1 he; exact ⟨n, rfl⟩⟩

/-- Bytes are put behind. -/
@[simp] def wrPutS (T E : TypeId) : Sp
  | [.ptr i 0, .sl els _], M => match M[i]? with
    | some (.opq φ) => some { av := .ptr i 0, M := some (M.set i (.opq (wrO T E (appL φ.bs (els.map numOf))))), obl := φ = wrO T E φ.bs ∧ (∀ e ∈ els, ∃ n, e = [.lit (.int .u8 n)]) ∧ els ≠ [] ∧ AppB (lenL φ.bs) (lenL els) 1 }
    | _ => none
  | _, _ => none

theorem addr_plus (b off j : Nat) : (⟨b, off, none⟩ : Addr).add j = ⟨b, off + j, none⟩ := by
  unfold Addr.add
  split <;> simp_all

theorem sl_inv {g : G} {els : List (List AV)} {tok : Tok} {v : Value} (h : R g (.sl els tok) v) (hne : els ≠ []) (hu : ∀ e ∈ els, ∃ n, e = [.lit (.int .u8 n)]) :
    ∃ b off cap, v = .slice (some ⟨b, off, none⟩) els.length cap ∧ ∀ j, j < els.length → g.w.cell? ⟨b, off + j, none⟩ = some (.int .u8 ((els.map numOf).getD j 0)) ∧ ¬ g.reg ⟨b, off + j, none⟩ := by
  cases h with
  | nil => exact absurd rfl hne
  | sl _ _ b off s cap xs hs h1 h2 h3 h4 ht hc =>
    refine ⟨b, off, cap, rfl, fun j hj => ?_⟩
    obtain ⟨n, hn⟩ := hu _ (List.getElem_mem hj)
    have hs1 : s = 1 := by rw [← hs j hj, hn]; rfl
    subst hs1
    have q1 := h1 j 0 hj (by omega)
    have q2 := h2 j 0 hj (by omega)
    have q3 := h3 j 0 hj (by rw [hn]; simp)
    simp only [Nat.mul_one, Nat.add_zero] at q1 q2
    refine ⟨?_, q2⟩
    rw [q1]
    have : R g (.lit (.int .u8 n)) (xs j 0) := by
      have e : els[j][0]'(by rw [hn]; simp) = .lit (.int .u8 n) := by simp [hn]
      rw [e] at q3; exact q3
    rw [this.lit_inv]
    have hg : (els.map numOf).getD j 0 = n := by simp [List.getD, hj, hn]
    rw [hg]

theorem putW_ok {P : Program} {f : FuncId} {T E : TypeId} (hent : ∀ args w, (callFunc f args).run P w = .ok (.enter f args) w)
    (hU : ∀ (b : Nat) (w : World) (p v : Value) (n : Nat) (xs : List Value), w.heap[b]? = some (.cells #[p, v] T (0, 0)) → (p = .pointer none ∨ p = .pointer (some ⟨b, 0, none⟩)) → w.ownsRow 0 E 1 v n xs → v.ownBlock ≠ some b →
      ∀ (ad : Addr) (m c : Nat) (news : List Value), news.length = m → 0 < m → (∀ j u, news[j]? = some u → w.cell? (ad.add j) = some u) → (∀ u ∈ news, u.oneCell' = true) → (∀ j, (ad.add j).block ≠ b) → n + m ≤ 140737488355328 →
      Calls P f #[.pointer (some ⟨b, 0, none⟩), .slice (some ad) m c] w fun e w' => e = .returned (.pointer (some ⟨b, 0, none⟩)) ∧
      ∃ v', w'.heap[b]? = some (.cells #[.pointer (some ⟨b, 0, none⟩), v'] T (0, 0)) ∧ w'.ownsRow 0 E 1 v' (n + m) (xs ++ news) ∧ v'.ownBlock ≠ some b ∧ WrKeep b v.ownBlock w w' ∧
        (v'.ownBlock = v.ownBlock ∨ v'.ownBlock = some w.heap.size) ∧ ∀ g, v'.ownBlock = some g → g < w'.heap.size) : SpecOk P f (wrPutS T E) := by
  intro l M out h
  unfold wrPutS at h
  split at h
  · rename_i i els tok
    split at h
    · rename_i φ hMi
      cases h
      intro g vs hM sm hr ho
      subst hM
      obtain ⟨hφ, hu, hne, happ⟩ := ho
      cases hr with | cons hv hr => cases hr with | cons hs hr => cases hr with | nil =>
      cases hv with
      | ptr _ _ hi =>
      obtain ⟨ab, off, cap, rfl, hcell⟩ := sl_inv hs hne hu
      refine ⟨hent _ _, ?_⟩
      have hq := sm.opq i φ hMi
      rw [hφ] at hq
      obtain ⟨p, v, h1, h2, h3, h4, h5⟩ := WrB.at hq
      generalize hls : els.map numOf = ls at *
      have hll : ls.length = els.length := by rw [← hls]; simp
      have hpos : 0 < ls.length := by
        rw [hll]
        exact List.length_pos_iff.2 hne
      have hadd : ∀ j, (⟨ab, off, none⟩ : Addr).add j = ⟨ab, off + j, none⟩ := fun j => addr_plus ab off j
      have happ' : φ.bs.length + els.length ≤ 140737488355328 := by
        have := happ.1
        simp only [lenL, Int.mul_one, Int.natCast_one] at this
        omega
      have hab : ab ≠ g.β i := by
        intro e
        have := (hcell 0 (by omega)).2
        exact this (reg_of hMi (.inl e))
      refine (hU (g.β i) g.w p v φ.bs.length (φ.bs.map (Value.int .u8)) h1 h2 h3 h4 ⟨ab, off, none⟩ els.length cap (ls.map (Value.int .u8)) (by rw [List.length_map]; exact hll) (by rw [← hll]; exact hpos) (fun j u hj => ?_) (fun u hu => ?_) (fun j => by rw [hadd]; exact hab) happ').mono ?_
      · simp only [List.getElem?_map, Option.map_eq_some_iff] at hj
        obtain ⟨x, hx, rfl⟩ := hj
        have hjl : j < ls.length := by
          rcases Nat.lt_or_ge j ls.length with h | h
          · exact h
          · rw [List.getElem?_eq_none h] at hx; cases hx
        rw [hadd, (hcell j (by omega)).1]
        simp [List.getD, hx]
      · obtain ⟨x, _, rfl⟩ := List.mem_map.1 hu
        rfl
      rintro e w' ⟨rfl, v', k1, k2, k3, k4, k5, k6⟩
      have hW : WrB T E (φ.bs ++ ls) (g.β i) (v'.ownBlock.getD (g.β i)) (w'.heap[g.β i]?) (w'.heap[v'.ownBlock.getD (g.β i)]?) := by
        refine WrB.of k1 (.inr rfl) ?_ k3
        simpa [hll] using k2
      have hρ : v.ownBlock = none ∧ (g.ρ i).b = g.β i ∨ v.ownBlock = some (g.ρ i).b := h5
      obtain ⟨kk, ss⟩ := opq_turn sm hMi (φ' := wrO T E (φ.bs ++ ls)) (w' := w') (rb := v'.ownBlock.getD (g.β i)) k4.size ⟨k4.os, k4.output⟩ (fun k q1 q2 q3 => k4.block k q1 q2 (by
          rcases hρ with ⟨h, _⟩ | h <;> rw [h]
          · simp
          · simpa using q3))
        (by
          rcases k5 with h | h
          · rcases hρ with ⟨h', _⟩ | h'
            · right; left; rw [h, h']; rfl
            · left; rw [h, h']; rfl
          · right; right; rw [h]; exact ⟨Nat.le_refl _, k6 _ h⟩) hW
      refine ⟨_, rfl, g.β, _, ss, ?_, kk⟩
      exact .ptr (g := ⟨g.M.set i (.opq (wrO T E (φ.bs ++ ls))), g.β, _, w', g.X⟩) i 0 (by simpa using hi)
    · cases h
  · cases h

end Go.Ab

namespace Go.Proofs
open Go.RowKit Go.Ab

set_option maxHeartbeats 1000000 in
set_option maxRecDepth 100000 in
theorem Tryz.u8W (b : Nat) (w : World) (p v : Value) (n : Nat) (xs : List Value) (hb : w.heap[b]? = some (.cells #[p, v] 126 (0, 0))) (hp : p = .pointer none ∨ p = .pointer (some ⟨b, 0, none⟩))
    (hown : w.ownsRow 0 5 1 v n xs) (hne : v.ownBlock ≠ some b) (ad : Addr) (m c : Nat) (news : List Value) (hl : news.length = m) (hm : 0 < m) (hnews : ∀ j u, news[j]? = some u → w.cell? (ad.add j) = some u)
    (h1 : ∀ u ∈ news, u.oneCell' = true) (hap : ∀ j, (ad.add j).block ≠ b) (hbytes : n + m ≤ 140737488355328) :
    Calls Tryz.prog 68 #[.pointer (some ⟨b, 0, none⟩), .slice (some ad) m c] w fun e w' => e = .returned (.pointer (some ⟨b, 0, none⟩)) ∧
      ∃ v', w'.heap[b]? = some (.cells #[.pointer (some ⟨b, 0, none⟩), v'] 126 (0, 0)) ∧ w'.ownsRow 0 5 1 v' (n + m) (xs ++ news) ∧ v'.ownBlock ≠ some b ∧ WrKeep b v.ownBlock w w' ∧
        (v'.ownBlock = v.ownBlock ∨ v'.ownBlock = some w.heap.size) ∧ ∀ g, v'.ownBlock = some g → g < w'.heap.size := by
  have H1 := hidW (Tryz.writeW b w p v n xs hb hp hown hne ad m c news hl hm hnews h1 hap hbytes)
  clear hb hp hown hne hnews h1 hap hl hm hbytes
  go_enter Tryz.func68, Tryz.ntmps68
  go_wp2_with (go_at_call 100; refine H1.out.mono ?_)
  rintro e w1 ⟨rfl, h⟩
  have H2 := hidW h
  clear h
  go_wp2
  go_ret
  exact ⟨rfl, H2.out⟩

set_option maxHeartbeats 1000000 in
set_option maxRecDepth 100000 in
theorem Tryz.textW (b g cap : Nat) (w : World) (p : Value) (l : List UInt8) (cur : Array Value) (hb : w.heap[b]? = some (.cells #[p, .slice (some ⟨g, 0, none⟩) l.length cap] 126 (0, 0)))
    (hg : w.heap[g]? = some (.cells cur 5 (0, 0))) (hnc : l.length ≤ cap) (hcm : cap ≤ maxLen) (hcs : cur.size = cap) (ht : cur.toList.take l.length = Lib.byteCells l) (h0 : l ≠ []) :
    Calls Tryz.prog 73 #[.pointer (some ⟨b, 0, none⟩)] w fun e w' => e = .returned (.string ⟨l.toArray⟩) ∧ WrKeep b (some g) w w' ∧ w'.heap.size = w.heap.size := by
  have H1 := hidW (Tryz.stringW b g cap w p l cur hb hg hnc hcm hcs ht h0)
  clear hb hg hnc hcm hcs ht h0
  go_enter Tryz.func73, Tryz.ntmps73
  go_wp2_with (go_at_call 30; refine H1.out.mono ?_)
  rintro e w1 ⟨rfl, h⟩
  have H2 := hidW h
  clear h
  go_wp2
  go_ret
  exact ⟨rfl, H2.out⟩

theorem gOctetWriter.U8.ok : SpecOk Tryz.prog 68 (wrPutS 126 5) :=
  putW_ok (fun _ _ => by kernel_rfl) Tryz.u8W
theorem gOctetWriter.Text.ok : SpecOk Tryz.prog 73 (wrTextS 126 5) :=
  textW_ok (fun _ _ => by kernel_rfl) Tryz.textW
theorem Tryz.wrZero (w : World) : (zeroValue 126).run Tryz.prog w = .ok (.agg #[.pointer none, .slice none 0 0]) w := by kernel_rfl
theorem gOctetWriter.alloc {n B : Nat} {Q : Exit → Go.Ab.St → Prop} {σ : Go.Ab.St} {id d1 : Nat} {ops : Array Oper} {o1 : Oper} (ho : ops.toList = [o1]) (ho1 : o1.op = .alloc 126) (hg : o1.guard = none)
    (hd1 : o1.dst = some d1) (hd : dstsOk ops n ops.toList [] = true) (hn : noTags σ.A = true) {dead : List Nat}
    (h : Q .normal ⟨⟨d1, none, .ptr σ.M.length 0⟩ :: without dead (without [d1] σ.A), σ.M ++ [.opq (wrO 126 5 [])]⟩) : AWp Tryz.prog n B (.region id ops false) Q σ :=
  AWp.regAlloc (wrO 126 5 []) ho ho1 hg hd1 hd hn Tryz.wrZero rfl (fun b o => wr_fresh _ _ b o) h
end Go.Proofs
end
