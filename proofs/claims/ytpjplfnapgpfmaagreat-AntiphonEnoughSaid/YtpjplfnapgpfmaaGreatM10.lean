/- The Writer's methods as contracts on abstract values. No condition. -/
import Derived.Test.YtpjplfnapgpfmaaGreatM05
import Derived.Test.YtpjplfnapgpfmaaGreatM03
import Derived.Test.YtpjplfnapgpfmaaGreatYa
section
namespace Go.Ab
open Go.Proofs
@[simp] def wrPutS (T E : TypeId) : Sp
  | [.ptr i 0, .sl els _], M => match M[i]? with
    | some (.opq φ) => some { av := .ptr i 0, M := some (M.set i (.opq (wrO T E (appL φ.bs (els.map numOf))))), obl := φ = wrO T E φ.bs ∧ (∀ e ∈ els, ∃ n, e = [.lit (.int .u8 n)]) ∧ els ≠ [] ∧ AppB (lenL φ.bs) (lenL els) 1 }
    | _ => none
  | _, _ => none

theorem addr_plus (b off j : Nat) : (⟨b, off, none⟩ : Addr).add j = ⟨b, off + j, none⟩ := by
 unfold Addr.add
 split <;> simp_all

theorem sl_inv {g : G} {els : List (List AV)} {tok : Tok} {v : Value} (h : R g (.sl els tok) v) (hne : els ≠ []) (hu : ∀ e ∈ els, ∃ n, e = [.lit (.int .u8 n)]) :
  ∃ b off cap, v = .slice (some ⟨b, off, none⟩) els.length cap ∧ ∀ j, j < els.length → g.w.cell? ⟨b, off + j, none⟩ = some (.int .u8 ((els.map numOf).getD j 0)) ∧ ¬ g.reg ⟨b, off + j, none⟩ := by
 cases h with
 | nil => exact absurd rfl hne
 | sl _ _ b off s cap xs hs h1 h2 h3 h4 ht hc =>
   refine ⟨b, off, cap, rfl, fun j hj => ?_⟩
   obtain ⟨n, hn⟩ := hu _ (List.getElem_mem hj)
   have hs1 : s = 1 := by rw [← hs j hj, hn]; rfl
   subst hs1
   have q1 := h1 j 0 hj (by omega)
   have q2 := h2 j 0 hj (by omega)
   have q3 := h3 j 0 hj (by rw [hn]; simp)
   simp only [Nat.mul_one, Nat.add_zero] at q1 q2
   refine ⟨?_, q2⟩
   rw [q1]
   have : R g (.lit (.int .u8 n)) (xs j 0) := by
    have e : els[j][0]'(by rw [hn]; simp) = .lit (.int .u8 n) := by simp [hn]
    rw [e] at q3; exact q3
   rw [this.lit_inv]
   have hg : (els.map numOf).getD j 0 = n := by simp [List.getD, hj, hn]
   rw [hg]

theorem putW_ok {P : Program} {f : FuncId} {T E : TypeId} (hent : ∀ args w, (callFunc f args).run P w = .ok (.enter f args) w)
  (hU : ∀ (b : Nat) (w : World) (p v : Value) (n : Nat) (xs : List Value), w.heap[b]? = some (.cells #[p, v] T (0, 0)) → (p = .pointer none ∨ p = .pointer (some ⟨b, 0, none⟩)) → w.ownsRow 0 E 1 v n xs → v.ownBlock ≠ some b →
   ∀ (ad : Addr) (m c : Nat) (news : List Value), news.length = m → 0 < m → (∀ j u, news[j]? = some u → w.cell? (ad.add j) = some u) → (∀ u ∈ news, u.oneCell' = true) → (∀ j, (ad.add j).block ≠ b) → n + m ≤ 140737488355328 →
   Calls P f #[.pointer (some ⟨b, 0, none⟩), .slice (some ad) m c] w fun e w' => e = .returned (.pointer (some ⟨b, 0, none⟩)) ∧
   ∃ v', w'.heap[b]? = some (.cells #[.pointer (some ⟨b, 0, none⟩), v'] T (0, 0)) ∧ w'.ownsRow 0 E 1 v' (n + m) (xs ++ news) ∧ v'.ownBlock ≠ some b ∧ WrKeep b v.ownBlock w w' ∧
     (v'.ownBlock = v.ownBlock ∨ v'.ownBlock = some w.heap.size) ∧ ∀ g, v'.ownBlock = some g → g < w'.heap.size) : SpecOk P f (wrPutS T E) := by
 intro l M out h
 unfold wrPutS at h
 split at h
 ·rename_i i els tok
  split at h
  ·rename_i φ hMi
   cases h
   intro g vs hM sm hr ho
   subst hM
   obtain ⟨hφ, hu, hne, happ⟩ := ho
   cases hr with | cons hv hr => cases hr with | cons hs hr => cases hr with | nil =>
   cases hv with
   | ptr _ _ hi =>
   obtain ⟨ab, off, cap, rfl, hcell⟩ := sl_inv hs hne hu
   refine ⟨hent _ _, ?_⟩
   have hq := sm.opq i φ hMi
   rw [hφ] at hq
   obtain ⟨p, v, h1, h2, h3, h4, h5⟩ := WrB.at hq
   generalize hls : els.map numOf = ls at *
   have hll : ls.length = els.length := by rw [← hls]; simp
   have hpos : 0 < ls.length := by
    rw [hll]
    exact List.length_pos_iff.2 hne
   have hadd : ∀ j, (⟨ab, off, none⟩ : Addr).add j = ⟨ab, off + j, none⟩ := fun j => addr_plus ab off j
   have happ' : φ.bs.length + els.length ≤ 140737488355328 := by
    have := happ.1
    simp only [lenL, Int.mul_one, Int.natCast_one] at this
    omega
   have hab : ab ≠ g.β i := by
    intro e
    have := (hcell 0 (by omega)).2
    exact this (Li hMi (.inl e))
   refine (hU (g.β i) g.w p v φ.bs.length (φ.bs.map (Value.int .u8)) h1 h2 h3 h4 ⟨ab, off, none⟩ els.length cap (ls.map (Value.int .u8)) (by rw [List.length_map]; exact hll) (by rw [← hll]; exact hpos) (fun j u hj => ?_) (fun u hu => ?_) (fun j => by rw [hadd]; exact hab) happ').mono ?_
   ·simp only [List.getElem?_map, Option.map_eq_some_iff] at hj
    obtain ⟨x, hx, rfl⟩ := hj
    have hjl : j < ls.length := by
     rcases Nat.lt_or_ge j ls.length with h | h
     ·exact h
     ·rw [List.getElem?_eq_none h] at hx; cases hx
    rw [hadd, (hcell j (by omega)).1]
    simp [List.getD, hx]
   ·obtain ⟨x, _, rfl⟩ := List.mem_map.1 hu
    rfl
   rintro e w' ⟨rfl, v', k1, k2, k3, k4, k5, k6⟩
   have hW : WrB T E (φ.bs ++ ls) (g.β i) (v'.ownBlock.getD (g.β i)) (w'.heap[g.β i]?) (w'.heap[v'.ownBlock.getD (g.β i)]?) := by
    refine WrB.of k1 (.inr rfl) ?_ k3
    simpa [hll] using k2
   have hρ : v.ownBlock = none ∧ (g.ρ i).b = g.β i ∨ v.ownBlock = some (g.ρ i).b := h5
   obtain ⟨kk, ss⟩ := opq_turn sm hMi (φ' := wrO T E (φ.bs ++ ls)) (w' := w') (rb := v'.ownBlock.getD (g.β i)) k4.size ⟨k4.os, k4.output⟩ (fun k q1 q2 q3 => k4.block k q1 q2 (by
     rcases hρ with ⟨h, _⟩ | h <;> rw [h]
     ·simp
     ·simpa using q3))
    (by
     rcases k5 with h | h
     ·rcases hρ with ⟨h', _⟩ | h'
      ·right; left; rw [h, h']; rfl
      ·left; rw [h, h']; rfl
     ·right; right; rw [h]; exact ⟨Nat.le_refl _, k6 _ h⟩) hW
   refine ⟨_, rfl, g.β, _, ss, ?_, kk⟩
   exact .ptr (g := ⟨g.M.set i (.opq (wrO T E (φ.bs ++ ls))), g.β, _, w', g.X⟩) i 0 (by simpa using hi)
  ·cases h
 ·cases h

end Go.Ab

namespace Go.Proofs
open Go.RowKit Go.Ab

set_option maxHeartbeats 1000000 in
set_option maxRecDepth 100000 in
theorem Tryz.u8W (b : Nat) (w : World) (p v : Value) (n : Nat) (xs : List Value) (hb : w.heap[b]? = some (.cells #[p, v] 119 (0, 0))) (hp : p = .pointer none ∨ p = .pointer (some ⟨b, 0, none⟩))
  (hown : w.ownsRow 0 5 1 v n xs) (hne : v.ownBlock ≠ some b) (ad : Addr) (m c : Nat) (news : List Value) (hl : news.length = m) (hm : 0 < m) (hnews : ∀ j u, news[j]? = some u → w.cell? (ad.add j) = some u)
  (h1 : ∀ u ∈ news, u.oneCell' = true) (hap : ∀ j, (ad.add j).block ≠ b) (hbytes : n + m ≤ 140737488355328) :
  Calls Tryz.prog 41 #[.pointer (some ⟨b, 0, none⟩), .slice (some ad) m c] w fun e w' => e = .returned (.pointer (some ⟨b, 0, none⟩)) ∧
   ∃ v', w'.heap[b]? = some (.cells #[.pointer (some ⟨b, 0, none⟩), v'] 119 (0, 0)) ∧ w'.ownsRow 0 5 1 v' (n + m) (xs ++ news) ∧ v'.ownBlock ≠ some b ∧ WrKeep b v.ownBlock w w' ∧
     (v'.ownBlock = v.ownBlock ∨ v'.ownBlock = some w.heap.size) ∧ ∀ g, v'.ownBlock = some g → g < w'.heap.size := by
 have H1 := hidW (Tryz.writeW b w p v n xs hb hp hown hne ad m c news hl hm hnews h1 hap hbytes)
 clear hb hp hown hne hnews h1 hap hl hm hbytes
 go_enter Tryz.func41, Tryz.ntmps41
 go_wp2_with (go_at_call 78; refine H1.out.mono ?_)
 rintro e w1 ⟨rfl, h⟩
 have H2 := hidW h
 clear h
 go_wp2
 go_ret
 exact ⟨rfl, H2.out⟩

set_option maxHeartbeats 1000000 in
set_option maxRecDepth 100000 in
theorem Tryz.textW (b g cap : Nat) (w : World) (p : Value) (l : List UInt8) (cur : Array Value) (hb : w.heap[b]? = some (.cells #[p, .slice (some ⟨g, 0, none⟩) l.length cap] 119 (0, 0)))
  (hg : w.heap[g]? = some (.cells cur 5 (0, 0))) (hnc : l.length ≤ cap) (hcm : cap ≤ maxLen) (hcs : cur.size = cap) (ht : cur.toList.take l.length = Lib.byteCells l) (h0 : l ≠ []) :
  Calls Tryz.prog 46 #[.pointer (some ⟨b, 0, none⟩)] w fun e w' => e = .returned (.string ⟨l.toArray⟩) ∧ WrKeep b (some g) w w' ∧ w'.heap.size = w.heap.size := by
 have H1 := hidW (Tryz.stringW b g cap w p l cur hb hg hnc hcm hcs ht h0)
 clear hb hg hnc hcm hcs ht h0
 go_enter Tryz.func46, Tryz.ntmps46
 go_wp2_with (go_at_call 81; refine H1.out.mono ?_)
 rintro e w1 ⟨rfl, h⟩
 have H2 := hidW h
 clear h
 go_wp2
 go_ret
 exact ⟨rfl, H2.out⟩

theorem gaT.U8.ok : SpecOk Tryz.prog 41 (wrPutS 119 5) :=
 putW_ok (fun _ _ => by kernel_rfl) Tryz.u8W
theorem gaT.Text.ok : SpecOk Tryz.prog 46 (wrTextS 119 5) :=
 textW_ok (fun _ _ => by kernel_rfl) Tryz.textW
theorem Tryz.wrZero (w : World) : (zeroValue 119).run Tryz.prog w = .ok (.agg #[.pointer none, .slice none 0 0]) w := by kernel_rfl
theorem gaT.alloc {n B : Nat} {Q : Exit → Go.Ab.St → Prop} {σ : Go.Ab.St} {id d1 : Nat} {ops : Array Oper} {o1 : Oper} (ho : ops.toList = [o1]) (ho1 : o1.op = .alloc 119) (hg : o1.guard = none)
  (hd1 : o1.dst = some d1) (hd : dstsOk ops n ops.toList [] = true) (hn : noTags σ.A = true) {dead : List Nat}
  (h : Q .normal ⟨⟨d1, none, .ptr σ.M.length 0⟩ :: without dead (without [d1] σ.A), σ.M ++ [.opq (wrO 119 5 [])]⟩) : AWp Tryz.prog n B (.region id ops false) Q σ :=
 AWp.regAlloc (wrO 119 5 []) ho ho1 hg hd1 hd hn Tryz.wrZero rfl (fun b o => wr_fresh _ _ b o) h
end Go.Proofs
end
section
namespace Go.Proofs
open Go.Ab

theorem some_u {α : Type} {b v : Bool} (x : α) : Under b v ((some x).isSome = true) := fun _ => rfl
theorem len0 {α : Type} {l : List α} (h : l ≠ []) : ltI 0 (lenL l) = true := by
 have := List.length_pos_iff.2 h
 exact ltI_t (by unfold lenL; omega)
theorem lens_gone (q : RQ) : (goneL q.fL).length + (leftL q.fL).length = q.fL.length := by
 have := congrArg List.length (gone_left q.fL); simpa using this
structure Cut (q q' : RQ) (l : List It) : Prop where
 ok : QOk q'
 frames : q'.fe = q.fe
 most : q'.fb = q.fb
 all : l ++ q'.fL = q.fL

theorem Cut.go {q q' : RQ} {l : List It} (h : Cut (rdrop q) q' l) : Cut q q' (goneL q.fL ++ l) :=
 ⟨h.ok, h.frames, h.most, by rw [List.append_assoc, h.all]; exact gone_left _⟩
theorem Cut.nil {q : RQ} (h : QOk q) : Cut q q [] := ⟨h, rfl, rfl, rfl⟩

theorem put_loop (x : It) (hx0 : 0 ≤ x.fj) : ∀ (n : Nat) (q : RQ) (acc : List It), QOk q → x.fj ≤ q.fb → q.fL.length ≤ n → acc.length + q.fL.length ≤ 2000 →
  ∃ q' l, loopF (gv.loop1 x) (acc, qOf q) = some (.go (acc ++ l, qOf q')) ∧ loopF (gat.loop1 x) (acc, q) = some (.go (acc ++ l, q')) ∧ Cut q q' l ∧
    (q'.fL.length : Int) < q.fe ∧ sumS q'.fL + x.fj ≤ q.fb := by
 intro n
 induction n with
 | zero =>
   intro q acc h hm hn _
   have he : q.fL = [] := List.length_eq_zero_iff.mp (by omega)
   have hf := h.frames
   refine ⟨q, [], ?_, ?_, Cut.nil h, by rw [he]; simp; omega, by rw [he]; simp; omega⟩
   ·refine Lq ?_
    unfold gv.loop1 qOf
    simp only [he, sumS_nil]
    rw [leI_f (by simp [lenL]; omega), addI_n (by omega) (by have := h.most; omega), ltI_f (by omega)]
    simp [pickB]
   ·refine Lq ?_
    unfold gat.loop1
    simp only [he]
    have e := size_ok (l := []) (by simp) (by simp) (by simp)
    rw [leI_f (by simp [lenL]; omega), e, Lf (some_u _), subI_n (by omega) (by have := h.most; omega)]
    simp only [Option.getD_some, sumS_nil]
    rw [ltI_f (by omega)]
    simp [pickB]
 | succ n ih =>
   intro q acc h hm hn ha
   have hf := h.frames
   have hmo := h.most
   have hsm := h.small
   have hsu := h.sum
   have h0 := sumS_nn h.size
   have e := size_ok (l := q.fL) (by omega) h.size (by omega)
   by_cases hc : q.fe ≤ (q.fL.length : Int) ∨ q.fb < sumS q.fL + x.fj
   ·have hne : q.fL ≠ [] := by
     intro he
     rw [he] at hc
     simp at hc
     omega
    have hb1 : pickB (leqI q.fe (lenL q.fL)) true (ltI q.fb (addI .i64 (sumS q.fL) x.fj)) = true := by
     rw [addI_n (by omega) (by omega), pickB_or]
     rcases hc with hc | hc
     ·rw [leI_t (by unfold lenL; omega)]; rfl
     ·rw [ltI_t hc]; simp
    have hb2 : pickB (leqI q.fe (lenL q.fL)) true (ltI (subI .i64 q.fb x.fj) (sumS q.fL)) = true := by
     rw [subI_n (by omega) (by omega), pickB_or]
     rcases hc with hc | hc
     ·rw [leI_t (by unfold lenL; omega)]; rfl
     ·rw [ltI_t (by omega)]; simp
    have hlg := lens_gone q
    have hlt := left_lt hne
    obtain ⟨q', l, h1, h2, h3, h4, h5⟩ := ih (rdrop q) (acc ++ goneL q.fL) h.drop hm (by simp only [rdrop]; omega) (by simp only [rdrop, List.length_append]; omega)
    refine ⟨q', goneL q.fL ++ l, ?_, ?_, h3.go, h4, h5⟩
    ·rw [← List.append_assoc, ← h1]
     refine loop_go ?_
     unfold gv.loop1
     simp only [drop_ok hne h]
     simp only [qOf, hb1, cond_true, Ld]
     rw [Lf (appB_l _ _ (by omega) (by omega) (by omega))]
     rfl
    ·rw [← List.append_assoc, ← h2]
     refine loop_go ?_
     unfold gat.loop1
     simp only [e, Option.getD_some, hb2, cond_true, rdrop_ok hne (by omega), Ld]
     rw [Lf (some_u _), Lf (appB_l _ _ (by omega) (by omega) (by omega))]
     rfl
   ·have hb1 : pickB (leqI q.fe (lenL q.fL)) true (ltI q.fb (addI .i64 (sumS q.fL) x.fj)) = false := by
     rw [addI_n (by omega) (by omega), pickB_or, leI_f (by unfold lenL; omega), ltI_f (by omega)]; rfl
    have hb2 : pickB (leqI q.fe (lenL q.fL)) true (ltI (subI .i64 q.fb x.fj) (sumS q.fL)) = false := by
     rw [subI_n (by omega) (by omega), pickB_or, leI_f (by unfold lenL; omega), ltI_f (by omega)]; rfl
    refine ⟨q, [], ?_, ?_, Cut.nil h, by omega, by omega⟩
    ·refine Lq ?_
     unfold gv.loop1
     simp only [qOf, hb1, cond_false, List.append_nil]
    ·refine Lq ?_
     unfold gat.loop1
     simp only [e, Option.getD_some, hb2, cond_false, List.append_nil]
     rw [Lf (some_u _)]
theorem put_ok {q : RQ} (h : QOk q) (x : It) : ∃ q' l b, gv (qOf q) x = some (l, b, qOf q') ∧ gat q x = some (q', l, b) ∧ QOk q' ∧
  q'.fe = q.fe ∧ q'.fb = q.fb ∧ l ++ q'.fL = (bif b then q.fL ++ [x] else q.fL) ∧ (b = true → 0 ≤ x.fj ∧ x.fj ≤ q.fb) := by
 have hsm := h.small
 by_cases hc : pickB (pickB (ltI x.fj 0) true (ltI q.fb x.fj)) true (pickB q.fv (notB x.fy) false) = true
 ·refine ⟨⟨q.fe, q.fb, q.fL, true⟩, [], false, ?_, ?_, ⟨h.frames, h.most, h.len, h.size, h.sum⟩, rfl, rfl, rfl, fun h => by cases h⟩
  ·unfold gv
   simp only [qOf, hc, cond_true]
  ·unfold gat
   simp only [hc, cond_true]
 ·have hc' := Bool.eq_false_iff.mpr hc
  have hx0 : 0 ≤ x.fj := by
   by_cases hx : x.fj < 0
   ·rw [pickB_or, pickB_or, ltI_t hx] at hc'; simp at hc'
   ·omega
  have hxm : x.fj ≤ q.fb := by
   by_cases hx : q.fb < x.fj
   ·rw [pickB_or, pickB_or, ltI_t hx] at hc'; simp at hc'
   ·omega
  obtain ⟨q', l, h1, h2, h3, h4, h5⟩ := put_loop x hx0 q.fL.length q [] h hxm (Nat.le_refl _) (by simp; omega)
  simp only [List.nil_append] at h1 h2
  have hmo := h.most
  have h0 := sumS_nn h3.ok.size
  have hsm' := h3.ok.small
  by_cases hb : pickB q'.fv (notB x.fy) false = true
  ·refine ⟨q', l, false, ?_, ?_, h3.ok, h3.frames, h3.most, h3.all, fun h => by cases h⟩
   ·unfold gv
    simp only [h1, Ld, flC_go]
    simp only [qOf, hc', cond_false, hb, cond_true]
   ·unfold gat
    simp only [hc', cond_false, h2, Ld, flC_go, hb, cond_true]
  ·have hb' := Bool.eq_false_iff.mpr hb
   refine ⟨⟨q'.fe, q'.fb, q'.fL ++ [x], false⟩, l, true, ?_, ?_, ⟨h3.frames ▸ h.frames, h3.most ▸ h.most, ?_, ?_, ?_⟩, h3.frames, h3.most, ?_, fun _ => ⟨hx0, hxm⟩⟩
   ·unfold gv
    simp only [h1, Ld, flC_go]
    simp only [qOf, hc', cond_false, hb', cut_all, app_eq]
    rw [Lf ⟨by omega, lenL_nn _, Int.le_refl _⟩, Lf (appB_1 _ (by omega) (by omega)), addI_n (by omega) (by have := h3.most; omega), sumS_app]
    simp
   ·unfold gat
    simp only [hc', cond_false, h2, Ld, flC_go, hb', app_eq, List.nil_append]
    rw [Lf (appB_0 _ (by omega) (by omega)), Lf (appB_1 _ (by omega) (by omega))]
   ·simp only [List.length_append, List.length_cons, List.length_nil, h3.frames]; omega
   ·intro y hy
    rcases List.mem_append.mp hy with hy | hy
    ·exact h3.ok.size y hy
    ·rw [List.mem_singleton.mp hy]; exact hx0
   ·simp only [sumS_app, sumS_cons, sumS_nil, h3.most]; omega
   ·simp only [cond_true, ← List.append_assoc, h3.all]
theorem expire_loop (now age : Int) : ∀ (n : Nat) (q : RQ) (acc : List It), QOk q → q.fL.length ≤ n → acc.length + q.fL.length ≤ 2000 →
  ∃ q' l, loopF (gn.loop1 now age) (acc, qOf q) = some (.go (acc ++ l, qOf q')) ∧ loopF (gV.loop1 now age) (acc, q) = some (.go (acc ++ l, q')) ∧ Cut q q' l ∧
    (∀ x r, q'.fL = x :: r → ¬ age ≤ subI .i64 now x.fw) := by
 intro n
 induction n with
 | zero =>
   intro q acc h hn _
   have he : q.fL = [] := List.length_eq_zero_iff.mp (by omega)
   refine ⟨q, [], ?_, ?_, Cut.nil h, fun x r hx => by rw [he] at hx; cases hx⟩
   ·refine Lq ?_
    unfold gn.loop1 qOf
    simp only [he]
    rw [ltI_f (by simp [lenL]), Lf (show Under false true _ from fun h => by cases h)]
    simp [pickB]
   ·refine Lq ?_
    unfold gV.loop1
    simp only [he]
    rw [ltI_f (by simp [lenL]), Lf (show Under false true _ from fun h => by cases h)]
    simp [pickB]
 | succ n ih =>
   intro q acc h hn ha
   have hsm := h.small
   cases hl : q.fL with
   | nil =>
     obtain ⟨q', l, h1, h2, h3, h4⟩ := ih q acc h (by rw [hl]; simp) ha
     exact ⟨q', l, h1, h2, h3, h4⟩
   | cons x r =>
     have hne : q.fL ≠ [] := by rw [hl]; exact List.cons_ne_nil _ _
     by_cases hc : age ≤ subI .i64 now x.fw
     ·have hlg := lens_gone q
      have hlt := left_lt hne
      obtain ⟨q', l, h1, h2, h3, h4⟩ := ih (rdrop q) (acc ++ goneL q.fL) h.drop (by simp only [rdrop]; omega) (by simp only [rdrop, List.length_append]; omega)
      refine ⟨q', goneL q.fL ++ l, ?_, ?_, h3.go, h4⟩
      ·rw [← List.append_assoc, ← h1]
       refine loop_go ?_
       unfold gn.loop1
       simp only [drop_ok hne h, Ld]
       simp only [qOf]
       rw [len0 hne, hl, Lf (under_of (inb_0 x r)), nthI_0, leI_t hc, ← hl]
       simp only [pickB, cond_true]
       rw [Lf (appB_l _ _ (by omega) (by omega) (by omega))]
       rfl
      ·rw [← List.append_assoc, ← h2]
       refine loop_go ?_
       unfold gV.loop1
       simp only [rdrop_ok hne (by omega), Ld]
       rw [len0 hne, hl, Lf (under_of (inb_0 x r)), nthI_0, leI_t hc, ← hl]
       simp only [pickB, cond_true]
       rw [Lf (appB_l _ _ (by omega) (by omega) (by omega))]
       rfl
     ·refine ⟨q, [], ?_, ?_, Cut.nil h, fun y s hy => by rw [hl] at hy; cases hy; exact hc⟩
      ·refine Lq ?_
       unfold gn.loop1
       simp only [qOf]
       rw [len0 hne, hl, Lf (under_of (inb_0 x r)), nthI_0, leI_f hc]
       simp [pickB]
      ·refine Lq ?_
       unfold gV.loop1
       simp only []
       rw [len0 hne, hl, Lf (under_of (inb_0 x r)), nthI_0, leI_f hc]
       simp [pickB]

theorem expire_ok {q : RQ} (h : QOk q) (now age : Int) : ∃ q' l, gn (qOf q) now age = some (l, qOf q') ∧ gV q now age = some (q', l) ∧ Cut q q' l ∧
  (∀ x r, q'.fL = x :: r → ¬ age ≤ subI .i64 now x.fw) := by
 have hsm := h.small
 obtain ⟨q', l, h1, h2, h3, h4⟩ := expire_loop now age q.fL.length q [] h (Nat.le_refl _) (by simp; omega)
 simp only [List.nil_append] at h1 h2
 refine ⟨q', l, ?_, ?_, h3, h4⟩
 ·unfold gn
  rw [h1]; rfl
 ·unfold gV
  rw [h2]; rfl

/-! ### The small ones -/
theorem qnew_ok {f m : Int} (hf : 1 ≤ f ∧ f ≤ 1024) (hm : 1 ≤ m ∧ m ≤ 16777216) : gaQ f m = some (some (qOf ⟨f, m, [], true⟩), 0) := by
 unfold gaQ
 rw [ltI_f (by omega), ltI_f (by omega), ltI_f (by omega), ltI_f (by omega)]
 rfl
theorem qok_new {f m : Int} (hf : 1 ≤ f ∧ f ≤ 1024) (hm : 1 ≤ m ∧ m ≤ 16777216) : QOk ⟨f, m, [], true⟩ :=
 ⟨hf, hm, by simp; omega, fun x hx => (by cases hx), by simp; omega⟩
theorem len_ok (q : RQ) : gae (qOf q) = some (lenL q.fL) := rfl
theorem qsize_ok (q : RQ) : gan (qOf q) = some (sumS q.fL) := rfl
theorem break_ok (q : RQ) : gX (qOf q) = some (q.fL, qOf ⟨q.fe, q.fb, [], true⟩) := rfl
theorem first_ok {q : RQ} {x : It} {r : List It} (h : q.fL = x :: r) : gD (qOf q) = some (x, true) := by
 unfold gD qOf
 simp only [h]
 rw [eqI_f (by unfold lenL; rw [List.length_cons]; omega), cond_false, Lf (inb_0 x r), nthI_0]
def rpop (q : RQ) : RQ := ⟨q.fe, q.fb, q.fL.drop 1, q.fv⟩
theorem QOk.pop {q : RQ} (h : QOk q) : QOk (rpop q) := h.sub (q.fL.take 1) (List.take_append_drop 1 _)
theorem pop_ok {q : RQ} (hq : QOk q) {x : It} {r : List It} (h : q.fL = x :: r) : gaw (qOf q) = some (x, true, qOf (rpop q)) := by
 have hs := hq.size
 have hm := hq.most
 have hsu := hq.sum
 rw [h] at hs hsu
 rw [sumS_cons] at hsu
 have h1 := hs x (.head _)
 have h2 := sumS_nn (l := r) fun y hy => hs y (.tail _ hy)
 unfold gaw qOf rpop
 simp only [h]
 rw [eqI_f (by unfold lenL; rw [List.length_cons]; omega), cond_false, shift_ok h1 (by omega) (by rw [sumS_cons]; omega) (by rw [sumS_cons]; omega)]
 simp only [Ld, List.drop_succ_cons, List.drop_zero]
 rw [sumS_cons, show x.fj + sumS r - x.fj = sumS r by omega]
end Go.Proofs
end
