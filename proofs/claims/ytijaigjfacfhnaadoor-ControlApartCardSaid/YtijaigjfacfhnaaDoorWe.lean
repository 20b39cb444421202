/- The Writer's methods as contracts on abstract values. No condition. -/
import Derived.Test.YtijaigjfacfhnaaDoorM11
import Derived.Test.YtijaigjfacfhnaaDoorM06
namespace Go.Ab
open Go.Proofs

@[simp] theorem u8_rows (l : List Int) : (∀ e ∈ l.map (eNum .u8), ∃ n, e = [.lit (.int .u8 n)]) ↔ True :=
  ⟨fun _ => trivial, fun _ e he => by obtain ⟨n, _, rfl⟩ := List.mem_map.1 he; exact ⟨n, rfl⟩⟩

/-- Bytes are put behind. -/
@[simp] def wrPutS (T E : TypeId) : Sp
  | [.ptr i 0, .sl els _], M => match M[i]? with
    | some (.opq φ) => some { av := .ptr i 0, M := some (M.set i (.opq (wrO T E (appL φ.bs (els.map numOf))))), obl := φ = wrO T E φ.bs ∧ (∀ e ∈ els, ∃ n, e = [.lit (.int .u8 n)]) ∧ els ≠ [] ∧ AppB (lenL φ.bs) (lenL els) 1 }
    | _ => none
  | _, _ => none

theorem addr_plus (b off j : Nat) : (⟨b, off, none⟩ : Addr).add j = ⟨b, off + j, none⟩ := by
  unfold Addr.add
  split <;> simp_all

theorem sl_inv {g : G} {els : List (List AV)} {tok : Tok} {v : Value} (h : R g (.sl els tok) v) (hne : els ≠ []) (hu : ∀ e ∈ els, ∃ n, e = [.lit (.int .u8 n)]) :
    ∃ b off cap, v = .slice (some ⟨b, off, none⟩) els.length cap ∧ ∀ j, j < els.length → g.w.cell? ⟨b, off + j, none⟩ = some (.int .u8 ((els.map numOf).getD j 0)) ∧ ¬ g.reg ⟨b, off + j, none⟩ := by
  cases h with
  | nil => exact absurd rfl hne
  | sl _ _ b off s cap xs hs h1 h2 h3 h4 ht hc =>
    refine ⟨b, off, cap, rfl, fun j hj => ?_⟩
    obtain ⟨n, hn⟩ := hu _ (List.getElem_mem hj)
    have hs1 : s = 1 := by rw [← hs j hj, hn]; rfl
    subst hs1
    have q1 := h1 j 0 hj (by omega)
    have q2 := h2 j 0 hj (by omega)
    have q3 := h3 j 0 hj (by rw [hn]; simp)
    simp only [Nat.mul_one, Nat.add_zero] at q1 q2
    refine ⟨?_, q2⟩
    rw [q1]
    have : R g (.lit (.int .u8 n)) (xs j 0) := by
      have e : els[j][0]'(by rw [hn]; simp) = .lit (.int .u8 n) := by simp [hn]
      rw [e] at q3; exact q3
    rw [this.lit_inv]
    have hg : (els.map numOf).getD j 0 = n := by simp [List.getD, hj, hn]
    rw [hg]

theorem putW_ok {P : Program} {f : FuncId} {T E : TypeId} (hent : ∀ args w, (callFunc f args).run P w = .ok (.enter f args) w)
    (hU : ∀ (b : Nat) (w : World) (p v : Value) (n : Nat) (xs : List Value), w.heap[b]? = some (.cells #[p, v] T (0, 0)) → (p = .pointer none ∨ p = .pointer (some ⟨b, 0, none⟩)) → w.ownsRow 0 E 1 v n xs → v.ownBlock ≠ some b →
      ∀ (ad : Addr) (m c : Nat) (news : List Value), news.length = m → 0 < m → (∀ j u, news[j]? = some u → w.cell? (ad.add j) = some u) → (∀ u ∈ news, u.oneCell' = true) → (∀ j, (ad.add j).block ≠ b) → n + m ≤ 140737488355328 →
      Calls P f #[.pointer (some ⟨b, 0, none⟩), .slice (some ad) m c] w fun e w' => e = .returned (.pointer (some ⟨b, 0, none⟩)) ∧
      ∃ v', w'.heap[b]? = some (.cells #[.pointer (some ⟨b, 0, none⟩), v'] T (0, 0)) ∧ w'.ownsRow 0 E 1 v' (n + m) (xs ++ news) ∧ v'.ownBlock ≠ some b ∧ WrKeep b v.ownBlock w w' ∧
        (v'.ownBlock = v.ownBlock ∨ v'.ownBlock = some w.heap.size) ∧ ∀ g, v'.ownBlock = some g → g < w'.heap.size) : SpecOk P f (wrPutS T E) := by
  intro l M out h
  unfold wrPutS at h
  split at h
  · rename_i i els tok
    split at h
    · rename_i φ hMi
      cases h
      intro g vs hM sm hr ho
      subst hM
      obtain ⟨hφ, hu, hne, happ⟩ := ho
      cases hr with | cons hv hr => cases hr with | cons hs hr => cases hr with | nil =>
      cases hv with
      | ptr _ _ hi =>
      obtain ⟨ab, off, cap, rfl, hcell⟩ := sl_inv hs hne hu
      refine ⟨hent _ _, ?_⟩
      have hq := sm.opq i φ hMi
      rw [hφ] at hq
      obtain ⟨p, v, h1, h2, h3, h4, h5⟩ := WrB.at hq
      generalize hls : els.map numOf = ls at *
      have hll : ls.length = els.length := by rw [← hls]; simp
      have hpos : 0 < ls.length := by
        rw [hll]
        exact List.length_pos_iff.2 hne
      have hadd : ∀ j, (⟨ab, off, none⟩ : Addr).add j = ⟨ab, off + j, none⟩ := fun j => addr_plus ab off j
      have happ' : φ.bs.length + els.length ≤ 140737488355328 := by
        have := happ.1
        simp only [lenL, Int.mul_one, Int.natCast_one] at this
        omega
      have hab : ab ≠ g.β i := by
        intro e
        have := (hcell 0 (by omega)).2
        exact this (reg_of hMi (.inl e))
      refine (hU (g.β i) g.w p v φ.bs.length (φ.bs.map (Value.int .u8)) h1 h2 h3 h4 ⟨ab, off, none⟩ els.length cap (ls.map (Value.int .u8)) (by rw [List.length_map]; exact hll) (by rw [← hll]; exact hpos) (fun j u hj => ?_) (fun u hu => ?_) (fun j => by rw [hadd]; exact hab) happ').mono ?_
      · simp only [List.getElem?_map, Option.map_eq_some_iff] at hj
        obtain ⟨x, hx, rfl⟩ := hj
        have hjl : j < ls.length := by
          rcases Nat.lt_or_ge j ls.length with h | h
          · exact h
          · rw [List.getElem?_eq_none h] at hx; cases hx
        rw [hadd, (hcell j (by omega)).1]
        simp [List.getD, hx]
      · obtain ⟨x, _, rfl⟩ := List.mem_map.1 hu
        rfl
      rintro e w' ⟨rfl, v', k1, k2, k3, k4, k5, k6⟩
      have hW : WrB T E (φ.bs ++ ls) (g.β i) (v'.ownBlock.getD (g.β i)) (w'.heap[g.β i]?) (w'.heap[v'.ownBlock.getD (g.β i)]?) := by
        refine WrB.of k1 (.inr rfl) ?_ k3
        simpa [hll] using k2
      have hρ : v.ownBlock = none ∧ (g.ρ i).b = g.β i ∨ v.ownBlock = some (g.ρ i).b := h5
      obtain ⟨kk, ss⟩ := opq_turn sm hMi (φ' := wrO T E (φ.bs ++ ls)) (w' := w') (rb := v'.ownBlock.getD (g.β i)) k4.size ⟨k4.os, k4.output⟩ (fun k q1 q2 q3 => k4.block k q1 q2 (by
          rcases hρ with ⟨h, _⟩ | h <;> rw [h]
          · simp
          · simpa using q3))
        (by
          rcases k5 with h | h
          · rcases hρ with ⟨h', _⟩ | h'
            · right; left; rw [h, h']; rfl
            · left; rw [h, h']; rfl
          · right; right; rw [h]; exact ⟨Nat.le_refl _, k6 _ h⟩) hW
      refine ⟨_, rfl, g.β, _, ss, ?_, kk⟩
      exact .ptr (g := ⟨g.M.set i (.opq (wrO T E (φ.bs ++ ls))), g.β, _, w', g.X⟩) i 0 (by simpa using hi)
    · cases h
  · cases h

end Go.Ab

namespace Go.Proofs
open Go.RowKit Go.Ab

set_option maxHeartbeats 1000000 in
set_option maxRecDepth 100000 in
theorem Tryd.u8W (b : Nat) (w : World) (p v : Value) (n : Nat) (xs : List Value) (hb : w.heap[b]? = some (.cells #[p, v] 65 (0, 0))) (hp : p = .pointer none ∨ p = .pointer (some ⟨b, 0, none⟩))
    (hown : w.ownsRow 0 5 1 v n xs) (hne : v.ownBlock ≠ some b) (ad : Addr) (m c : Nat) (news : List Value) (hl : news.length = m) (hm : 0 < m) (hnews : ∀ j u, news[j]? = some u → w.cell? (ad.add j) = some u)
    (h1 : ∀ u ∈ news, u.oneCell' = true) (hap : ∀ j, (ad.add j).block ≠ b) (hbytes : n + m ≤ 140737488355328) :
    Calls Tryd.prog 29 #[.pointer (some ⟨b, 0, none⟩), .slice (some ad) m c] w fun e w' => e = .returned (.pointer (some ⟨b, 0, none⟩)) ∧
      ∃ v', w'.heap[b]? = some (.cells #[.pointer (some ⟨b, 0, none⟩), v'] 65 (0, 0)) ∧ w'.ownsRow 0 5 1 v' (n + m) (xs ++ news) ∧ v'.ownBlock ≠ some b ∧ WrKeep b v.ownBlock w w' ∧
        (v'.ownBlock = v.ownBlock ∨ v'.ownBlock = some w.heap.size) ∧ ∀ g, v'.ownBlock = some g → g < w'.heap.size := by
  have H1 := hidW (Tryd.writeW b w p v n xs hb hp hown hne ad m c news hl hm hnews h1 hap hbytes)
  clear hb hp hown hne hnews h1 hap hl hm hbytes
  go_enter Tryd.func29, Tryd.ntmps29
  go_wp2_with (go_at_call 56; refine H1.out.mono ?_)
  rintro e w1 ⟨rfl, h⟩
  have H2 := hidW h
  clear h
  go_wp2
  go_ret
  exact ⟨rfl, H2.out⟩

set_option maxHeartbeats 1000000 in
set_option maxRecDepth 100000 in
theorem Tryd.textW (b g cap : Nat) (w : World) (p : Value) (l : List UInt8) (cur : Array Value) (hb : w.heap[b]? = some (.cells #[p, .slice (some ⟨g, 0, none⟩) l.length cap] 65 (0, 0)))
    (hg : w.heap[g]? = some (.cells cur 5 (0, 0))) (hnc : l.length ≤ cap) (hcm : cap ≤ maxLen) (hcs : cur.size = cap) (ht : cur.toList.take l.length = Lib.byteCells l) (h0 : l ≠ []) :
    Calls Tryd.prog 34 #[.pointer (some ⟨b, 0, none⟩)] w fun e w' => e = .returned (.string ⟨l.toArray⟩) ∧ WrKeep b (some g) w w' ∧ w'.heap.size = w.heap.size := by
  have H1 := hidW (Tryd.stringW b g cap w p l cur hb hg hnc hcm hcs ht h0)
  clear hb hg hnc hcm hcs ht h0
  go_enter Tryd.func34, Tryd.ntmps34
  go_wp2_with (go_at_call 59; refine H1.out.mono ?_)
  rintro e w1 ⟨rfl, h⟩
  have H2 := hidW h
  clear h
  go_wp2
  go_ret
  exact ⟨rfl, H2.out⟩

theorem gOctetWriter.U8.ok : SpecOk Tryd.prog 29 (wrPutS 65 5) :=
  putW_ok (fun _ _ => by kernel_rfl) Tryd.u8W
theorem gOctetWriter.Text.ok : SpecOk Tryd.prog 34 (wrTextS 65 5) :=
  textW_ok (fun _ _ => by kernel_rfl) Tryd.textW
theorem Tryd.wrZero (w : World) : (zeroValue 65).run Tryd.prog w = .ok (.agg #[.pointer none, .slice none 0 0]) w := by kernel_rfl
theorem gOctetWriter.alloc {n B : Nat} {Q : Exit → Go.Ab.St → Prop} {σ : Go.Ab.St} {id d1 : Nat} {ops : Array Oper} {o1 : Oper} (ho : ops.toList = [o1]) (ho1 : o1.op = .alloc 65) (hg : o1.guard = none)
    (hd1 : o1.dst = some d1) (hd : dstsOk ops n ops.toList [] = true) (hn : noTags σ.A = true) {dead : List Nat}
    (h : Q .normal ⟨⟨d1, none, .ptr σ.M.length 0⟩ :: without dead (without [d1] σ.A), σ.M ++ [.opq (wrO 65 5 [])]⟩) : AWp Tryd.prog n B (.region id ops false) Q σ :=
  AWp.regAlloc (wrO 65 5 []) ho ho1 hg hd1 hd hn Tryd.wrZero rfl (fun b o => wr_fresh _ _ b o) h
end Go.Proofs
