/- The text of what a relation describes. No condition. -/
import Derived.Test.YtjjjeolcapebbaaGreatDoorM13
import Derived.Test.YtjjjeolcapebbaaGreatDoorM04
import Derived.Lib.UnsafeStr
import Derived.Test.YtjjjeolcapebbaaGreatDoorM03
import Derived.Test.YtjjjeolcapebbaaGreatDoorM07
import Derived.Test.YtjjjeolcapebbaaGreatDoorSh
import Derived.Test.YtjjjeolcapebbaaGreatDoorProg
import Derived.StillTailTactics
import Derived.Sort.Grow
import Derived.Lib.Small
import Derived.Lib.Walk
import Derived.BigRegion
import Derived.Deep.Draws
import Derived.Sort.CutIn
section
namespace Go.Proofs
end Go.Proofs
namespace Go.Ab
open Go.Proofs

@[simp] theorem bel_opq (m : Nat) (φ : Opq) : (AObj.opq φ).bel m ↔ True := Iff.rfl
@[simp] theorem wrO_bs (T E : TypeId) (bs : List Int) : (wrO T E bs).bs = bs := rfl
/-- The text of all. -/
@[simp] def wrTextS (T E : TypeId) : Sp
  | [.ptr i 0], M => match M[i]? with
    | some (.opq φ) => some { av := .lit (.string (strOfNums φ.bs)), M := some (M.set i (.opq wrX)), obl := φ = wrO T E φ.bs ∧ TextB φ.bs }
    | _ => none
  | _, _ => none

theorem bytes_of {bs : List Int} (h : ∀ x ∈ bs, 0 ≤ x ∧ x < 256) : bs.map (Value.int .u8) = Lib.byteCells (bs.map fun n => n.toNat.toUInt8) := by
  simp only [Lib.byteCells, List.map_map]
  refine List.map_congr_left fun x hx => ?_
  obtain ⟨h1, h2⟩ := h x hx
  simp only [Function.comp, Nat.toUInt8, UInt8.toNat_ofNat']
  congr 1
  omega

theorem textW_ok {P : Program} {f : FuncId} {T E : TypeId} (hent : ∀ args w, (callFunc f args).run P w = .ok (.enter f args) w)
    (hS : ∀ (b g cap : Nat) (w : World) (p : Value) (l : List UInt8) (cur : Array Value), w.heap[b]? = some (.cells #[p, .slice (some ⟨g, 0, none⟩) l.length cap] T (0, 0)) → w.heap[g]? = some (.cells cur E (0, 0)) →
      l.length ≤ cap → cap ≤ maxLen → cur.size = cap → cur.toList.take l.length = Lib.byteCells l → l ≠ [] →
      Calls P f #[.pointer (some ⟨b, 0, none⟩)] w fun e w' => e = .returned (.string ⟨l.toArray⟩) ∧ WrKeep b (some g) w w' ∧ w'.heap.size = w.heap.size) : SpecOk P f (wrTextS T E) := by
  intro l M out h
  unfold wrTextS at h
  split at h
  · rename_i i
    split at h
    · rename_i φ hMi
      cases h
      intro g vs hM sm hr ho
      subst hM
      obtain ⟨hφ, hne, hbb⟩ := ho
      cases hr with | cons hv hr => cases hr with | nil =>
      cases hv with
      | ptr _ _ hi =>
      refine ⟨hent _ _, ?_⟩
      have hq := sm.opq i φ hMi
      rw [hφ] at hq
      obtain ⟨p, v, h1, h2, h3⟩ := hq
      rcases h3 with ⟨_, h, _⟩ | ⟨cap, cur, rfl, h4, h5, h6, h7, h8, h9⟩
      · exact absurd h hne
      generalize hl : φ.bs.map (fun n => n.toNat.toUInt8) = ls
      have hll : ls.length = φ.bs.length := by rw [← hl]; simp
      have hb : φ.bs.map (Value.int .u8) = Lib.byteCells ls := by rw [← hl]; exact bytes_of hbb
      have hstr : (⟨ls.toArray⟩ : ByteArray) = strOfNums φ.bs := by
        rw [← hl]; rfl
      simp only [wrO] at h1 h5 h6 h9
      refine (hS (g.β i) (g.ρ i).b cap g.w p ls cur (by rw [hll]; exact h1) h5 (by omega) h7 h8 (by rw [hll, ← hb]; exact h9) (fun e => hne (List.eq_nil_of_length_eq_zero (by rw [← hll, e]; rfl)))).mono ?_
      rintro e w' ⟨rfl, k1, k2⟩
      obtain ⟨kk, ss⟩ := opq_turn sm hMi (φ' := wrX) (w' := w') (rb := (g.ρ i).b) k1.size ⟨k1.os, k1.output⟩ (fun k q1 q2 q3 => k1.block k q1 q2 (by simpa using q3)) (.inl rfl) trivial
      refine ⟨_, rfl, g.β, _, ss, ?_, kk⟩
      rw [hstr]
      exact .lit _
    · cases h
  · cases h
end Go.Ab
end
section
namespace Go.Ab
open Go.Proofs

/-- Bytes are put behind. -/
@[simp] def wrPutS (T E : TypeId) : Sp
  | [.ptr i 0, .sl els _], M => match M[i]? with
    | some (.opq φ) => some { av := .ptr i 0, M := some (M.set i (.opq (wrO T E (appL φ.bs (els.map numOf))))), obl := φ = wrO T E φ.bs ∧ (∀ e ∈ els, ∃ n, e = [.lit (.int .u8 n)]) ∧ els ≠ [] ∧ AppB (lenL φ.bs) (lenL els) 1 }
    | _ => none
  | _, _ => none

theorem addr_plus (b off j : Nat) : (⟨b, off, none⟩ : Addr).add j = ⟨b, off + j, none⟩ := by
  unfold Addr.add
  split <;> simp_all

theorem sl_inv {g : G} {els : List (List AV)} {tok : Tok} {v : Value} (h : R g (.sl els tok) v) (hne : els ≠ []) (hu : ∀ e ∈ els, ∃ n, e = [.lit (.int .u8 n)]) :
    ∃ b off cap, v = .slice (some ⟨b, off, none⟩) els.length cap ∧ ∀ j, j < els.length → g.w.cell? ⟨b, off + j, none⟩ = some (.int .u8 ((els.map numOf).getD j 0)) ∧ ¬ g.reg ⟨b, off + j, none⟩ := by
  cases h with
  | nil => exact absurd rfl hne
  | sl _ _ b off s cap xs hs h1 h2 h3 h4 ht hc =>
    refine ⟨b, off, cap, rfl, fun j hj => ?_⟩
    obtain ⟨n, hn⟩ := hu _ (List.getElem_mem hj)
    have hs1 : s = 1 := by rw [← hs j hj, hn]; rfl
    subst hs1
    have q1 := h1 j 0 hj (by omega)
    have q2 := h2 j 0 hj (by omega)
    have q3 := h3 j 0 hj (by rw [hn]; simp)
    simp only [Nat.mul_one, Nat.add_zero] at q1 q2
    refine ⟨?_, q2⟩
    rw [q1]
    have : R g (.lit (.int .u8 n)) (xs j 0) := by
      have e : els[j][0]'(by rw [hn]; simp) = .lit (.int .u8 n) := by simp [hn]
      rw [e] at q3; exact q3
    rw [this.lit_inv]
    have hg : (els.map numOf).getD j 0 = n := by simp [List.getD, hj, hn]
    rw [hg]

theorem putW_ok {P : Program} {f : FuncId} {T E : TypeId} (hent : ∀ args w, (callFunc f args).run P w = .ok (.enter f args) w)
    (hU : ∀ (b : Nat) (w : World) (p v : Value) (n : Nat) (xs : List Value), w.heap[b]? = some (.cells #[p, v] T (0, 0)) → (p = .pointer none ∨ p = .pointer (some ⟨b, 0, none⟩)) → w.ownsRow 0 E 1 v n xs → v.ownBlock ≠ some b →
      ∀ (ad : Addr) (m c : Nat) (news : List Value), news.length = m → 0 < m → (∀ j u, news[j]? = some u → w.cell? (ad.add j) = some u) → (∀ u ∈ news, u.oneCell' = true) → (∀ j, (ad.add j).block ≠ b) → n + m ≤ 140737488355328 →
      Calls P f #[.pointer (some ⟨b, 0, none⟩), .slice (some ad) m c] w fun e w' => e = .returned (.pointer (some ⟨b, 0, none⟩)) ∧
      ∃ v', w'.heap[b]? = some (.cells #[.pointer (some ⟨b, 0, none⟩), v'] T (0, 0)) ∧ w'.ownsRow 0 E 1 v' (n + m) (xs ++ news) ∧ v'.ownBlock ≠ some b ∧ WrKeep b v.ownBlock w w' ∧
        (v'.ownBlock = v.ownBlock ∨ v'.ownBlock = some w.heap.size) ∧ ∀ g, v'.ownBlock = some g → g < w'.heap.size) : SpecOk P f (wrPutS T E) := by
  intro l M out h
  unfold wrPutS at h
  split at h
  · rename_i i els tok
    split at h
    · rename_i φ hMi
      cases h
      intro g vs hM sm hr ho
      subst hM
      obtain ⟨hφ, hu, hne, happ⟩ := ho
      cases hr with | cons hv hr => cases hr with | cons hs hr => cases hr with | nil =>
      cases hv with
      | ptr _ _ hi =>
      obtain ⟨ab, off, cap, rfl, hcell⟩ := sl_inv hs hne hu
      refine ⟨hent _ _, ?_⟩
      have hq := sm.opq i φ hMi
      rw [hφ] at hq
      obtain ⟨p, v, h1, h2, h3, h4, h5⟩ := WrB.at hq
      generalize hls : els.map numOf = ls at *
      have hll : ls.length = els.length := by rw [← hls]; simp
      have hpos : 0 < ls.length := by
        rw [hll]
        exact List.length_pos_iff.2 hne
      have hadd : ∀ j, (⟨ab, off, none⟩ : Addr).add j = ⟨ab, off + j, none⟩ := fun j => addr_plus ab off j
      have happ' : φ.bs.length + els.length ≤ 140737488355328 := by
        have := happ.1
        simp only [lenL, Int.mul_one, Int.natCast_one] at this
        omega
      have hab : ab ≠ g.β i := by
        intro e
        have := (hcell 0 (by omega)).2
        exact this (reg_of hMi (.inl e))
      refine (hU (g.β i) g.w p v φ.bs.length (φ.bs.map (Value.int .u8)) h1 h2 h3 h4 ⟨ab, off, none⟩ els.length cap (ls.map (Value.int .u8)) (by rw [List.length_map]; exact hll) (by rw [← hll]; exact hpos) (fun j u hj => ?_) (fun u hu => ?_) (fun j => by rw [hadd]; exact hab) happ').mono ?_
      · simp only [List.getElem?_map, Option.map_eq_some_iff] at hj
        obtain ⟨x, hx, rfl⟩ := hj
        have hjl : j < ls.length := by
          rcases Nat.lt_or_ge j ls.length with h | h
          · exact h
          · rw [List.getElem?_eq_none h] at hx; cases hx
        rw [hadd, (hcell j (by omega)).1]
        simp [List.getD, hx]
      · obtain ⟨x, _, rfl⟩ := List.mem_map.1 hu
        rfl
      rintro e w' ⟨rfl, v', k1, k2, k3, k4, k5, k6⟩
      have hW : WrB T E (φ.bs ++ ls) (g.β i) (v'.ownBlock.getD (g.β i)) (w'.heap[g.β i]?) (w'.heap[v'.ownBlock.getD (g.β i)]?) := by
        refine WrB.of k1 (.inr rfl) ?_ k3
        simpa [hll] using k2
      have hρ : v.ownBlock = none ∧ (g.ρ i).b = g.β i ∨ v.ownBlock = some (g.ρ i).b := h5
      obtain ⟨kk, ss⟩ := opq_turn sm hMi (φ' := wrO T E (φ.bs ++ ls)) (w' := w') (rb := v'.ownBlock.getD (g.β i)) k4.size ⟨k4.os, k4.output⟩ (fun k q1 q2 q3 => k4.block k q1 q2 (by
          rcases hρ with ⟨h, _⟩ | h <;> rw [h]
          · simp
          · simpa using q3))
        (by
          rcases k5 with h | h
          · rcases hρ with ⟨h', _⟩ | h'
            · right; left; rw [h, h']; rfl
            · left; rw [h, h']; rfl
          · right; right; rw [h]; exact ⟨Nat.le_refl _, k6 _ h⟩) hW
      refine ⟨_, rfl, g.β, _, ss, ?_, kk⟩
      exact .ptr (g := ⟨g.M.set i (.opq (wrO T E (φ.bs ++ ls))), g.β, _, w', g.X⟩) i 0 (by simpa using hi)
    · cases h
  · cases h

end Go.Ab

namespace Go.Proofs
open Go.RowKit Go.Ab

set_option maxHeartbeats 1000000 in
set_option maxRecDepth 100000 in
theorem Tryz.u8W (b : Nat) (w : World) (p v : Value) (n : Nat) (xs : List Value) (hb : w.heap[b]? = some (.cells #[p, v] 143 (0, 0))) (hp : p = .pointer none ∨ p = .pointer (some ⟨b, 0, none⟩))
    (hown : w.ownsRow 0 5 1 v n xs) (hne : v.ownBlock ≠ some b) (ad : Addr) (m c : Nat) (news : List Value) (hl : news.length = m) (hm : 0 < m) (hnews : ∀ j u, news[j]? = some u → w.cell? (ad.add j) = some u)
    (h1 : ∀ u ∈ news, u.oneCell' = true) (hap : ∀ j, (ad.add j).block ≠ b) (hbytes : n + m ≤ 140737488355328) :
    Calls Tryz.prog 43 #[.pointer (some ⟨b, 0, none⟩), .slice (some ad) m c] w fun e w' => e = .returned (.pointer (some ⟨b, 0, none⟩)) ∧
      ∃ v', w'.heap[b]? = some (.cells #[.pointer (some ⟨b, 0, none⟩), v'] 143 (0, 0)) ∧ w'.ownsRow 0 5 1 v' (n + m) (xs ++ news) ∧ v'.ownBlock ≠ some b ∧ WrKeep b v.ownBlock w w' ∧
        (v'.ownBlock = v.ownBlock ∨ v'.ownBlock = some w.heap.size) ∧ ∀ g, v'.ownBlock = some g → g < w'.heap.size := by
  have H1 := hidW (Tryz.writeW b w p v n xs hb hp hown hne ad m c news hl hm hnews h1 hap hbytes)
  clear hb hp hown hne hnews h1 hap hl hm hbytes
  go_enter Tryz.func43, Tryz.ntmps43
  go_wp2_with (go_at_call 104; refine H1.out.mono ?_)
  rintro e w1 ⟨rfl, h⟩
  have H2 := hidW h
  clear h
  go_wp2
  go_ret
  exact ⟨rfl, H2.out⟩

set_option maxHeartbeats 1000000 in
set_option maxRecDepth 100000 in
theorem Tryz.textW (b g cap : Nat) (w : World) (p : Value) (l : List UInt8) (cur : Array Value) (hb : w.heap[b]? = some (.cells #[p, .slice (some ⟨g, 0, none⟩) l.length cap] 143 (0, 0)))
    (hg : w.heap[g]? = some (.cells cur 5 (0, 0))) (hnc : l.length ≤ cap) (hcm : cap ≤ maxLen) (hcs : cur.size = cap) (ht : cur.toList.take l.length = Lib.byteCells l) (h0 : l ≠ []) :
    Calls Tryz.prog 49 #[.pointer (some ⟨b, 0, none⟩)] w fun e w' => e = .returned (.string ⟨l.toArray⟩) ∧ WrKeep b (some g) w w' ∧ w'.heap.size = w.heap.size := by
  have H1 := hidW (Tryz.stringW b g cap w p l cur hb hg hnc hcm hcs ht h0)
  clear hb hg hnc hcm hcs ht h0
  go_enter Tryz.func49, Tryz.ntmps49
  go_wp2_with (go_at_call 107; refine H1.out.mono ?_)
  rintro e w1 ⟨rfl, h⟩
  have H2 := hidW h
  clear h
  go_wp2
  go_ret
  exact ⟨rfl, H2.out⟩

theorem gOctetWriter.U8.ok : SpecOk Tryz.prog 43 (wrPutS 143 5) :=
  putW_ok (fun _ _ => by kernel_rfl) Tryz.u8W
theorem gOctetWriter.Text.ok : SpecOk Tryz.prog 49 (wrTextS 143 5) :=
  textW_ok (fun _ _ => by kernel_rfl) Tryz.textW
theorem Tryz.wrZero (w : World) : (zeroValue 143).run Tryz.prog w = .ok (.agg #[.pointer none, .slice none 0 0]) w := by kernel_rfl
theorem gOctetWriter.alloc {n B : Nat} {Q : Exit → Go.Ab.St → Prop} {σ : Go.Ab.St} {id d1 : Nat} {ops : Array Oper} {o1 : Oper} (ho : ops.toList = [o1]) (ho1 : o1.op = .alloc 143) (hg : o1.guard = none)
    (hd1 : o1.dst = some d1) (hd : dstsOk ops n ops.toList [] = true) (hn : noTags σ.A = true) {dead : List Nat}
    (h : Q .normal ⟨⟨d1, none, .ptr σ.M.length 0⟩ :: without dead (without [d1] σ.A), σ.M ++ [.opq (wrO 143 5 [])]⟩) : AWp Tryz.prog n B (.region id ops false) Q σ :=
  AWp.regAlloc (wrO 143 5 []) ho ho1 hg hd1 hd hn Tryz.wrZero rfl (fun b o => wr_fresh _ _ b o) h
end Go.Proofs
end
section
namespace Go.Proofs
open Go.Ab Go.Shelf
theorem Tryz.sortsD (m : Nat) : AnyZI.SortsIn Tryz.prog Tryz.sortedAD_ren Fence.wide m :=
  ⟨fun blk off cap ss W hH hblk hsz => callsIn_wide.2 (AnyM.slices_Sort_int Tryz.sortAD blk off cap ss W hH hblk hsz),
   fun p cap W => callsIn_wide.2 (AnyM.slices_Sort_int_none Tryz.sortAD p cap W)⟩
theorem keysD.ok : SpecOk Tryz.prog 289 (keysS 339) :=
  keys_ok Tryz.keysAD rfl rfl (enters_of Tryz.func289 (by kernel_rfl) rfl)
theorem sortedD.ok : SpecOk Tryz.prog 84 (sortedS 339) :=
  sorted_ok Tryz.sortedAD { Tryz.keysAD with } rfl rfl (enters_of Tryz.func84 (by kernel_rfl) rfl) Tryz.sortsD (enters_of Tryz.func157 (by kernel_rfl) rfl) (enters_of Tryz.func339 (by kernel_rfl) rfl)
theorem keysP.ok : SpecOk Tryz.prog 85 (keysS 158) :=
  keys_ok Tryz.keysAP rfl rfl (enters_of Tryz.func85 (by kernel_rfl) rfl)
theorem sortedP.ok : SpecOk Tryz.prog 84 (sortedS 158) :=
  sorted_ok Tryz.sortedAD { Tryz.keysAP with } rfl rfl (enters_of Tryz.func84 (by kernel_rfl) rfl) Tryz.sortsD (enters_of Tryz.func157 (by kernel_rfl) rfl) (enters_of Tryz.func158 (by kernel_rfl) rfl)
theorem keysE.ok : SpecOk Tryz.prog 255 (keysS 323) :=
  keys_ok Tryz.keysAE rfl rfl (enters_of Tryz.func255 (by kernel_rfl) rfl)
theorem sortedE.ok : SpecOk Tryz.prog 84 (sortedS 323) :=
  sorted_ok Tryz.sortedAD { Tryz.keysAE with } rfl rfl (enters_of Tryz.func84 (by kernel_rfl) rfl) Tryz.sortsD (enters_of Tryz.func157 (by kernel_rfl) rfl) (enters_of Tryz.func323 (by kernel_rfl) rfl)
theorem keysN.ok : SpecOk Tryz.prog 328 (keysS 356) :=
  keys_ok Tryz.keysAN rfl rfl (enters_of Tryz.func328 (by kernel_rfl) rfl)
theorem sortedN.ok : SpecOk Tryz.prog 84 (sortedS 356) :=
  sorted_ok Tryz.sortedAD { Tryz.keysAN with } rfl rfl (enters_of Tryz.func84 (by kernel_rfl) rfl) Tryz.sortsD (enters_of Tryz.func157 (by kernel_rfl) rfl) (enters_of Tryz.func356 (by kernel_rfl) rfl)
theorem keysT.ok : SpecOk Tryz.prog 293 (keysS 344) :=
  keysS_okZ Tryz.keysAS rfl rfl (enters_of Tryz.func293 (by kernel_rfl) rfl)
theorem Tryz.sortsS (m : Nat) : AnyZ.SortsIn Tryz.prog Tryz.sortedAS_ren Fence.wide m :=
  ⟨fun blk off cap ss W hH hblk hsz => callsIn_wide.2 (AnyM.slices_Sort_string Tryz.sortAS blk off cap ss W hH hblk hsz),
   fun p cap W => callsIn_wide.2 (AnyM.slices_Sort_string_none Tryz.sortAS p cap W)⟩
theorem sortedT.ok : SpecOk Tryz.prog 292 (sortedSS 344) :=
  sortedS_ok Tryz.sortedAS { Tryz.keysAS with } rfl rfl (enters_of Tryz.func292 (by kernel_rfl) rfl) Tryz.sortsS (enters_of Tryz.func343 (by kernel_rfl) rfl) (enters_of Tryz.func344 (by kernel_rfl) rfl)
end Go.Proofs
end
section
set_option maxRecDepth 100000
set_option maxHeartbeats 1000000
namespace Go.Ab.A2
open Go.Proofs Go.RowKit Go.Lib Go.Sort
theorem isNaN_c (x : Int) (w : World) : Calls Tryz.prog 121 #[.int .i64 x] w fun e w' => e = .returned (.bool false) ∧ w' = w := by
  go_enter Tryz.func121, Tryz.ntmps121
  go_wp2
  go_ret
  exact ⟨by simp, rfl⟩
theorem compare_c (x y : Int) (w : World) : Calls Tryz.prog 189 #[.int .i64 x, .int .i64 y] w fun e w' => e = .returned (.int .i64 (Lib.compareInt x y)) ∧ w' = w := by
  go_enter Tryz.func189, Tryz.ntmps189
  go_wp2_with (go_at_call 121; refine (isNaN_c _ _).mono ?_; rintro e w' ⟨rfl, hw⟩; rw [hw])
  all_goals (go_ret; refine ⟨?_, rfl⟩; unfold Lib.compareInt; (repeat' split) <;> first | rfl | (exfalso; omega))
def or3 (a b c : Int) : Int := if a ≠ 0 then a else if b ≠ 0 then b else c
theorem or_c (B : Nat) (a b c : Int) (w : World) (h0 : w.cell? ⟨B, 0, none⟩ = some (.int .i64 a)) (h1 : w.cell? ⟨B, 1, none⟩ = some (.int .i64 b)) (h2 : w.cell? ⟨B, 2, none⟩ = some (.int .i64 c)) :
    Calls Tryz.prog 188 #[.slice (some ⟨B, 0, none⟩) 3 3] w fun e w' => e = .returned (.int .i64 (or3 a b c)) ∧ w' = w := by
  go_enter Tryz.func188, Tryz.ntmps188
  go_wp2
  go_loopw [8] (fun v wr => ∃ i : Nat, v = .int .i64 i ∧ i ≤ 3 ∧ wr = w ∧ (1 ≤ i → a = 0) ∧ (2 ≤ i → b = 0) ∧ (3 ≤ i → c = 0)) (fun v _ => 3 - (match v with | .int _ n => n.toNat | _ => 0))
  case atStart => exact ⟨0, rfl, by omega, rfl, by omega, by omega, by omega⟩
  case round =>
    obtain ⟨i, rfl, hi, rfl, q1, q2, q3⟩ := hrel
    rcases (show i = 0 ∨ i = 1 ∨ i = 2 ∨ i = 3 by omega) with rfl | rfl | rfl | rfl
    · go_wp2
      · rename_i hh
        go_ret
        have hh : a ≠ 0 := by simpa using hh
        exact ⟨by simp [or3, hh], rfl⟩
      · rename_i hh
        have hh : a = 0 := by simpa using hh
        exact ⟨⟨1, rfl, by omega, trivial, fun _ => hh, by omega, by omega⟩, by decide⟩
    · have qa := q1 (by omega)
      go_wp2
      · rename_i hh
        go_ret
        have hh : b ≠ 0 := by simpa using hh
        exact ⟨by simp [or3, hh, qa], rfl⟩
      · rename_i hh
        have hh : b = 0 := by simpa using hh
        exact ⟨⟨2, rfl, by omega, trivial, fun _ => qa, fun _ => hh, by omega⟩, by decide⟩
    · have qa := q1 (by omega)
      have qb := q2 (by omega)
      go_wp2
      · rename_i hh
        go_ret
        have hh : c ≠ 0 := by simpa using hh
        exact ⟨by simp [or3, qb, qa], rfl⟩
      · rename_i hh
        have hh : c = 0 := by simpa using hh
        exact ⟨⟨3, rfl, by omega, trivial, fun _ => qa, fun _ => qb, fun _ => hh⟩, by decide⟩
    · have qa := q1 (by omega)
      have qb := q2 (by omega)
      have qc := q3 (by omega)
      go_wp2
      go_ret
      exact ⟨by simp [or3, qb, qa, qc], rfl⟩

def cf3 (x y : Int × Int × Int) : Int := or3 (Lib.compareInt x.1 y.1) (Lib.compareInt x.2.1 y.2.1) (Lib.compareInt x.2.2 y.2.2)
theorem linksCmp (x y : Int × Int × Int) (W : World) : Calls Tryz.prog 287 #[.agg #[.int .i64 x.1, .int .i64 x.2.1, .int .i64 x.2.2], .agg #[.int .i64 y.1, .int .i64 y.2.1, .int .i64 y.2.2]] W fun e w' => e = .returned (.int .i64 (cf3 x y)) ∧ ∃ q os', w' = grow (W.drewN q) os' := by
  obtain ⟨x1, x2, x3⟩ := x
  obtain ⟨y1, y2, y3⟩ := y
  have c1 := fun W' => compare_c x1 y1 W'
  have c2 := fun W' => compare_c x2 y2 W'
  have c3 := fun W' => compare_c x3 y3 W'
  simp only [cf3]
  generalize Lib.compareInt x1 y1 = r1 at c1 ⊢
  generalize Lib.compareInt x2 y2 = r2 at c2 ⊢
  generalize Lib.compareInt x3 y3 = r3 at c3 ⊢
  go_enter Tryz.func287, Tryz.ntmps287
  go_upto_region 1 with (fail)
  obtain ⟨W2, hW2⟩ : ∃ W2, (W.alloc (.cells #[.int .i64 x1, .int .i64 x2, .int .i64 x3] 168)).alloc (.cells #[.int .i64 y1, .int .i64 y2, .int .i64 y3] 168) = W2 := ⟨_, rfl⟩
  change Code.wp _ _ _ _ ((W.alloc (.cells #[.int .i64 x1, .int .i64 x2, .int .i64 x3] 168)).alloc (.cells #[.int .i64 y1, .int .i64 y2, .int .i64 y3] 168))
  rw [hW2]
  have k0 : W2.cell? ⟨W.heap.size, 0, none⟩ = some (.int .i64 x1) := by rw [← hW2]; simp
  have k1 : W2.cell? ⟨W.heap.size, 1, none⟩ = some (.int .i64 x2) := by rw [← hW2]; simp
  have k2 : W2.cell? ⟨W.heap.size, 2, none⟩ = some (.int .i64 x3) := by rw [← hW2]; simp
  have l0 : W2.cell? ⟨W.heap.size + 1, 0, none⟩ = some (.int .i64 y1) := by rw [← hW2]; simp
  have l1 : W2.cell? ⟨W.heap.size + 1, 1, none⟩ = some (.int .i64 y2) := by rw [← hW2]; simp
  have l2 : W2.cell? ⟨W.heap.size + 1, 2, none⟩ = some (.int .i64 y3) := by rw [← hW2]; simp
  refine wp_region_still_tail 19 (by kernel_rfl) (by kernel_rfl) ?_
  simp only [List.take_succ_cons, List.take_zero, List.drop_succ_cons, List.drop_zero]
  iterate 4 still_step
  still_call (c1 _)
  iterate 6 still_step
  still_call (c2 _)
  iterate 6 still_step
  still_call (c3 _)
  refine wpStill_nil ?_
  change wpList _ _ _ _ _ W2.drew
  have fin : ∀ o : Obj, ∃ q os', W2.drew.alloc o = grow (W.drewN q) os' := fun o => by
    refine ⟨1, #[.cells #[.int .i64 x1, .int .i64 x2, .int .i64 x3] 168, .cells #[.int .i64 y1, .int .i64 y2, .int .i64 y3] 168] ++ #[o], ?_⟩
    rw [← hW2, alloc_eq_grow, ← grow_grow, alloc_eq_grow, alloc_eq_grow, grow_grow]; rfl
  generalize W2.drew = W3 at fin ⊢
  clear k0 k1 k2 l0 l1 l2 c1 c2 c3 hW2
  have hor := fun W' h0 h1 h2 => or_c W3.heap.size r1 r2 r3 W' h0 h1 h2
  go_wp2_with (go_at_call 188; refine (hor _ (by simp) (by simp) (by simp)).mono ?_; rintro e w' ⟨rfl, rfl⟩)
  go_ret
  exact ⟨rfl, fin _⟩
end Go.Ab.A2
end
