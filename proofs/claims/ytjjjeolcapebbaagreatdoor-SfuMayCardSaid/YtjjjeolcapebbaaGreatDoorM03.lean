/- Runs on fixed data, reckoned: the whole. No condition: over any program. -/
import Derived.Test.YtjjjeolcapebbaaGreatDoorEr
import Derived.Test.YtjjjeolcapebbaaGreatDoorM04
import Derived.Lib.UnsafeStr
import Derived.Shelf.RegionOpenPlain
section
namespace Go.Ab
section
variable {P : Program}
def anyR (T : EvT) (run : Nat → Code → St → Option (Exit × St)) (n : Nat) (x : Code) (σ : St) : Option (Exit × St) := match x with
  | .loop y => match anyX T run n y σ with
    | some r => some r
    | none => run n x σ
  | _ => run n x σ
theorem anyR_ok {T : EvT} (hT : EvOk P T) {run : Nat → Code → St → Option (Exit × St)} (hr : RunOk P run) : RunOk P (anyR T run) := by
  intro n B c σ e σ' h ht
  unfold anyR at h
  split at h
  · split at h
    · rename_i r hx
      cases h
      exact any_ok hT hr hx ht
    · exact hr n B _ σ e σ' h ht
  · exact hr n B _ σ e σ' h ht
def evC (T : EvT) : Nat → Nat → Code → St → Option (Exit × St)
  | 0, _, _, _ => none
  | k + 1, n, c, σ => match c with
    | .skip => some (.normal, σ)
    | .ret => some (.ret, σ)
    | .exit id => some (.exit id, σ)
    | .seq x y => match evC T k n x σ with
      | some (.normal, σ') => evC T k n y σ'
      | r => r
    | .cond c x y => match evX σ.A [] c with
      | some (.lit (.bool true)) => evC T k n x σ
      | some (.lit (.bool false)) => evC T k n y σ
      | _ => none
    | .block id x => match anyR T (evC T k) n x σ with
      | some (.exit id', σ') => if id' = id then some (.normal, σ') else some (.exit id', σ')
      | r => r
    | .loop x => match ordX (evC T k) n x σ with
      | some r => some r
      | none => match evC T k n x σ with
        | some (.normal, σ') => evC T k n (.loop x) σ'
        | r => r
    | .region _ ops draw => (regY T (callX T (evC T k)) n ops draw σ).map fun σ' => (.normal, σ')
    | _ => none
def evF (T : EvT) (k : Nat) : Gam := callX T (evC T k)

theorem evC_ok {T : EvT} (hT : EvOk P T) (k0 : Nat) : RunOk P (evC T k0) := by
  induction k0 using Nat.strongRecOn with
  | _ k0 ihs =>
  match k0, ihs with
  | 0, _ => exact fun n B c σ e σ' h => by cases h
  | k + 1, ihs =>
    have ih := ihs k (Nat.lt_succ_self k)
    have ihA := anyR_ok hT ih
    intro n B c σ e σ' h ht
    have hall := h
    unfold evC at h
    split at h
    · cases h; exact AWp.skip ⟨rfl, rfl, ht⟩
    · cases h; exact AWp.ret ⟨rfl, rfl, ht⟩
    · cases h; exact AWp.exit ⟨rfl, rfl, ht⟩
    · rename_i x y
      refine AWp.seq ?_
      split at h
      · rename_i σ1 h1
        refine AWp.mono (ih n B x σ _ σ1 h1 ht) fun e' σ'' q => ?_
        obtain ⟨rfl, rfl, q3⟩ := q
        exact ih n B y _ _ _ h q3
      · rename_i hne
        refine AWp.mono (ih n B x σ _ σ' h ht) fun e' σ'' q => ?_
        obtain ⟨rfl, rfl, q3⟩ := q
        cases e' with
        | normal => exact absurd h (hne _)
        | _ => exact ⟨rfl, rfl, q3⟩
    · rename_i c x y
      split at h
      · rename_i hc
        exact AWp.cond hc (fun _ => ih n B x σ _ σ' h ht) (fun hb => by cases hb)
      · rename_i hc
        exact AWp.cond hc (fun hb => by cases hb) (fun _ => ih n B y σ _ σ' h ht)
      · cases h
    · rename_i id x
      refine AWp.block ?_
      split at h
      · rename_i id' σ1 h1
        refine AWp.mono (ihA n B x σ _ σ1 h1 ht) fun e' σ'' q => ?_
        obtain ⟨rfl, rfl, q3⟩ := q
        simp only [blockS]
        split at h
        · rename_i hid; cases h; rw [if_pos hid]; exact ⟨rfl, rfl, q3⟩
        · rename_i hid; cases h; rw [if_neg hid]; exact ⟨rfl, rfl, q3⟩
      · rename_i hne
        refine AWp.mono (ihA n B x σ _ σ' h ht) fun e' σ'' q => ?_
        obtain ⟨rfl, rfl, q3⟩ := q
        cases e' with
        | exit id' => exact absurd h (hne _ _)
        | _ => exact ⟨rfl, rfl, q3⟩
    · rename_i x
      refine AWp.wst (Q := fun e' σ'' => ∃ r, Wk r (e, σ') ∧ e' = r.1 ∧ σ'' = r.2 ∧ noTags r.2.A = true) ?_ fun e' σ1 ⟨r, h1, h2, h3, h4⟩ => ⟨σ', ?_, ?_, ?_, rfl, h1.2.2.2 h4⟩
      rotate_left
      · subst h3; exact h1.2.2.1.wmem
      · subst h3; exact h1.2.1
      · rw [h2]; exact h1.1
      refine AWp.loop (fun j τ => j ≤ k + 1 ∧ (∃ r, evC T j n (.loop x) τ = some r ∧ Wk r (e, σ')) ∧ noTags τ.A = true) (k + 1) ⟨Nat.le_refl _, ⟨_, hall, .refl _⟩, ht⟩ ?_
      rintro j τ ⟨hj, ⟨r, hev, hw⟩, hτ⟩
      match j, hj, hev with
      | 0, _, hev => cases hev
      | j + 1, hj, hev =>
        have ihj := ihs j (by omega)
        unfold evC at hev
        simp only at hev
        split at hev
        · rename_i r' hox
          cases hev
          obtain ⟨id, ops, y, l, rfl, hd, hn, hq⟩ := ordX_spec hox
          refine AWp.seq (AWp.mono (nextsX_ok hT (callX_ok hT ihj) hd hn hτ) fun e' s q => ?_)
          obtain ⟨rfl, hs, hst⟩ := q
          simp only [thenS]
          obtain ⟨q, hq1, hq2⟩ := hq s hs
          unfold ordStep at hq1
          split at hq1
          · rename_i σ1 h1
            refine AWp.mono (ihj n B y s _ σ1 h1 hst) fun e' σ'' q' => ?_
            obtain ⟨rfl, rfl, q3⟩ := q'
            exact ⟨j, Nat.lt_succ_self j, by omega, ⟨_, hq1, hq2.trans hw⟩, q3⟩
          · rename_i hne
            refine AWp.mono (ihj n B y s _ q.2 hq1 hst) fun e' σ'' q' => ?_
            obtain ⟨rfl, rfl, q3⟩ := q'
            have hk : Wk q (e, σ') := hq2.trans hw
            generalize hqe : q.1 = qe at *
            cases qe with
            | normal => exact absurd hq1 (by rw [show q = (Exit.normal, q.2) from by rw [← hqe]]; exact hne _)
            | _ => exact ⟨q, hk, hqe.symm, rfl, q3⟩
        split at hev
        · rename_i σ1 h1
          refine AWp.mono (ihj n B x τ _ σ1 h1 hτ) fun e' σ'' q => ?_
          obtain ⟨rfl, rfl, q3⟩ := q
          exact ⟨j, Nat.lt_succ_self j, by omega, ⟨_, hev, hw⟩, q3⟩
        · rename_i hne
          refine AWp.mono (ihj n B x τ _ r.2 hev hτ) fun e' σ'' q => ?_
          obtain ⟨rfl, rfl, q3⟩ := q
          generalize hqe : r.1 = qe at *
          cases qe with
          | normal => exact absurd hev (by rw [show r = (Exit.normal, r.2) from by rw [← hqe]]; exact hne _)
          | _ => exact ⟨r, hw, hqe.symm, rfl, q3⟩
    · obtain ⟨σ1, h1, e1⟩ := Option.map_eq_some_iff.1 h
      cases e1
      exact regY_ok hT (callX_ok hT ih) (callX_free hT) h1 ht
    · cases h
theorem evF_ok {T : EvT} (hT : EvOk P T) (k : Nat) {f : FuncId} {l : List AV} {M : List AObj} {o : Out} (h : evF T k f l M = some o) : CallOk P f l M o := (callX_ok hT (evC_ok hT k)).h f l M o h
/-- A contract, where what it asks has been looked at. -/
def chkS (S : Sp) (ob : List AV → List AObj → Bool) : Sp := fun l M => if ob l M then (S l M).map fun o => { o with obl := True } else none
theorem chkS_ok {f : FuncId} {S : Sp} {ob : List AV → List AObj → Bool} (h : SpecOk P f S) (hob : ∀ l M o, S l M = some o → ob l M = true → o.obl) {l : List AV} {M : List AObj} {o : Out} (q : chkS S ob l M = some o) : CallOk P f l M o ∧ o.obl := by
  unfold chkS at q
  split at q
  · rename_i hb
    obtain ⟨o', h1, rfl⟩ := Option.map_eq_some_iff.1 q
    exact ⟨fun g vs hM sm hr _ => h l M o' h1 g vs hM sm hr (hob l M o' h1 hb), trivial⟩
  · cases q
/-- The objects that are Writers of these types. -/
def isWr (T E : TypeId) (M : List AObj) : List AV → Bool
  | .ptr i 0 :: _ => match M[i]? with
    | some (.opq φ) => decide (φ.k = some (T, E))
    | _ => false
  | _ => false
theorem isWr_spec {T E : TypeId} {M : List AObj} {i : Nat} {l : List AV} {φ : Opq} (h : isWr T E M (.ptr i 0 :: l) = true) (hM : M[i]? = some (.opq φ)) : φ = wrO T E φ.bs := by
  unfold isWr at h
  simp only [hM] at h
  have := of_decide_eq_true h
  obtain ⟨bs, k⟩ := φ
  simp only at this
  subst this
  rfl
end
end Go.Ab
end
section
namespace Go.Proofs
open Go.RowKit Go.Ab

theorem hidW {p : Prop} (h : p) : Hid p := h

set_option maxHeartbeats 2000000 in
set_option maxRecDepth 100000 in
theorem Tryz.writeW (b : Nat) (w : World) (p v : Value) (n : Nat) (xs : List Value) (hb : w.heap[b]? = some (.cells #[p, v] 143 (0, 0))) (hp : p = .pointer none ∨ p = .pointer (some ⟨b, 0, none⟩))
    (hown : w.ownsRow 0 5 1 v n xs) (hne : v.ownBlock ≠ some b) (ad : Addr) (m c : Nat) (news : List Value) (hl : news.length = m) (hm : 0 < m) (hnews : ∀ j u, news[j]? = some u → w.cell? (ad.add j) = some u)
    (h1 : ∀ u ∈ news, u.oneCell' = true) (hap : ∀ j, (ad.add j).block ≠ b) (hbytes : n + m ≤ 140737488355328) :
    Calls Tryz.prog 104 #[.pointer (some ⟨b, 0, none⟩), .slice (some ad) m c] w fun e w' => e = .returned (.tuple #[.int .i64 m, .nilIface]) ∧
      ∃ v', w'.heap[b]? = some (.cells #[.pointer (some ⟨b, 0, none⟩), v'] 143 (0, 0)) ∧ w'.ownsRow 0 5 1 v' (n + m) (xs ++ news) ∧ v'.ownBlock ≠ some b ∧ WrKeep b v.ownBlock w w' ∧
        (v'.ownBlock = v.ownBlock ∨ v'.ownBlock = some w.heap.size) ∧ ∀ g, v'.ownBlock = some g → g < w'.heap.size := by
  have hbl : b < w.heap.size := by
    rcases Nat.lt_or_ge b w.heap.size with h | h
    · exact h
    · simp [Array.getElem?_eq_none h] at hb
  have H1 := hidW (Tryz.ccAny b w p v n xs hb hp hown hne)
  have H2 := hidW (show _ ∧ _ ∧ _ ∧ _ ∧ _ ∧ _ from ⟨hbl, hne, hnews, h1, hap, hl⟩)
  clear hb hp hown hne hnews h1 hap hbl hl
  go_enter Tryz.func104, Tryz.ntmps104
  go_wp2_with (go_at_call 192; refine H1.out.mono ?_)
  rintro e w1 ⟨rfl, hb1, hown1, hsz1, hk1, hall1⟩
  obtain ⟨hbl, hne, hnews, h1, hap, hl⟩ := H2.out
  obtain ⟨i0, hi, hz⟩ := Option.map_eq_some_iff.1 Tryz.byteI
  simp only [Prod.mk.injEq] at hz
  obtain ⟨hz0, hz1, hz2⟩ := hz
  have hnews1 : ∀ j u, news[j]? = some u → w1.cell? (ad.add j) = some u := fun j u hj => by
    rw [← hnews j u hj]; simp only [World.cell?]; rw [hall1 _ (hap j)]
  have hsrc : Src Tryz.prog 1 103 (.slice (some ad) m c) m news w1 := Src.ofSlice w1 Tryz.underlying103 ad m c news (by omega) hnews1 h1
  have Hs := hidW hsrc
  have Hi := hidW (show _ ∧ _ ∧ _ ∧ _ from ⟨hi, hz0, hz1, hz2⟩)
  have Hk := hidW (show _ ∧ _ from ⟨hk1, hsz1⟩)
  have Ho := hidW hown1
  have Hn := hidW hne
  have Hb := hidW hb1
  have Hl := hidW hbl
  have c0 : w1.cell? ⟨b, 0, none⟩ = some (.pointer (some ⟨b, 0, none⟩)) := by rw [Lib.cell_of_heap hb1]; rfl
  have c1 : w1.cell? ⟨b, 1, none⟩ = some v := by rw [Lib.cell_of_heap hb1]; rfl
  clear hall1 hk1 hsz1 hown1 hne hb1 hsrc hnews1 hnews h1 hap hi hz0 hz1 hz2 hbl hl H1 H2
  go_wp2_with (at_builtin; refine wpList_append_w rfl _ _ 103 103 rfl 5 i0 _ Tryz.underlying103 Hi.out.1 Hi.out.2.1 Hi.out.2.2.1 Hi.out.2.2.2 rfl _ _ _ rfl Ho.out _ rfl m news Hs.out hm hbytes ?_)
  intro v' w2 hown' hgrow hblk' hnn
  obtain ⟨hk1, hsz1⟩ := Hk.out
  have hne := Hn.out
  have hb1 := Hb.out
  have hbl := Hl.out
  have hlt : b < w1.heap.size := by omega
  have hne' : v'.ownBlock ≠ some b := by
    rcases hblk' with h | h
    · rw [h]; exact hne
    · rw [h]; intro e; simp only [Option.some.injEq] at e; omega
  have hb2 : w2.heap[b]? = some (.cells #[.pointer (some ⟨b, 0, none⟩), v] 143 (0, 0)) := by
    rw [hgrow.block b hlt (fun e => hne e.symm)]
    exact hb1
  have fin : ∀ w3, w3 = w2.setCell ⟨b, 1, none⟩ v' → w3.heap[b]? = some (.cells #[.pointer (some ⟨b, 0, none⟩), v'] 143 (0, 0)) ∧ w3.ownsRow 0 5 1 v' (n + m) (xs ++ news) ∧ v'.ownBlock ≠ some b ∧ WrKeep b v.ownBlock w w3 ∧
        (v'.ownBlock = v.ownBlock ∨ v'.ownBlock = some w.heap.size) ∧ ∀ g, v'.ownBlock = some g → g < w3.heap.size := by
    rintro w3 rfl
    refine ⟨by simp [World.setCell, Array.getElem?_modify, hb2], ?_, hne', (hk1.trans (WrKeep.grown hgrow)).trans (WrKeep.setCell _ _ _ _ _), by rw [hsz1] at hblk'; exact hblk', fun q hq => ?_⟩
    · exact hown'.kept (row := some b) ⟨rfl, rfl, rfl, by simp [World.setCell], fun k _ hk => heap_setCell_ne (fun e => hk (by simp [e]))⟩ (.inr hne')
    · rcases hown'.2 with ⟨_, h⟩ | ⟨g', cap', cur, hv, _, ho, _⟩
      · omega
      · subst hv
        simp only [Value.ownBlock, Option.some.injEq] at hq
        subst hq
        simp only [World.setCell, Array.size_modify]
        rcases Nat.lt_or_ge g' w2.heap.size with h | h
        · exact h
        · simp [Array.getElem?_eq_none h] at ho
  have Hf := hidW fin
  have d0 : w2.cell? ⟨b, 0, none⟩ = some (.pointer (some ⟨b, 0, none⟩)) := by rw [Lib.cell_of_heap hb2]; rfl
  have d1 : w2.cell? ⟨b, 1, none⟩ = some v := by rw [Lib.cell_of_heap hb2]; rfl
  have f1 : w2.frozen? ⟨b, 1, none⟩ = false := Lib.frozen_of_heap hb2 1
  obtain ⟨g, cap, hv'⟩ : ∃ g cap, v' = .slice (some ⟨g, 0, none⟩) (n + m) cap := by
    rcases hown'.2 with ⟨_, h⟩ | ⟨g, cap, cur, hv, _⟩
    · omega
    · exact ⟨_, _, hv⟩
  subst hv'
  clear hown' hgrow hblk' hnn hne' hk1 hsz1 hne hb1 hbl hlt hb2 fin
  go_wp2
  go_ret2
  exact ⟨rfl, _, Hf.out _ rfl⟩

theorem Tryz.byteC : Tryz.prog.cellsOf 5 = 1 := by kernel_rfl

set_option maxHeartbeats 1000000 in
set_option maxRecDepth 100000 in
theorem Tryz.stringW (b g cap : Nat) (w : World) (p : Value) (l : List UInt8) (cur : Array Value) (hb : w.heap[b]? = some (.cells #[p, .slice (some ⟨g, 0, none⟩) l.length cap] 143 (0, 0)))
    (hg : w.heap[g]? = some (.cells cur 5 (0, 0))) (hnc : l.length ≤ cap) (hcm : cap ≤ maxLen) (hcs : cur.size = cap) (ht : cur.toList.take l.length = Lib.byteCells l) (h0 : l ≠ []) :
    Calls Tryz.prog 107 #[.pointer (some ⟨b, 0, none⟩)] w fun e w' => e = .returned (.string ⟨l.toArray⟩) ∧ WrKeep b (some g) w w' ∧ w'.heap.size = w.heap.size := by
  have hl0 : l.length ≠ 0 := by simpa using h0
  have c1 : w.drew.cell? ⟨b, 1, none⟩ = some (.slice (some ⟨g, 0, none⟩) l.length cap) := by
    have : w.drew.heap[b]? = some (.cells #[p, .slice (some ⟨g, 0, none⟩) l.length cap] 143 (0, 0)) := hb
    rw [Lib.cell_of_heap this]; rfl
  have hSD : (Builtin.unsafeSliceData_ #[103] 362 #[.slice (some ⟨g, 0, none⟩) l.length cap]).run Tryz.prog w.drew = .ok (.pointer (some ⟨g, 0, none⟩)) w.drew :=
    Lib.run_unsafeSliceData_row _ _ _ _ _ _ (by omega)
  have hUS : (Builtin.unsafeString_ #[362, 3] 9 #[.pointer (some ⟨g, 0, none⟩), .int .i64 l.length]).run Tryz.prog w.drew = .ok (.string ⟨l.toArray⟩) (w.drew.freeze ⟨g, 0, none⟩ l.length) := by
    refine Lib.run_unsafeString_row w.drew 362 3 9 5 Tryz.underlying362 Tryz.byteC g cur.size (by have hg' : w.drew.heap[g]? = some (.cells cur 5 (0, 0)) := hg; simp [World.shape?, hg']) l h0 (by omega) (by unfold maxLen at hcm; omega) ?_
    intro j x hx
    have hadd : (⟨g, 0, none⟩ : Addr).add j = ⟨g, j, none⟩ := by unfold Addr.add; split <;> simp_all
    have hj : (cur.toList.take l.length)[j]? = some (.int .u8 x.toNat) := by rw [ht]; simp [Lib.byteCells, hx]
    rw [List.getElem?_take] at hj
    split at hj
    · show w.cell? _ = _
      rw [hadd]
      simp only [World.cell?, hg]
      simpa using hj
    · cases hj
  have Hf := hidW (show WrKeep b (some g) w (w.drew.freeze ⟨g, 0, none⟩ l.length) ∧ (w.drew.freeze ⟨g, 0, none⟩ l.length).heap.size = w.heap.size from by
    unfold World.freeze
    rw [if_neg hl0]
    refine ⟨⟨by simp, rfl, rfl, fun k _ _ hk => ?_⟩, by simp⟩
    simp only [Array.getElem?_modify]
    rw [if_neg (fun e => hk (by rw [e]))]
    rfl)
  clear hb hg hnc hcm hcs ht h0 hl0
  go_enter Tryz.func107, Tryz.ntmps107
  go_wp2
  go_region
  all_goals (go_wp2; go_ret; exact ⟨rfl, Hf.out⟩)
end Go.Proofs
end
