/- A Writer's Builder: Len as a contract on abstract values. No condition. -/
import Derived.Test.YtpamnignoocogaaGreatDoorWg
import Derived.Test.YtpamnignoocogaaGreatDoorM03
import Derived.Test.YtpamnignoocogaaGreatDoorBu
import Derived.Test.YtpamnignoocogaaGreatDoorM11
import Derived.Test.YtpamnignoocogaaGreatDoorM04
import Derived.Test.YtpamnignoocogaaGreatDoorAb9
section
namespace Go.Ab
open Go.Proofs Go.RowKit

/-- How many bytes there are. -/
@[simp] def wrLenS (T E : TypeId) : Sp
  | [.ptr i 0], M => match M[i]? with
    | some (.opq φ) => some { av := .lit (.int .i64 (lenL φ.bs)), obl := φ = wrO T E φ.bs }
    | _ => none
  | _, _ => none
theorem lenW_ok {P : Program} {f : FuncId} {T E : TypeId} (hent : ∀ args w, (callFunc f args).run P w = .ok (.enter f args) w)
    (hU : ∀ (b : Nat) (w : World) (p v : Value) (n : Nat) (xs : List Value), w.heap[b]? = some (.cells #[p, v] T (0, 0)) → w.ownsRow 0 E 1 v n xs →
      Calls P f #[.pointer (some ⟨b, 0, none⟩)] w fun e w' => e = .returned (.int .i64 n) ∧ w' = w) : SpecOk P f (wrLenS T E) := by
  intro l M out h
  unfold wrLenS at h
  split at h
  · rename_i i
    split at h
    · rename_i φ hMi
      cases h
      intro g vs hM sm hr ho
      subst hM
      have hφ : φ = wrO T E φ.bs := ho
      cases hr with | cons hv hr => cases hr with | nil =>
      cases hv with
      | ptr _ _ hi =>
      refine ⟨hent _ _, ?_⟩
      have hq := sm.opq i φ hMi
      rw [hφ] at hq
      obtain ⟨p, v, h1, h2, h3, h4, h5⟩ := WrB.at hq
      refine (hU (g.β i) g.w p v φ.bs.length (φ.bs.map (Value.int .u8)) h1 h3).mono ?_
      rintro e' w' ⟨rfl, rfl⟩
      exact ⟨_, rfl, Post.same rfl sm (.lit _)⟩
    · cases h
  · cases h
end Go.Ab
namespace Go.Proofs
open Go.RowKit Go.Ab
set_option maxHeartbeats 2000000 in
set_option maxRecDepth 100000 in
theorem Tryz.lenW (b : Nat) (w : World) (p v : Value) (n : Nat) (xs : List Value) (hb : w.heap[b]? = some (.cells #[p, v] 126 (0, 0))) (hown : w.ownsRow 0 5 1 v n xs) :
    Calls Tryz.prog 360 #[.pointer (some ⟨b, 0, none⟩)] w fun e w' => e = .returned (.int .i64 n) ∧ w' = w := by
  obtain ⟨a, cap, rfl⟩ : ∃ a cap, v = .slice a n cap := by
    rcases hown.2 with ⟨hv, h⟩ | ⟨g, cap, cur, hv, _⟩
    · subst h; exact ⟨_, _, hv⟩
    · exact ⟨_, _, hv⟩
  have c1 : w.cell? ⟨b, 1, none⟩ = some (.slice a n cap) := by rw [Lib.cell_of_heap hb]; rfl
  clear hb hown
  go_enter Tryz.func360, Tryz.ntmps360
  go_wp2
  go_ret
  exact ⟨rfl, rfl⟩
theorem gOwLen.ok : SpecOk Tryz.prog 360 (wrLenS 126 5) :=
  lenW_ok (fun args w => by kernel_rfl) Tryz.lenW
end Go.Proofs
end
section
namespace Go.Ab
open Go.Proofs
section
variable {P : Program}
/-- What a contract of a table of runs is: it holds, and asks nothing more. -/
def LibOk (P : Program) (f : FuncId) (S : Sp) : Prop := ∀ l M o, S l M = some o → CallOk P f l M o ∧ o.obl
def LibAll (P : Program) : List (FuncId × Sp) → Prop
  | [] => True
  | p :: r => LibOk P p.1 p.2 ∧ LibAll P r
def libL : List (FuncId × Sp) → Gam
  | [], _, _, _ => none
  | p :: r, f, l, M => if p.1 == f then p.2 l M else libL r f l M
theorem libL_ok : ∀ {L : List (FuncId × Sp)}, LibAll P L → ∀ f l M o, libL L f l M = some o → CallOk P f l M o ∧ o.obl
  | [], _, _, _, _, _, h => by cases h
  | p :: r, h, f, l, M, o, q => by
    unfold libL at q
    split at q
    · rename_i hf; have := eq_of_beq hf; subst this; exact h.1 l M o q
    · exact libL_ok h.2 f l M o q
theorem LibOk.chk {f : FuncId} {S : Sp} {ob : List AV → List AObj → Bool} (h : SpecOk P f S) (hob : ∀ l M o, S l M = some o → ob l M = true → o.obl) : LibOk P f (chkS S ob) := fun _ _ _ q => chkS_ok h hob q
def orS (S S' : Sp) : Sp := fun l M => match S l M with
  | some o => some o
  | none => S' l M
theorem LibOk.or {f : FuncId} {S S' : Sp} (h : LibOk P f S) (h' : LibOk P f S') : LibOk P f (orS S S') := fun l M o q => by
  unfold orS at q
  split at q
  · rename_i o' ho; cases q; exact h l M _ ho
  · exact h' l M o q

/-- What a Writer holds. -/
def wrBs (M : List AObj) : List AV → List Int
  | .ptr i 0 :: _ => match M[i]? with
    | some (.opq φ) => φ.bs
    | _ => []
  | _ => []
def textOb (T E : TypeId) (l : List AV) (M : List AObj) : Bool := isWr T E M l && decide (TextB (wrBs M l))
theorem textOb_spec {T E : TypeId} (l : List AV) (M : List AObj) (o : Out) (h : wrTextS T E l M = some o) (hb : textOb T E l M = true) : o.obl := by
  unfold textOb at hb
  simp only [Bool.and_eq_true, decide_eq_true_eq] at hb
  unfold wrTextS at h
  split at h
  · split at h
    · rename_i φ hM
      cases h
      have := hb.2
      simp only [wrBs, hM] at this
      exact ⟨isWr_spec hb.1 hM, this⟩
    · cases h
  · cases h
def lenOb (T E : TypeId) (l : List AV) (M : List AObj) : Bool := isWr T E M l
theorem lenOb_spec {T E : TypeId} (l : List AV) (M : List AObj) (o : Out) (h : wrLenS T E l M = some o) (hb : lenOb T E l M = true) : o.obl := by
  unfold wrLenS at h
  split at h
  · split at h
    · rename_i φ hM; cases h; exact isWr_spec hb hM
    · cases h
  · cases h
def putBOb (T E : TypeId) (l : List AV) (M : List AObj) : Bool := isWr T E M l && decide (AppB (lenL (wrBs M l)) 1 1)
theorem putBOb_spec {T E : TypeId} (l : List AV) (M : List AObj) (o : Out) (h : wrPutB T E l M = some o) (hb : putBOb T E l M = true) : o.obl := by
  unfold putBOb at hb
  simp only [Bool.and_eq_true, decide_eq_true_eq] at hb
  unfold wrPutB at h
  split at h
  · split at h
    · rename_i φ hM
      cases h
      have := hb.2
      simp only [wrBs, hM] at this
      exact ⟨isWr_spec hb.1 hM, this⟩
    · cases h
  · cases h
def putTOb (T E : TypeId) (l : List AV) (M : List AObj) : Bool := isWr T E M l && match l with
  | [_, .lit (.string s)] => decide (0 < lenS s) && decide (AppB (lenL (wrBs M l)) (lenS s) 1)
  | _ => false
theorem putTOb_spec {T E : TypeId} (l : List AV) (M : List AObj) (o : Out) (h : wrPutT T E l M = some o) (hb : putTOb T E l M = true) : o.obl := by
  unfold putTOb at hb
  simp only [Bool.and_eq_true] at hb
  unfold wrPutT at h
  split at h
  · split at h
    · rename_i φ hM
      cases h
      have := hb.2
      simp only [wrBs, hM, Bool.and_eq_true, decide_eq_true_eq] at this
      exact ⟨isWr_spec hb.1 hM, this⟩
    · cases h
  · cases h
def putROb (T E : TypeId) (l : List AV) (M : List AObj) : Bool := isWr T E M l && match l with
  | [_, .lit (.int _ r)] => decide (I32B r) && decide (AppB (lenL (wrBs M l)) 4 1)
  | _ => false
theorem putROb_spec {T E : TypeId} (l : List AV) (M : List AObj) (o : Out) (h : wrPutR T E l M = some o) (hb : putROb T E l M = true) : o.obl := by
  unfold putROb at hb
  simp only [Bool.and_eq_true] at hb
  unfold wrPutR at h
  split at h
  · split at h
    · rename_i φ hM
      cases h
      have := hb.2
      simp only [wrBs, hM, Bool.and_eq_true, decide_eq_true_eq] at this
      exact ⟨isWr_spec hb.1 hM, this⟩
    · cases h
  · cases h
def putSOb (T E : TypeId) (l : List AV) (M : List AObj) : Bool := isWr T E M l && match l with
  | [_, .sl els _] => numsB .u8 els && !els.isEmpty && decide (AppB (lenL (wrBs M l)) (lenL els) 1)
  | _ => false
theorem putSOb_spec {T E : TypeId} (l : List AV) (M : List AObj) (o : Out) (h : wrPutS T E l M = some o) (hb : putSOb T E l M = true) : o.obl := by
  unfold putSOb at hb
  simp only [Bool.and_eq_true] at hb
  unfold wrPutS at h
  split at h
  · split at h
    · rename_i φ hM
      cases h
      have := hb.2
      simp only [wrBs, hM, Bool.and_eq_true, decide_eq_true_eq, Bool.not_eq_true', List.isEmpty_eq_false_iff] at this
      exact ⟨isWr_spec hb.1 hM, numsB_spec this.1.1, this.1.2, this.2⟩
    · cases h
  · cases h
end
end Go.Ab
end
section
namespace Go.Ab
open Go.Proofs
theorem ixbL_eq (c : UInt8) : ∀ (l : List UInt8) (k : Int), ixbL c l k = if Lib.indexByte l c = -1 then -1 else Lib.indexByte l c + k
  | [], k => by simp [ixbL, Lib.indexByte]
  | b :: l, k => by
    have h := ixbL_eq c l (k + 1)
    have hge : ∀ l : List UInt8, Lib.indexByte l c = -1 ∨ 0 ≤ Lib.indexByte l c := fun l => by
      induction l with
      | nil => exact .inl rfl
      | cons b l ih =>
        unfold Lib.indexByte
        split
        · exact .inr (Int.le_refl _)
        · split
          · exact .inl rfl
          · rename_i h1; rcases ih with h | h
            · exact absurd (by rw [h]; rfl) h1
            · exact .inr (by omega)
    unfold ixbL Lib.indexByte
    cases hb : b == c with
    | true => simp
    | false =>
      simp only [cond_false, h, Bool.false_eq_true, if_false]
      rcases hge l with h2 | h2
      · simp [h2]
      · have : Lib.indexByte l c ≠ -1 := by omega
        have h3 : Lib.indexByte l c + 1 ≠ -1 := by omega
        simp only [this, if_false, beq_iff_eq, h3]
        omega
@[simp] def indexByteS : Sp
  | [.lit (.string s), .lit (.int .u8 c)], _ => some { av := .lit (.int .i64 (ixbS s c)) }
  | _, _ => none
end Go.Ab
namespace Go.Proofs
open Go.Ab Go.Shelf
theorem gIndexByte.ok : SpecOk Tryz.prog 56 indexByteS := by
  intro l M out h
  unfold indexByteS at h
  split at h
  · rename_i s c
    cases h
    intro g vs hM sm hr _
    cases hr with | cons hv hr => cases hr with | cons hc hr => cases hr with | nil =>
    cases hv
    cases hc
    refine ⟨by kernel_rfl, (Any.strings_IndexByte Tryz.laysIx s c g.w).mono ?_⟩
    rintro e w' ⟨rfl, rfl⟩
    refine ⟨_, rfl, Post.same rfl sm ?_⟩
    have e : Lib.indexByte s.data.toList c.toNat.toUInt8 = ixbS s c := by
      unfold ixbS
      rw [ixbL_eq]
      split
      · assumption
      · omega
    rw [e]
    exact .lit _
  · cases h
end Go.Proofs
end
