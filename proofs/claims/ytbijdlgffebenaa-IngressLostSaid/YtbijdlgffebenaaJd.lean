/- A packet in its order, and the frames that it makes whole: the program's and the document's rule are one. No condition. -/
import Derived.Test.YtbijdlgffebenaaQ08
import Derived.Test.YtbijdlgffebenaaQ06
import Derived.Test.YtbijdlgffebenaaFz
import Derived.Test.YtbijdlgffebenaaQ09
import Derived.Test.YtbijdlgffebenaaQ11
namespace Go.Proofs
open Go.Ab

theorem loop_len (x : ByteArray) (n : Nat) : ∀ i r, x.size - i = n → (ByteArray.toList.loop x i r).length = r.length + (x.size - i) := by
  induction n with
  | zero =>
    intro i r h
    rw [ByteArray.toList.loop]
    rw [if_neg (by omega)]
    simp; omega
  | succ n ih =>
    intro i r h
    rw [ByteArray.toList.loop, if_pos (by omega), ih (i+1) _ (by omega)]
    simp; omega
theorem toList_len (x : ByteArray) : x.toList.length = x.size := by
  unfold ByteArray.toList
  rw [loop_len x _ 0 [] rfl]; simp
theorem toList_nil (x : ByteArray) : (x.toList == (⟨#[]⟩ : ByteArray).toList) = decide (lenS x < 1) := by
  have h0 : (⟨#[]⟩ : ByteArray).toList = [] := List.eq_nil_of_length_eq_zero (toList_len _)
  rw [h0]
  have hl := toList_len x
  unfold lenS
  cases hx : x.toList with
  | nil => rw [hx] at hl; simp only [List.length_nil] at hl; rw [decide_eq_true (by omega)]; rfl
  | cons a r => rw [hx] at hl; simp only [List.length_cons] at hl; rw [decide_eq_false (by omega)]; rfl
theorem eqS_empty (x : ByteArray) : eqS x ⟨#[]⟩ = decide (lenS x < 1) := toList_nil x
theorem neS_empty (x : ByteArray) : neS x ⟨#[]⟩ = decide (0 < lenS x) := by
  show (!(x.toList == (⟨#[]⟩ : ByteArray).toList)) = _
  rw [toList_nil]
  by_cases h : lenS x < 1
  · rw [decide_eq_true h, decide_eq_false (by omega)]; rfl
  · rw [decide_eq_false h, decide_eq_true (by omega)]; rfl

abbrev Pk := Tb
abbrev Came := Tx
def zeroPk : Pk := .mk false 0 0 0 0 [] false 0 ⟨#[]⟩ ⟨#[]⟩ 0
def normP (p : Pk) : Pk := if lenS p.fF < 1 then .mk false p.fab p.ff p.fQ p.fac p.faa p.fae p.fY p.fad p.fF p.fZ else p
def findP : List Came → Int → Pk
  | [], _ => zeroPk
  | c :: r, k => if c.fAt = k then c.fP else findP r k
structure POk (p : Pk) : Prop where
  s0 : 0 ≤ p.ff
  s1 : p.ff < 65536
  t0 : 0 ≤ p.fQ
  t1 : p.fQ < 4294967296
  tx : lenS p.fF ≤ 40
theorem zero_ok : POk zeroPk := ⟨by decide, by decide, by decide, by decide, by decide⟩
theorem findP_ok : ∀ {L : List Came}, (∀ c ∈ L, POk c.fP) → ∀ k, POk (findP L k)
  | [], _, _ => zero_ok
  | c :: r, h, k => by
    unfold findP
    split
    · exact h c (.head _)
    · exact findP_ok (fun c hc => h c (.tail _ hc)) k
theorem dropC {α : Type} [Inhabited α] {L : List α} {i : Nat} (h : i < L.length) : L.drop i = nthI L (i : Int) :: L.drop (i + 1) := by
  rw [List.drop_eq_getElem_cons h]
  simp [nthI, h]
theorem find_plain (L : List Came) (k : Int) (hl : L.length ≤ 2000000) : gau L k = some (findP L k) := by
  have key : ∀ (n i : Nat), L.length - i = n → i ≤ L.length → ((loopF (gau.loop1 L k) (i : Int)).bind fun f => flC f fun (_ : Unit) => some (Tb.mk false 0 0 0 0 [] false 0 ⟨#[]⟩ ⟨#[]⟩ 0)) = some (findP (L.drop i) k) := by
    intro n
    induction n with
    | zero =>
      intro i hn hi
      have : i = L.length := by omega
      subst this
      have : gau.loop1 L k (L.length : Int) = some (.out (.go ())) := by
        unfold gau.loop1
        rw [ltI_d, lenL_def, decide_eq_false (by omega), cond_false]
      rw [loopF_eq, this, List.drop_length]; rfl
    | succ n ih =>
      intro i hn hi
      have hlt : i < L.length := by omega
      rw [dropC hlt]
      unfold findP
      by_cases hk : (nthI L (i : Int)).fAt = k
      · have : gau.loop1 L k (i : Int) = some (.out (.out (nthI L (i : Int)).fP)) := by
          unfold gau.loop1
          rw [ltI_d, lenL_def, decide_eq_true (by omega), cond_true, Le ⟨by omega, by omega⟩, eqI_d, decide_eq_true hk, cond_true]
        rw [loopF_eq, this, if_pos hk]; rfl
      · have : gau.loop1 L k (i : Int) = some (.go ((i + 1 : Nat) : Int)) := by
          unfold gau.loop1
          rw [ltI_d, lenL_def, decide_eq_true (by omega), cond_true, Le ⟨by omega, by omega⟩, eqI_d, decide_eq_false hk, cond_false, addI_n (by omega) (by omega)]
          congr 1
        rw [loopF_eq, this, if_neg hk]
        dsimp only
        exact ih (i + 1) (by omega) (by omega)
  have := key L.length 0 rfl (Nat.zero_le _)
  rw [List.drop_zero] at this
  exact this

/-! ### A descriptor -/
set_option maxHeartbeats 4000000 in
theorem parse_some (s : ByteArray) : ∃ r, gay s = some r := by
  unfold gay
  simp only [Lb, rtake, Le (nz (show (32 : Int) ≠ 0 by decide)), Le (nz (show (2 : Int) ≠ 0 by decide)), Le (nz (show (16 : Int) ≠ 0 by decide)), Le (nz (show (8 : Int) ≠ 0 by decide))]
  have fin : ∀ (x : Option (Ts × Td)), (∃ y, x = some y) → ∃ r, (x.bind fun r3 => bif neI r3.1.fE 0 then some ((Td.mk false false 0 0 false 0 0 false 0), (⟨#[]⟩ : ByteArray), r3.1.fE) else some (r3.2, r3.1.fS, 0)) = some r := by
    rintro x ⟨y, rfl⟩
    rw [Lb]
    cases neI y.1.fE 0 <;> exact ⟨_, rfl⟩
  have last : ∀ (r : Ts) (d : Td) (b : Int), ∃ y, gaF r d b = some y := by
    intro r d b
    obtain ⟨t, e⟩ := r
    unfold gaF gaE
    simp only [Le (nz (show (128 : Int) ≠ 0 by decide)), Le (nz (show (64 : Int) ≠ 0 by decide)), Le (nz (show (32 : Int) ≠ 0 by decide)), Le (nz (show (2 : Int) ≠ 0 by decide)), Le (nz (show (16 : Int) ≠ 0 by decide)), Le (nz (show (4 : Int) ≠ 0 by decide)), Lb, rtake]
    cases h2 : eqI (quoI .i64 b 128) 1 <;> cases h3 : ltI 127 (u8P t e).1
    all_goals simp only [cond_true, cond_false, Lb, flC_go, rtake]
    all_goals (
      cases h4 : eqI (remI (quoI .i64 b 64) 2) 1 <;> simp only [cond_true, cond_false, Lb, flC_go, rtake] <;>
      cases h5 : ltI 0 (remI (quoI .i64 b 16) 4) <;> simp only [cond_true, cond_false, Lb, flC_go] <;>
      cases h6 : eqI (remI (quoI .i64 b 32) 2) 1 <;> (try simp only [cond_true, cond_false, Lb, flC_go]) <;>
      cases h7 : eqI (remI (quoI .i64 b 16) 2) 1 <;> exact ⟨_, rfl⟩)
  cases h1 : ltI 127 (u8P s 0).1
  · simp only [cond_false, Lb, flC_go]
    exact fin _ (last _ _ _)
  · simp only [cond_true, Lb, flC_go]
    exact fin _ (last _ _ _)
noncomputable def parsP (s : ByteArray) : Td × ByteArray × Int := (parse_some s).choose
theorem rparse (s : ByteArray) : gay s = some (parsP s) := (parse_some s).choose_spec
theorem oparse (s : ByteArray) : gah s = some (parsP s) := (parse_eq s).trans (rparse s)

def keyP (d : Td) (rest : ByteArray) : Bool := d.fy && decide (d.fG = 0) && decide (0 < lenS rest) && eqI (remI (idxS rest 0) 2) 0
set_option maxRecDepth 100000 in
theorem bit0 {b : Int} (h0 : 0 ≤ b) (h1 : b < 256) : eqI (bitsOp .and .u8 b 1) 0 = eqI (remI b 2) 0 := byteD (p := fun b => eqI (bitsOp .and .u8 b 1) 0 = eqI (remI b 2) 0) (by decide) h0 h1
theorem okey (d : Td) (rest : ByteArray) : gaf d rest = some (keyP d rest) := by
  unfold gaf keyP
  have hr := idxS_r rest 0
  rw [neS_empty, bit0 hr.1 hr.2, eqI_d, pickB_and, pickB_and, pickB_and]
  have hu : Under (d.fy && decide (d.fG = 0) && decide (0 < lenS rest)) true (InB 0 (lenS rest)) := fun h => by
    simp only [Bool.and_eq_true, decide_eq_true_eq] at h
    exact ⟨by omega, h.2⟩
  rw [Le hu]
theorem rkey (d : Td) (rest : ByteArray) : gaQ d rest = some (keyP d rest) := by
  unfold gaQ keyP
  rw [ltI_d, eqI_d, pickB_and, pickB_and, pickB_and]
  have hu : Under (d.fy && decide (d.fG = 0) && decide (0 < lenS rest)) true (InB 0 (lenS rest)) := fun h => by
    simp only [Bool.and_eq_true, decide_eq_true_eq] at h
    exact ⟨by omega, h.2⟩
  rw [Le hu, Le (under_of (show NonZ 2 by decide))]

/-! ### A packet in its order -/
noncomputable def unitM (video : Bool) (ck : Int) (L : List Came) (t : Thg) : Un × Int :=
  let p := findP L t.fAt
  let r := parsP p.fF
  let v := video && decide (r.2.2 = 0)
  (.mk t.fAt (clkM ck p.fQ).2 (p.fA && decide (0 < lenS p.fF)) (v && (r.1.fy && decide (r.1.fG = 0))) (v && keyP r.1 r.2.1) p.fF t.fO, (clkM ck p.fQ).1)

theorem runit (X : Te) (t : Thg) (hL : ∀ c ∈ X.fL, POk c.fP) (hl : X.fL.length ≤ 2000000) :
    gaM X t = some (Te.mk X.ff (unitM X.fc.fu X.fh X.fL t).2 X.fo X.fc X.fL X.fp X.fm, (unitM X.fc.fu X.fh X.fL t).1) := by
  have ho := findP_ok hL t.fAt
  unfold gaM unitM
  rw [find_plain _ _ hl, Lb]
  dsimp only
  have ct : cvtI .i64 (findP X.fL t.fAt).fQ = (findP X.fL t.fAt).fQ := by
    have := ho.t0; have := ho.t1
    exact Lu (by omega) (by omega)
  rw [ct, rclk _ _ ho.t0 ho.t1, Lb, rparse, Lb, pickB_and, pickB_and, pickB_and, eqI_d, eqI_d, neS_empty, rkey]
  cases hv : (X.fc.fu && decide ((parsP (findP X.fL t.fAt).fF).2.2 = 0))
  · rw [cond_false, Lb, flC_go]; simp only [Bool.false_and]
  · rw [cond_true, Lb, Lb, flC_go]; simp only [Bool.true_and]

theorem norm_payload (p : Pk) : (normP p).fF = p.fF ∧ (normP p).fQ = p.fQ ∧ (normP p).fA = (p.fA && decide (0 < lenS p.fF)) := by
  unfold normP
  by_cases h : lenS p.fF < 1
  · rw [if_pos h, decide_eq_false (by omega), Bool.and_false]; exact ⟨rfl, rfl, rfl⟩
  · rw [if_neg h, decide_eq_true (by omega), Bool.and_true]; exact ⟨rfl, rfl, rfl⟩

theorem ounit (s : Tf) (t : Thg) (ck : Int) (L : List Came) (hL : ∀ c ∈ L, POk c.fP) (hc : ClkRel s.fh ck) (hg : getM eqI t.fAt zeroPk s.fOf = normP (findP L t.fAt)) :
    ∃ c', gE s t = some ((unitM s.fc.fb.fu ck L t).1, Tf.mk s.fa s.fc s.ff c' (delM eqI t.fAt s.fOf) s.fp s.fm) ∧ ClkRel c' (unitM s.fc.fb.fu ck L t).2 := by
  have ho := findP_ok hL t.fAt
  obtain ⟨n1, n2, n3⟩ := norm_payload (findP L t.fAt)
  obtain ⟨c', e1, e2⟩ := oclk (s := Tf.mk s.fa s.fc s.ff s.fh (delM eqI t.fAt s.fOf) s.fp s.fm) hc ho.t0 ho.t1
  refine ⟨c', ?_, e2⟩
  have hz : (Tb.mk false 0 0 0 0 [] false 0 ⟨⟨[]⟩⟩ ⟨⟨[]⟩⟩ 0) = zeroPk := rfl
  unfold gE unitM
  rw [hz, hg, n1, n2, n3, e1, Lb]
  dsimp only
  rw [oparse, Lb, pickB_and, pickB_and, eqI_d, eqI_d, okey]
  cases hv : (s.fc.fb.fu && decide ((parsP (findP L t.fAt).fF).2.2 = 0))
  · rw [cond_false, Lb, flC_go]; simp only [Bool.false_and]
  · rw [cond_true, Lb, Lb, flC_go]; simp only [Bool.true_and]
end Go.Proofs
