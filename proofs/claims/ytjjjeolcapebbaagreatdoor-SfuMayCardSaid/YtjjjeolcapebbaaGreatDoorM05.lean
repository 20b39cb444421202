/- What these functions compute, as plain functions. No condition. -/
import Derived.Test.YtjjjeolcapebbaaGreatDoorM07
import Derived.Test.YtjjjeolcapebbaaGreatDoorM04
import Derived.Test.YtjjjeolcapebbaaGreatDoorTy
import Derived.Test.YtjjjeolcapebbaaGreatDoorWg
import Derived.Test.YtjjjeolcapebbaaGreatDoorM03
import Derived.Test.YtjjjeolcapebbaaGreatDoorBu
section
namespace Go.Proofs
open Go.Ab
noncomputable def gReorderConfigCheck (x0 : ReorderConfig) : Option Int :=
  bif (pickB (pickB (pickB (ltI x0.fMost 1) true (ltI 1024 x0.fMost)) true (ltI x0.fWait 0)) true (ltI 1099511627776 x0.fWait)) then (
    some 5
  ) else (
    some 0
  )

noncomputable def gFrameConfigCheck (x0 : FrameConfig) : Option Int :=
  bif (pickB (pickB (pickB (pickB (pickB (ltI x0.fBytes 1) true (ltI 1048576 x0.fBytes)) true (ltI x0.fUnits 1)) true (ltI 1024 x0.fUnits)) true (ltI x0.fWait 0)) true (ltI 1099511627776 x0.fWait)) then (
    some 5
  ) else (
    some 0
  )

noncomputable def gIngressConfigCheck (x0 : IngressConfig) : Option Int :=
  ((gReorderConfigCheck (ReorderConfig.mk x0.fOrder.fMost x0.fOrder.fWait))).bind fun r1 =>
  bif (neI r1 0) then (
    some r1
  ) else (
    ((gFrameConfigCheck x0.fFrame)).bind fun r2 =>
    some r2
  )

noncomputable def gEgressConfigCheck (x0 : EgressConfig) : Option Int :=
  bif (pickB (pickB (pickB (pickB (pickB (ltI x0.fFrames 1) true (ltI 1024 x0.fFrames)) true (ltI x0.fBytes 1)) true (ltI 16777216 x0.fBytes)) true (ltI x0.fAge 1)) true (ltI 1099511627776 x0.fAge)) then (
    some 5
  ) else (
    bif (pickB (pickB (pickB (ltI x0.fMost 1) true (ltI 16777216 x0.fMost)) true (ltI x0.fGuard 1)) true (ltI 1024 x0.fGuard)) then (
      some 5
    ) else (
      some 0
    )
  )

noncomputable def gPliConfigCheck (x0 : PliConfig) : Option Int :=
  bif (pickB (pickB (ltI x0.fFirst 1) true (ltI x0.fMost x0.fFirst)) true (ltI 1073741824 x0.fMost)) then (
    some 5
  ) else (
    some 0
  )

noncomputable def gStallConfigCheck (x0 : StallConfig) : Option Int :=
  bif (pickB (pickB (pickB (ltI x0.fAfter 1) true (ltI 1099511627776 x0.fAfter)) true (ltI x0.fRest 1)) true (ltI 1099511627776 x0.fRest)) then (
    some 5
  ) else (
    some 0
  )

noncomputable def gLadderConfigCheck (x0 : LadderConfig) : Option Int :=
  bif (pickB (pickB (pickB (pickB (pickB (ltI x0.fDown 1) true (ltI 1048576 x0.fDown)) true (ltI x0.fUp 1)) true (ltI 1048576 x0.fUp)) true (ltI x0.fSpare 0)) true (ltI 100 x0.fSpare)) then (
    some 5
  ) else (
    some 0
  )

noncomputable def gCmpIsNaNInt (x0 : Int) : Option Bool :=
  some (neI x0 x0)

noncomputable def gCmpLessInt (x0 : Int) (x1 : Int) : Option Bool :=
  ((gCmpIsNaNInt x0)).bind fun r1 =>
  need (Under r1 true ((gCmpIsNaNInt x1).isSome = true)) <|
  some (pickB (pickB r1 (notB ((gCmpIsNaNInt x1).getD dflt)) false) true (ltI x0 x1))

noncomputable def gSlicesIsSortedIntInt.loop1 (x0 : List Int) (s1 : Int) : Option (Fl Int (Fl Unit Bool)) :=
  bif (ltI 0 s1) then (
    need (InB s1 (lenL x0)) <|
    need (InB (subI .i64 s1 1) (lenL x0)) <|
    ((gCmpLessInt (nthI x0 s1) (nthI x0 (subI .i64 s1 1)))).bind fun r1 =>
    bif r1 then (
      some (.out (.out false))
    ) else (
      some (.go (subI .i64 s1 1))
    )
  ) else (
    some (.out (.go ()))
  )

noncomputable def gSlicesIsSortedIntInt (x0 : List Int) : Option Bool :=
  ((loopF (gSlicesIsSortedIntInt.loop1 x0) (subI .i64 (lenL x0) 1)).bind fun f => flC f fun (_v1 : Unit) =>
    some true
  )

noncomputable def gLadderLadderStep (x0 : LadderLadder) (x1 : Int) : Option LadderLadder :=
  some (LadderLadder.mk x0.fConfig x0.fNeeds x1 x0.fMost 0 0 (addI .i64 x0.fMoves 1))

noncomputable def gLadderLadderWant (x0 : LadderLadder) (x1 : Int) : Option (Bool × LadderLadder) :=
  bif (leqI x0.fAt (minI (maxI x1 0) (subI .i64 (lenL x0.fNeeds) 1))) then (
    some (false, (LadderLadder.mk x0.fConfig x0.fNeeds x0.fAt (minI (maxI x1 0) (subI .i64 (lenL x0.fNeeds) 1)) x0.fBad x0.fGood x0.fMoves))
  ) else (
    ((gLadderLadderStep (LadderLadder.mk x0.fConfig x0.fNeeds x0.fAt (minI (maxI x1 0) (subI .i64 (lenL x0.fNeeds) 1)) x0.fBad x0.fGood x0.fMoves) (minI (maxI x1 0) (subI .i64 (lenL x0.fNeeds) 1)))).bind fun r1 =>
    some (true, r1)
  )

noncomputable def gLadderNew (x0 : LadderConfig) (x1 : Int) (x2 : List Int) : Option (Option LadderLadder × Int) :=
  ((gLadderConfigCheck x0)).bind fun r1 =>
  bif (neI r1 0) then (
    some (none, r1)
  ) else (
    need (Under (pickB (ltI (lenL x2) 1) true (ltI 3 (lenL x2))) false ((gSlicesIsSortedIntInt x2).isSome = true)) <|
    need (Under (pickB (pickB (ltI (lenL x2) 1) true (ltI 3 (lenL x2))) true (notB ((gSlicesIsSortedIntInt x2).getD dflt))) false (InB 0 (lenL x2))) <|
    need (Under (pickB (pickB (pickB (ltI (lenL x2) 1) true (ltI 3 (lenL x2))) true (notB ((gSlicesIsSortedIntInt x2).getD dflt))) true (ltI (nthI x2 0) 0)) false (InB (subI .i64 (lenL x2) 1) (lenL x2))) <|
    bif (pickB (pickB (pickB (pickB (ltI (lenL x2) 1) true (ltI 3 (lenL x2))) true (notB ((gSlicesIsSortedIntInt x2).getD dflt))) true (ltI (nthI x2 0) 0)) true (ltI 1099511627776 (nthI x2 (subI .i64 (lenL x2) 1)))) then (
      some (none, 5)
    ) else (
      need (AppB 0 (lenL x2) 8) <|
      ((gLadderLadderWant (LadderLadder.mk x0 x2 0 0 0 0 0) x1)).bind fun r2 =>
      some ((some (LadderLadder.mk r2.2.fConfig r2.2.fNeeds r2.2.fMost r2.2.fMost r2.2.fBad r2.2.fGood r2.2.fMoves)), 0)
    )
  )

noncomputable def gRateNew (x0 : Int) : Option (Option RateMeter × Int) :=
  bif (pickB (ltI x0 1) true (ltI 1048576 x0)) then (
    some (none, 5)
  ) else (
    some ((some (RateMeter.mk x0 [] 0 0 0)), 0)
  )
end Go.Proofs
end
section
namespace Go.Proofs
open Go.Ab
@[simp] def gRingNew.out (r : Option Unit × Int) : Out := { av := .tup [(optC r.1 (.lit (.pointer none)) fun _ => .ptr 1 0), .lit (.int .i64 r.2)], M := some (optC r.1 [] fun _ => [.dead, .dead]) }
set_option maxHeartbeats 4000000 in
set_option maxRecDepth 100000 in
theorem gRingNew.can (x0 x1 x2 : Int) (r : Option Unit × Int) (hr : gRingNew x0 x1 x2 = some r) : CallOk Tryz.prog 19 [.lit (.int .i64 x0), .lit (.int .i64 x1), .lit (.int .i64 x2)] [] (gRingNew.out r) := by
  unfold gRingNew at hr
  have hΓ := gamL_nil (P := Tryz.prog)
  refine cw Tryz.func19 rfl (by kernel_rfl) rfl rfl (by simp) fun _ _ _ => ?_
  refine tq hΓ [] [] ?_
  refine AWp.seq ?_
  refine tq hΓ [21] [] ?_
  refine AWp.cnd hr (by simp) (fun h1 hr => ?_) (fun h1 hr => ?_)
  · refine tq hΓ [6, 7] [21, 0, 1, 2] ?_ (by simp [h1]; exact rr)
    obtain rfl := some_inj hr
    exact AWp.ret (fin_ret (by simp))
  · refine AWp.skip ?_
    have h2 : 1 ≤ x0 ∧ x0 ≤ 4096 := by
      rcases Int.lt_or_le x0 1 with h | h
      · simp [pickB, ltI, h] at h1
      · rcases Int.lt_or_le 4096 x0 with h' | h'
        · simp [pickB, ltI, h'] at h1
        · exact ⟨h, h'⟩
    have hb : RepB x0 x0 40 := ⟨by omega, rfl, by omega, by omega⟩
    refine tq hΓ [6, 7] [21, 0, 1, 2] ?_ (by simp [h1, hb]; exact rr)
    obtain rfl := some_inj hr
    exact AWp.ret (fin_ret (by simp))
@[simp] noncomputable def gRingNew.S : Sp
  | [.lit (.int .i64 x0), .lit (.int .i64 x1), .lit (.int .i64 x2)], M => some { av := .tup [(optC (((gRingNew x0 x1 x2).getD dflt).1) (.lit (.pointer none)) fun _ => .ptr (M.length + 1) 0), .lit (.int .i64 (((gRingNew x0 x1 x2).getD dflt).2))], M := some (optC (((gRingNew x0 x1 x2).getD dflt).1) M fun _ => M ++ [.dead, .dead]), obl := (gRingNew x0 x1 x2).isSome = true }
  | _, _ => none
set_option maxHeartbeats 1000000 in
theorem gRingNew.ok : SpecOk Tryz.prog 19 gRingNew.S := by
  intro l M out h
  unfold gRingNew.S at h
  split at h
  · rename_i x0 x1 x2
    cases h
    refine callOk_of fun ho => ?_
    have hs := ho
    obtain ⟨r, hr⟩ := so1 hs
    simp only [hr, gd1]
    have q := call_frame (M := M) [] (gRingNew.can x0 x1 x2 r hr) (by simp) rfl ixn
    cases hc : r.1 with
    | none => exact callOk_conv q trivial (by simp) (by simp [hc, frameOut]) (by simp [hc, frameOut])
    | some m0 => exact callOk_conv q trivial (by simp) (by simp [hc, frameOut, into]) (by simp [hc, frameOut, into])
  · cases h
end Go.Proofs
end
section
namespace Go.Ab
open Go.Proofs Go.RowKit

/-- How many bytes there are. -/
@[simp] def wrLenS (T E : TypeId) : Sp
  | [.ptr i 0], M => match M[i]? with
    | some (.opq φ) => some { av := .lit (.int .i64 (lenL φ.bs)), obl := φ = wrO T E φ.bs }
    | _ => none
  | _, _ => none
theorem lenW_ok {P : Program} {f : FuncId} {T E : TypeId} (hent : ∀ args w, (callFunc f args).run P w = .ok (.enter f args) w)
    (hU : ∀ (b : Nat) (w : World) (p v : Value) (n : Nat) (xs : List Value), w.heap[b]? = some (.cells #[p, v] T (0, 0)) → w.ownsRow 0 E 1 v n xs →
      Calls P f #[.pointer (some ⟨b, 0, none⟩)] w fun e w' => e = .returned (.int .i64 n) ∧ w' = w) : SpecOk P f (wrLenS T E) := by
  intro l M out h
  unfold wrLenS at h
  split at h
  · rename_i i
    split at h
    · rename_i φ hMi
      cases h
      intro g vs hM sm hr ho
      subst hM
      have hφ : φ = wrO T E φ.bs := ho
      cases hr with | cons hv hr => cases hr with | nil =>
      cases hv with
      | ptr _ _ hi =>
      refine ⟨hent _ _, ?_⟩
      have hq := sm.opq i φ hMi
      rw [hφ] at hq
      obtain ⟨p, v, h1, h2, h3, h4, h5⟩ := WrB.at hq
      refine (hU (g.β i) g.w p v φ.bs.length (φ.bs.map (Value.int .u8)) h1 h3).mono ?_
      rintro e' w' ⟨rfl, rfl⟩
      exact ⟨_, rfl, Post.same rfl sm (.lit _)⟩
    · cases h
  · cases h
end Go.Ab
namespace Go.Proofs
open Go.RowKit Go.Ab
set_option maxHeartbeats 2000000 in
set_option maxRecDepth 100000 in
theorem Tryz.lenW (b : Nat) (w : World) (p v : Value) (n : Nat) (xs : List Value) (hb : w.heap[b]? = some (.cells #[p, v] 143 (0, 0))) (hown : w.ownsRow 0 5 1 v n xs) :
    Calls Tryz.prog 199 #[.pointer (some ⟨b, 0, none⟩)] w fun e w' => e = .returned (.int .i64 n) ∧ w' = w := by
  obtain ⟨a, cap, rfl⟩ : ∃ a cap, v = .slice a n cap := by
    rcases hown.2 with ⟨hv, h⟩ | ⟨g, cap, cur, hv, _⟩
    · subst h; exact ⟨_, _, hv⟩
    · exact ⟨_, _, hv⟩
  have c1 : w.cell? ⟨b, 1, none⟩ = some (.slice a n cap) := by rw [Lib.cell_of_heap hb]; rfl
  clear hb hown
  go_enter Tryz.func199, Tryz.ntmps199
  go_wp2
  go_ret
  exact ⟨rfl, rfl⟩
theorem gOwLen.ok : SpecOk Tryz.prog 199 (wrLenS 143 5) :=
  lenW_ok (fun args w => by kernel_rfl) Tryz.lenW
end Go.Proofs
end
section
namespace Go.Ab
open Go.Proofs
section
variable {P : Program}
/-- What a contract of a table of runs is: it holds, and asks nothing more. -/
def LibOk (P : Program) (f : FuncId) (S : Sp) : Prop := ∀ l M o, S l M = some o → CallOk P f l M o ∧ o.obl
def LibAll (P : Program) : List (FuncId × Sp) → Prop
  | [] => True
  | p :: r => LibOk P p.1 p.2 ∧ LibAll P r
def libL : List (FuncId × Sp) → Gam
  | [], _, _, _ => none
  | p :: r, f, l, M => if p.1 == f then p.2 l M else libL r f l M
theorem libL_ok : ∀ {L : List (FuncId × Sp)}, LibAll P L → ∀ f l M o, libL L f l M = some o → CallOk P f l M o ∧ o.obl
  | [], _, _, _, _, _, h => by cases h
  | p :: r, h, f, l, M, o, q => by
    unfold libL at q
    split at q
    · rename_i hf; have := eq_of_beq hf; subst this; exact h.1 l M o q
    · exact libL_ok h.2 f l M o q
theorem LibOk.chk {f : FuncId} {S : Sp} {ob : List AV → List AObj → Bool} (h : SpecOk P f S) (hob : ∀ l M o, S l M = some o → ob l M = true → o.obl) : LibOk P f (chkS S ob) := fun _ _ _ q => chkS_ok h hob q
def orS (S S' : Sp) : Sp := fun l M => match S l M with
  | some o => some o
  | none => S' l M
theorem LibOk.or {f : FuncId} {S S' : Sp} (h : LibOk P f S) (h' : LibOk P f S') : LibOk P f (orS S S') := fun l M o q => by
  unfold orS at q
  split at q
  · rename_i o' ho; cases q; exact h l M _ ho
  · exact h' l M o q

/-- What a Writer holds. -/
def wrBs (M : List AObj) : List AV → List Int
  | .ptr i 0 :: _ => match M[i]? with
    | some (.opq φ) => φ.bs
    | _ => []
  | _ => []
def textOb (T E : TypeId) (l : List AV) (M : List AObj) : Bool := isWr T E M l && decide (TextB (wrBs M l))
theorem textOb_spec {T E : TypeId} (l : List AV) (M : List AObj) (o : Out) (h : wrTextS T E l M = some o) (hb : textOb T E l M = true) : o.obl := by
  unfold textOb at hb
  simp only [Bool.and_eq_true, decide_eq_true_eq] at hb
  unfold wrTextS at h
  split at h
  · split at h
    · rename_i φ hM
      cases h
      have := hb.2
      simp only [wrBs, hM] at this
      exact ⟨isWr_spec hb.1 hM, this⟩
    · cases h
  · cases h
def lenOb (T E : TypeId) (l : List AV) (M : List AObj) : Bool := isWr T E M l
theorem lenOb_spec {T E : TypeId} (l : List AV) (M : List AObj) (o : Out) (h : wrLenS T E l M = some o) (hb : lenOb T E l M = true) : o.obl := by
  unfold wrLenS at h
  split at h
  · split at h
    · rename_i φ hM; cases h; exact isWr_spec hb hM
    · cases h
  · cases h
def putBOb (T E : TypeId) (l : List AV) (M : List AObj) : Bool := isWr T E M l && decide (AppB (lenL (wrBs M l)) 1 1)
theorem putBOb_spec {T E : TypeId} (l : List AV) (M : List AObj) (o : Out) (h : wrPutB T E l M = some o) (hb : putBOb T E l M = true) : o.obl := by
  unfold putBOb at hb
  simp only [Bool.and_eq_true, decide_eq_true_eq] at hb
  unfold wrPutB at h
  split at h
  · split at h
    · rename_i φ hM
      cases h
      have := hb.2
      simp only [wrBs, hM] at this
      exact ⟨isWr_spec hb.1 hM, this⟩
    · cases h
  · cases h
def putTOb (T E : TypeId) (l : List AV) (M : List AObj) : Bool := isWr T E M l && match l with
  | [_, .lit (.string s)] => decide (0 < lenS s) && decide (AppB (lenL (wrBs M l)) (lenS s) 1)
  | _ => false
theorem putTOb_spec {T E : TypeId} (l : List AV) (M : List AObj) (o : Out) (h : wrPutT T E l M = some o) (hb : putTOb T E l M = true) : o.obl := by
  unfold putTOb at hb
  simp only [Bool.and_eq_true] at hb
  unfold wrPutT at h
  split at h
  · split at h
    · rename_i φ hM
      cases h
      have := hb.2
      simp only [wrBs, hM, Bool.and_eq_true, decide_eq_true_eq] at this
      exact ⟨isWr_spec hb.1 hM, this⟩
    · cases h
  · cases h
def putROb (T E : TypeId) (l : List AV) (M : List AObj) : Bool := isWr T E M l && match l with
  | [_, .lit (.int _ r)] => decide (I32B r) && decide (AppB (lenL (wrBs M l)) 4 1)
  | _ => false
theorem putROb_spec {T E : TypeId} (l : List AV) (M : List AObj) (o : Out) (h : wrPutR T E l M = some o) (hb : putROb T E l M = true) : o.obl := by
  unfold putROb at hb
  simp only [Bool.and_eq_true] at hb
  unfold wrPutR at h
  split at h
  · split at h
    · rename_i φ hM
      cases h
      have := hb.2
      simp only [wrBs, hM, Bool.and_eq_true, decide_eq_true_eq] at this
      exact ⟨isWr_spec hb.1 hM, this⟩
    · cases h
  · cases h
def putSOb (T E : TypeId) (l : List AV) (M : List AObj) : Bool := isWr T E M l && match l with
  | [_, .sl els _] => numsB .u8 els && !els.isEmpty && decide (AppB (lenL (wrBs M l)) (lenL els) 1)
  | _ => false
theorem putSOb_spec {T E : TypeId} (l : List AV) (M : List AObj) (o : Out) (h : wrPutS T E l M = some o) (hb : putSOb T E l M = true) : o.obl := by
  unfold putSOb at hb
  simp only [Bool.and_eq_true] at hb
  unfold wrPutS at h
  split at h
  · split at h
    · rename_i φ hM
      cases h
      have := hb.2
      simp only [wrBs, hM, Bool.and_eq_true, decide_eq_true_eq, Bool.not_eq_true', List.isEmpty_eq_false_iff] at this
      exact ⟨isWr_spec hb.1 hM, numsB_spec this.1.1, this.1.2, this.2⟩
    · cases h
  · cases h
end
end Go.Ab
end
section
namespace Go.Ab
section
variable {P : Program}
theorem LibOk.free {f : FuncId} {S : Sp} (h : SpecOk P f S) (hob : ∀ l M o, S l M = some o → o.obl) : LibOk P f S := fun l M o q => ⟨fun g vs hM sm hr _ => h l M o q g vs hM sm hr (hob l M o q), hob l M o q⟩
theorem keysS_free {k : Nat} (l : List AV) (M : List AObj) (o : Out) (h : keysS k l M = some o) : o.obl := by
  unfold keysS at h
  split at h
  · split at h <;> first | (cases h; trivial) | cases h
  · cases h
instance (l : List Int) : Decidable (KeysB l) := inferInstanceAs (Decidable ((∀ x ∈ l, (Lit.int .i64 x).wf = true) ∧ l.length * 8 ≤ 140737488355328))
instance (l : List ByteArray) : Decidable (KeysBS l) := inferInstanceAs (Decidable ((∀ x ∈ l, x.size ≤ maxLen) ∧ l.length * 16 ≤ 140737488355328))
def isI64 : AV → Bool
  | .lit (.int .i64 _) => true
  | _ => false
theorem isI64_spec {a : AV} (h : isI64 a = true) : a = kI .i64 (dkI a) := by
  unfold isI64 at h
  split at h
  · rfl
  · cases h
def isStr : AV → Bool
  | .lit (.string _) => true
  | _ => false
theorem isStr_spec {a : AV} (h : isStr a = true) : a = kS (dkS a) := by
  unfold isStr at h
  split at h
  · rfl
  · cases h
def sortedOb (l : List AV) (M : List AObj) : Bool := match l with
  | [.fn _ [.mp i]] => match M[i]? with
    | some (.mapo es) => (es.all fun e => isI64 e.1) && decide (KeysB (keysV es))
    | _ => false
  | _ => false
theorem sortedOb_spec {k : Nat} (l : List AV) (M : List AObj) (o : Out) (h : sortedS k l M = some o) (hb : sortedOb l M = true) : o.obl := by
  unfold sortedS at h
  split at h
  · rename_i k' i
    split at h
    · split at h
      · rename_i es hM
        cases h
        simp only [sortedOb, hM, Bool.and_eq_true, decide_eq_true_eq] at hb
        exact ⟨fun e he => isI64_spec (List.all_eq_true.1 hb.1 e he), hb.2⟩
      · rename_i Q hM
        simp only [sortedOb, hM] at hb
        cases hb
      · cases h
    · cases h
  · cases h
def sortedSOb (l : List AV) (M : List AObj) : Bool := match l with
  | [.fn _ [.mp i]] => match M[i]? with
    | some (.mapo es) => (es.all fun e => isStr e.1) && decide (KeysBS (keysVS es))
    | _ => false
  | _ => false
theorem sortedSOb_spec {k : Nat} (l : List AV) (M : List AObj) (o : Out) (h : sortedSS k l M = some o) (hb : sortedSOb l M = true) : o.obl := by
  unfold sortedSS at h
  split at h
  · rename_i k' i
    split at h
    · split at h
      · rename_i es hM
        cases h
        simp only [sortedSOb, hM, Bool.and_eq_true, decide_eq_true_eq] at hb
        exact ⟨fun e he => isStr_spec (List.all_eq_true.1 hb.1 e he), hb.2⟩
      · cases h
    · cases h
  · cases h
def cloneOb (n b : Nat) (l : List AV) (M : List AObj) : Bool := match l with
  | [.sl els _] => lensB n els && decide (AppB 0 (lenL els) b) && !marked M
  | _ => false
theorem cloneOb_spec {n b : Nat} (l : List AV) (M : List AObj) (o : Out) (h : cloneS n b l M = some o) (hb : cloneOb n b l M = true) : o.obl := by
  unfold cloneS at h
  split at h
  · cases h
    simp only [cloneOb, Bool.and_eq_true, decide_eq_true_eq, Bool.not_eq_true'] at hb
    exact ⟨lensB_spec hb.1.1, hb.1.2, hb.2⟩
  · cases h
end
end Go.Ab
end
