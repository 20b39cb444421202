/- Runs on fixed data, in parts: a part's run is shown by itself, and handed to the next one as a contract at just that memory. No condition: over any program. -/
import Derived.Test.YtjjjeolcapebbaaGreatDoorM03
namespace Go.Ab
abbrev AV.i (n : Int) : AV := .lit (.int .i64 n)
abbrev AV.k (k : IntKind) (n : Int) : AV := .lit (.int k n)
abbrev AV.b (b : Bool) : AV := .lit (.bool b)
abbrev AV.s (l : List UInt8) : AV := .lit (.string ⟨l.toArray⟩)
/-- A memory, of which some objects have turned, and to which some have come. -/
def updM : List AObj → List (Nat × AObj) → List AObj → List AObj
  | M, [], N => M ++ N
  | M, (i, o) :: r, N => updM (M.set i o) r N
/-- The run of a part. -/
structure Seg where
  f : FuncId
  l : List AV
  M : List AObj
  av : AV
  M' : Option (List AObj)
def Seg.out (s : Seg) : Out := { av := s.av, M := s.M' }
def deadB : AObj → Bool
  | .dead => true
  | _ => false
theorem deadB_eq {o : AObj} (h : deadB o = true) : o = .dead := by
  unfold deadB at h
  split at h
  · rfl
  · cases h
def dmB : List AObj → List AObj → Bool
  | [], [] => true
  | a :: l, b :: m => (deadB b || objE a b) && dmB l m
  | _, _ => false
theorem dmB_w : ∀ {l m : List AObj}, dmB l m = true → WMem l m
  | [], [], _ => .nil
  | a :: l, b :: m, h => by
    simp only [dmB, Bool.and_eq_true, Bool.or_eq_true] at h
    refine .cons ?_ (dmB_w h.2)
    rcases h.1 with q | q
    · rw [deadB_eq q]; exact .dead _
    · rw [objE_eq q]; exact .refl _
  | [], _ :: _, h => by cases h
  | _ :: _, [], h => by cases h
def outB (M : List AObj) (r : Out) (s : Seg) : Bool := avE 12 r.av s.av && match r.M, s.M' with
  | none, none => true
  | some a, some b => dmB a b
  | none, some b => dmB M b
  | some _, none => false
def segB (T : EvT) (k : Nat) (s : Seg) : Bool := match evF T k s.f s.l s.M with
  | some r => outB s.M r s
  | none => false
section
variable {P : Program}
theorem callOk_wmem {f : FuncId} {l : List AV} {M : List AObj} {o : Out} {av : AV} {M' : Option (List AObj)} (h : CallOk P f l M o) (ho : o.obl) (ha : o.av = av) (hm : WMem (o.M.getD M) (M'.getD M)) : CallOk P f l M { av := av, M := M' } := by
  intro g vs hM sm hr _
  obtain ⟨c1, c2⟩ := h g vs hM sm hr ho
  refine ⟨c1, c2.mono fun e w' => ?_⟩
  rintro ⟨v, rfl, β, ρ, s, r, k⟩
  subst hM ha
  have e1 : (g.out o.M β ρ w').M = o.M.getD g.M := rfl
  have e2 : (⟨M'.getD g.M, (g.out o.M β ρ w').β, (g.out o.M β ρ w').ρ, (g.out o.M β ρ w').w, (g.out o.M β ρ w').X⟩ : G) = g.out M' β ρ w' := rfl
  exact ⟨v, rfl, β, ρ, by rw [← e2]; exact s.wmem (by rw [e1]; exact hm), by rw [← e2]; exact r.wmem (by rw [e1]; exact hm), by rw [← e2]; exact k.wmem (by rw [e1]; exact hm)⟩
theorem segB_ok {T : EvT} (hT : EvOk P T) {k : Nat} {s : Seg} (h : segB T k s = true) : CallOk P s.f s.l s.M s.out := by
  unfold segB at h
  split at h
  · rename_i r hr
    unfold outB at h
    simp only [Bool.and_eq_true] at h
    have hf : r.obl := callX_free hT _ _ _ _ hr
    refine callOk_wmem (evF_ok hT k hr) hf (avE_eq h.1) ?_
    have h2 := h.2
    split at h2
    · rename_i e1 e2; rw [e1, e2]; exact .refl _
    · rename_i e1 e2; rw [e1, e2]; exact dmB_w h2
    · rename_i e1 e2; rw [e1, e2]; exact dmB_w h2
    · cases h2
  · cases h
/-- The parts as contracts. -/
def memL : List Seg → Gam
  | [], _, _, _ => none
  | s :: r, f, l, M => if s.f == f && all2 (avE 12) l s.l && all2 objE M s.M then some s.out else memL r f l M
def SegsOk (P : Program) : List Seg → Prop
  | [] => True
  | s :: r => CallOk P s.f s.l s.M s.out ∧ SegsOk P r
theorem memL_ok : ∀ {L : List Seg}, SegsOk P L → ∀ f l M o, memL L f l M = some o → CallOk P f l M o ∧ o.obl
  | [], _, _, _, _, _, h => by cases h
  | s :: r, h, f, l, M, o, q => by
    unfold memL at q
    split at q
    · rename_i hc
      simp only [Bool.and_eq_true] at hc
      cases q
      have e1 := eq_of_beq hc.1.1
      have e2 := all2_eq (fun _ _ => avE_eq) hc.1.2
      have e3 := all2_eq (fun _ _ => objE_eq) hc.2
      subst e1 e2 e3
      exact ⟨h.1, trivial⟩
    · exact memL_ok h.2 f l M o q
/-- A run that goes by such parts, too. -/
def EvT.add (T : EvT) (L : List Seg) : EvT := { T with lib := fun f l M => match memL L f l M with
  | some o => some o
  | none => T.lib f l M }
theorem EvOk.add {T : EvT} (hT : EvOk P T) {L : List Seg} (hL : SegsOk P L) : EvOk P (T.add L) where
  ty := hT.ty
  look := hT.look
  lib := fun f l M o h => by
    unfold EvT.add at h
    simp only at h
    split at h
    · rename_i o' ho; cases h; exact memL_ok hL f l M _ ho
    · exact hT.lib f l M o h
  mixed := hT.mixed
  wr := hT.wr
end
end Go.Ab
