import Derived.Test.YtpamnignoocogaaGreatDoorM16
import Derived.Test.YtpamnignoocogaaGreatDoorM04
import Derived.Test.YtpamnignoocogaaGreatDoorM05
import Derived.Test.YtpamnignoocogaaGreatDoorM17
import Derived.Test.YtpamnignoocogaaGreatDoorM02
import Derived.Test.YtpamnignoocogaaGreatDoorM09
section
namespace Go.Proofs
open Go.Ab
noncomputable def gN (x0 : Int) : Option ByteArray :=
 bif (eqI x0 1) then (
  some ⟨#[114]⟩
 ) else (
   bif (eqI x0 2) then (
    some ⟨#[112]⟩
   ) else (
     bif (eqI x0 3) then (
      some ⟨#[112, 116, 115]⟩
     ) else (
       bif (eqI x0 4) then (
        some ⟨#[112, 116]⟩
       ) else (
         bif (eqI x0 5) then (
          some ⟨#[112, 111, 116, 108]⟩
         ) else (
           bif (eqI x0 6) then (
            some ⟨#[112, 111, 116]⟩
           ) else (
             bif (eqI x0 7) then (
              some ⟨#[112, 116, 98]⟩
             ) else (
               bif (eqI x0 8) then (
                some ⟨#[112, 111, 116, 98]⟩
               ) else (
                 some ⟨#[]⟩
               )
             )
           )
         )
       )
     )
   )
 )
noncomputable def gr.loop1 (x1 : Int) (r1 : ByteArray) (s1 : Nat) : Option (Fl Nat (Fl Unit Bool)) :=
 bif (nextB r1 s1) then (
  bif (eqI (runeS r1 s1) x1) then (
   some (.out (.out true))
  ) else (
    some (.go (stepS r1 s1))
  )
 ) else (
   some (.out (.go ()))
 )
noncomputable def gr (x0 : Int) (x1 : Int) : Option Bool :=
 ((gN x0)).bind fun r1 =>
 ((loopF (gr.loop1 x1 r1) 0).bind fun f => flC f fun (_v1 : Unit) =>
   some false
 )
noncomputable def gR (x0 : Int) : Option Bool :=
 some (pickB (leqI 0 x0) (leqI x0 65535) false)
noncomputable def gn (x0 : Ta) : Option Bool :=
 ((
  ((
   ((gr x0.fb 114)).bind fun r1 =>
   need (Under (notB r1) true (CatB x0.fd x0.ff)) <|
   bif (pickB (notB r1) (neS (catS x0.fd x0.ff) ⟨#[]⟩) false) then (
    some (.go true)
   ) else (
     ((gr x0.fb 112)).bind fun r2 =>
     bif (pickB (notB r2) (neI x0.fc 0) false) then (
      some (.go true)
     ) else (
       ((gr x0.fb 111)).bind fun r3 =>
       bif (pickB (notB r3) (neI x0.fOf 0) false) then (
        some (.go true)
       ) else (
         ((gr x0.fb 116)).bind fun r4 =>
         some (.go (pickB (notB r4) (neI x0.fg 0) false))
       )
     )
   )
   : Option (Fl Bool (Fl Unit Bool))).bind fun f => flC f fun (v2 : Bool) =>
   bif v2 then (
    some (.out false)
   ) else (
     ((
      ((gr x0.fb 108)).bind fun r5 =>
      bif (pickB (notB r5) (neI x0.fh 0) false) then (
       some (.go true)
      ) else (
        ((gr x0.fb 98)).bind fun r6 =>
        bif (pickB (notB r6) x0.fOn false) then (
         some (.go true)
        ) else (
          ((gr x0.fb 115)).bind fun r7 =>
          some (.go (pickB (notB r7) (pickB x0.fe true (ltI 0 (lenL x0.fa))) false))
        )
      )
      : Option (Fl Bool (Fl Unit Bool))).bind fun f => flC f fun (v3 : Bool) =>
      bif v3 then (
       some (.out false)
      ) else (
        some (.go ())
      )
     )
   )
  )
  : Option (Fl Unit Bool)).bind fun f => flC f fun (_v1 : Unit) =>
  some true
 )
noncomputable def ga.loop2 (x0 : Ta) (s1 : Int) (s2 : Int) : Option (Fl Int (Fl Unit (Fl Int (Fl Unit Int)))) :=
 bif (ltI s2 (lenL (cutL x0.fa 0 s1))) then (
  need (InB s2 (lenL (cutL x0.fa 0 s1))) <|
  bif (eqI (nthI x0.fa s1) (nthI (cutL x0.fa 0 s1) s2)) then (
   some (.out (.out (.out (.out 10))))
  ) else (
    some (.go (addI .i64 s2 1))
  )
 ) else (
   some (.out (.go ()))
 )
noncomputable def ga.loop1 (x0 : Ta) (s1 : Int) : Option (Fl Int (Fl Unit Int)) :=
 bif (ltI s1 (lenL x0.fa)) then (
  need (InB s1 (lenL x0.fa)) <|
  need (CutB 0 s1 (lenL x0.fa)) <|
  ((loopF (ga.loop2 x0 s1) 0).bind fun f => flC f fun (_v2 : Unit) =>
    some (.go (addI .i64 s1 1))
  )
 ) else (
   some (.out (.go ()))
 )
noncomputable def ga (x0 : Ta) : Option Int :=
 bif (pickB (pickB (ltI (lenL x0.fa) 1) true (ltI 3 (lenL x0.fa))) true (pickB (ltI 1 (lenL x0.fa)) (notB x0.fe) false)) then (
  some 5
 ) else (
   ((loopF (ga.loop1 x0) 0).bind fun f => flC f fun (_v1 : Unit) =>
     some 0
   )
 )
noncomputable def gq (x0 : Ta) : Option Int :=
 ((gN x0.fb)).bind fun r1 =>
 bif (eqS r1 ⟨#[]⟩) then (
  some 3
 ) else (
   ((gn x0)).bind fun r2 =>
   bif (notB r2) then (
    some 2
   ) else (
     ((gR x0.fc)).bind fun r3 =>
     need (Under (notB r3) false ((gR x0.fOf).isSome = true)) <|
     bif (pickB (pickB (pickB (pickB (pickB (notB r3) true (notB ((gR x0.fOf).getD dflt))) true (ltI x0.fg 0)) true (leqI 4 x0.fg)) true (ltI x0.fh 0)) true (leqI 3 x0.fh)) then (
      some 5
     ) else (
       need (Under (eqI x0.fb 1) true ((gw x0.fd).isSome = true)) <|
       need (Under (neI ((gw x0.fd).getD dflt) 0) false (Under (eqI x0.fb 1) true ((gw x0.ff).isSome = true))) <|
       bif (pickB (eqI x0.fb 1) (pickB (neI ((gw x0.fd).getD dflt) 0) true (neI ((gw x0.ff).getD dflt) 0)) false) then (
        some 6
       ) else (
         bif (eqI x0.fb 3) then (
          ((ga x0)).bind fun r4 =>
          some r4
         ) else (
           some 0
         )
       )
     )
   )
 )
noncomputable def gY (x0 : Bool) : Option Int :=
 bif x0 then (
  some 1
 ) else (
   some 0
 )
noncomputable def gf.loop1 (x0 : Ta) (r1 : ByteArray) (s1 : List Int × Nat) : Option (Fl (List Int × Nat) (Fl (List Int) ByteArray)) :=
 bif (nextB r1 s1.2) then (
  bif (eqI (runeS r1 s1.2) 114) then (
   need (AppB (lenL s1.1) 1 1) <|
   ((gl (appL s1.1 [(cvtI .u8 (lenS x0.fd))]) [x0.fd])).bind fun r2 =>
   need (AppB (lenL r2) 1 1) <|
   ((gl (appL r2 [(cvtI .u8 (lenS x0.ff))]) [x0.ff])).bind fun r3 =>
   some (.go (r3, (stepS r1 s1.2)))
  ) else (
    bif (eqI (runeS r1 s1.2) 112) then (
     ((gj s1.1 [(cvtI .u16 x0.fc)])).bind fun r4 =>
     some (.go (r4, (stepS r1 s1.2)))
    ) else (
      bif (eqI (runeS r1 s1.2) 111) then (
       ((gj s1.1 [(cvtI .u16 x0.fOf)])).bind fun r5 =>
       some (.go (r5, (stepS r1 s1.2)))
      ) else (
        bif (eqI (runeS r1 s1.2) 116) then (
         need (AppB (lenL s1.1) 1 1) <|
         some (.go ((appL s1.1 [(cvtI .u8 x0.fg)]), (stepS r1 s1.2)))
        ) else (
          bif (eqI (runeS r1 s1.2) 108) then (
           need (AppB (lenL s1.1) 1 1) <|
           some (.go ((appL s1.1 [(cvtI .u8 x0.fh)]), (stepS r1 s1.2)))
          ) else (
            bif (eqI (runeS r1 s1.2) 98) then (
             ((gY x0.fOn)).bind fun r6 =>
             need (AppB (lenL s1.1) 1 1) <|
             some (.go ((appL s1.1 [r6]), (stepS r1 s1.2)))
            ) else (
              bif (eqI (runeS r1 s1.2) 115) then (
               ((gY x0.fe)).bind fun r7 =>
               need (AppB (lenL s1.1) 2 1) <|
               ((gk (appL s1.1 [r7, (cvtI .u8 (lenL x0.fa))]) x0.fa)).bind fun r8 =>
               some (.go (r8, (stepS r1 s1.2)))
              ) else (
                some (.go (s1.1, (stepS r1 s1.2)))
              )
            )
          )
        )
      )
    )
  )
 ) else (
   some (.out (.go s1.1))
 )
noncomputable def gf (x0 : Ta) : Option ByteArray :=
 need (AppB 0 1 1) <|
 ((gN x0.fb)).bind fun r1 =>
 ((loopF (gf.loop1 x0 r1) ((appL [] [(cvtI .u8 x0.fb)]), 0)).bind fun f => flC f fun (v1 : List Int) =>
   need (TextB v1) <|
   some (strOfNums v1)
 )
end Go.Proofs
end
section
namespace Go.Ab
section
variable {P : Program}
theorem LibOk.free {f : FuncId} {S : Sp} (h : SpecOk P f S) (hob : ∀ l M o, S l M = some o → o.obl) : LibOk P f S := fun l M o q => ⟨fun g vs hM sm hr _ => h l M o q g vs hM sm hr (hob l M o q), hob l M o q⟩
theorem keysS_free {k : Nat} (l : List AV) (M : List AObj) (o : Out) (h : keysS k l M = some o) : o.obl := by
 unfold keysS at h;split at h
 ·split at h <;> first | (cases h; trivial) | cases h
 ·cases h
instance (l : List Int) : Decidable (KeysB l) := inferInstanceAs (Decidable ((∀ x ∈ l, (Lit.int .i64 x).wf = true) ∧ l.length * 8 ≤ 140737488355328))
instance (l : List ByteArray) : Decidable (KeysBS l) := inferInstanceAs (Decidable ((∀ x ∈ l, x.size ≤ maxLen) ∧ l.length * 16 ≤ 140737488355328))
def isI64 : AV → Bool
 | .lit (.int .i64 _) => true
 | _ => false
theorem isI64_spec {a : AV} (h : isI64 a = true) : a = kI .i64 (dkI a) := by
 unfold isI64 at h;split at h
 ·rfl
 ·cases h
def isStr : AV → Bool
 | .lit (.string _) => true
 | _ => false
theorem isStr_spec {a : AV} (h : isStr a = true) : a = kS (dkS a) := by
 unfold isStr at h;split at h
 ·rfl
 ·cases h
def sortedOb (l : List AV) (M : List AObj) : Bool := match l with
 | [.fn _ [.mp i]] => match M[i]? with
   | some (.mapo es) => (es.all fun e => isI64 e.1) && decide (KeysB (keysV es))
   | _ => false
 | _ => false
theorem sortedOb_spec {k : Nat} (l : List AV) (M : List AObj) (o : Out) (h : sortedS k l M = some o) (hb : sortedOb l M = true) : o.obl := by
 unfold sortedS at h;split at h
 ·rename_i k' i;split at h
  ·split at h
   ·rename_i es hM;cases h;simp only [sortedOb, hM, Bool.and_eq_true, decide_eq_true_eq] at hb;exact ⟨fun e he => isI64_spec (List.all_eq_true.1 hb.1 e he), hb.2⟩
   ·rename_i Q hM;simp only [sortedOb, hM] at hb;cases hb
   ·cases h
  ·cases h
 ·cases h
def sortedSOb (l : List AV) (M : List AObj) : Bool := match l with
 | [.fn _ [.mp i]] => match M[i]? with
   | some (.mapo es) => (es.all fun e => isStr e.1) && decide (KeysBS (keysVS es))
   | _ => false
 | _ => false
theorem sortedSOb_spec {k : Nat} (l : List AV) (M : List AObj) (o : Out) (h : sortedSS k l M = some o) (hb : sortedSOb l M = true) : o.obl := by
 unfold sortedSS at h;split at h
 ·rename_i k' i;split at h
  ·split at h
   ·rename_i es hM;cases h;simp only [sortedSOb, hM, Bool.and_eq_true, decide_eq_true_eq] at hb;exact ⟨fun e he => isStr_spec (List.all_eq_true.1 hb.1 e he), hb.2⟩
   ·cases h
  ·cases h
 ·cases h
def cloneOb (n b : Nat) (l : List AV) (M : List AObj) : Bool := match l with
 | [.sl els _] => lensB n els && decide (AppB 0 (lenL els) b) && !marked M
 | _ => false
theorem cloneOb_spec {n b : Nat} (l : List AV) (M : List AObj) (o : Out) (h : cloneS n b l M = some o) (hb : cloneOb n b l M = true) : o.obl := by
 unfold cloneS at h;split at h
 ·cases h;simp only [cloneOb, Bool.and_eq_true, decide_eq_true_eq, Bool.not_eq_true'] at hb;exact ⟨lensB_spec hb.1.1, hb.1.2, hb.2⟩
 ·cases h
end
end Go.Ab
end
section
namespace Go.Ab
@[simp] theorem decL_d {α : Type} (d : List AV → α) (els : List (List AV)) (tok : Tok) : decL d [.sl els tok] = els.map d := rfl
theorem Weak.trans {a b : AV} (h : Weak a b) : ∀ {c : AV}, Weak b c → Weak a c := by
 induction h with
 | refl a => intro c h; exact h
 | tok els tok =>
   intro c h;cases h with
   | refl => exact .tok _ _
   | tok => exact .tok _ _
 | nl =>
   intro c h;cases h with
   | refl => exact .nl
   | tok => exact .tok _ _
 | agg l l' hl h ih =>
   intro c h';cases h' with
   | refl => exact .agg _ _ hl h
   | agg _ l'' hl' h'' => exact .agg _ _ (hl.trans hl') fun j h1 h2 => ih j h1 (by omega) (h'' j (by omega) h2)
 | tup l l' hl h ih =>
   intro c h';cases h' with
   | refl => exact .tup _ _ hl h
   | tup _ l'' hl' h'' => exact .tup _ _ (hl.trans hl') fun j h1 h2 => ih j h1 (by omega) (h'' j (by omega) h2)
theorem WObj.trans {a b c : AObj} (h : WObj a b) (h' : WObj b c) : WObj a c := by
 cases h with
 | refl => exact h'
 | dead =>
   cases h' with
   | refl => exact .dead _
   | dead => exact .dead _
 | mapr es vis cur t =>
   cases h' with
   | refl => exact .mapr _ _ _ _
   | dead => exact .dead _
 | blk l l' hl h =>
   cases h' with
   | refl => exact .blk _ _ hl h
   | dead => exact .dead _
   | blk _ l'' hl' h'' => exact .blk _ _ (hl.trans hl') fun j h1 h2 => (h j h1 (by omega)).trans (h'' j (by omega) h2)
theorem WMem.trans {a b : List AObj} (h : WMem a b) : ∀ {c : List AObj}, WMem b c → WMem a c := by
 induction h with
 | nil => intro c h; exact h
 | cons h _ ih =>
   intro c h';cases h' with
   | cons q r => exact .cons (h.trans q) (ih r)
theorem WMem.take {a b : List AObj} (h : WMem a b) : ∀ n : Nat, WMem (a.take n) (b.take n) := by
 induction h with
 | nil => intro n; simp only [List.take_nil]; exact .nil
 | cons h _ ih =>
   intro n;cases n with
   | zero => exact .nil
   | succ n => exact .cons h (ih n)
theorem subE_mem {A : Env} : ∀ {A' : Env}, subE A A' → ∀ e ∈ A', e.tag = none ∧ ∃ av, ent A e.t = some (none, av) ∧ Weak av e.av
 | ⟨t, tag, av⟩ :: r, h, e, he => by
   obtain ⟨h1, h2⟩ := h;rcases List.mem_cons.1 he with rfl | he
   ·split at h1
    ·rename_i av' htag hent;exact ⟨htag, av', hent, h1⟩
    ·exact h1.elim
   ·exact subE_mem h2 e he
theorem subE_of {A : Env} : ∀ {A' : Env}, (∀ e ∈ A', e.tag = none ∧ ∃ av, ent A e.t = some (none, av) ∧ Weak av e.av) → subE A A'
 | [], _ => trivial
 | ⟨t, tag, av⟩ :: r, h => by
   obtain ⟨h1, av', h2, h3⟩ := h _ (.head _);simp only at h1 h2 h3;refine ⟨?_, subE_of fun e he => h e (.tail _ he)⟩;simp only [h1, h2];exact h3
theorem Conv.trans {B m m' : Nat} {σ σ' σ'' : St} (h : Conv B m σ σ') (h' : Conv B m' σ' σ'') : Conv B m' σ σ'' := by
 obtain ⟨a1, a2, a3, a4, a5, a6⟩ := h;obtain ⟨b1, b2, b3, b4, b5, b6⟩ := h';have hl := a5.length;rw [List.length_take] at hl;have hm : m' ≤ m := by omega
 refine ⟨b1, by omega, subE_of fun e he => ?_, b4, ?_, b6⟩
 ·obtain ⟨e1, av, e2, e3⟩ := subE_mem b3 e he;obtain ⟨_, av', e5, e6⟩ := subE_mem a3 _ (ent_mem e2);exact ⟨e1, av', e5, e6.trans e3⟩
 ·have := a5.take m';rw [List.take_take, Nat.min_eq_left hm] at this;exact this.trans b5
end Go.Ab
end
section
namespace Go.Proofs
open Go.Ab Go.Lib
theorem need_u {α : Type} {a b : Bool} {p : Prop} {x : Option α} (h : a = b → p) : need (Under a b p) x = x := Lf h
theorem need_s {α β : Type} {a b : Bool} {v : β} {x : Option α} : need (Under a b ((some v).isSome = true)) x = x := Lf fun _ => rfl
theorem need_ss {α β : Type} {a b c d : Bool} {v : β} {x : Option α} : need (Under a b (Under c d ((some v).isSome = true))) x = x := Lf fun _ _ => rfl
noncomputable def clsR (r : Int) : Int := if r = 45 ∨ r = 95 ∨ r = 46 then 3 else bif letterR r then 1 else bif digitR r then 2 else 0
theorem class_d {r : Int} (h : I32B r) : gZ r = some (clsR r) := by
 have hb : ((decide (r = 45) || decide (r = 95)) || decide (r = 46)) = decide (r = 45 ∨ r = 95 ∨ r = 46) := by
  simp [Bool.decide_or, Bool.or_assoc]
 simp only [gZ, clsR, pickB_or, eqI_d, Lf h, hb];by_cases hj : r = 45 ∨ r = 95 ∨ r = 46
 ·simp [hj]
 ·simp only [hj, decide_false, cond_false, if_false];cases letterR r <;> cases digitR r <;> rfl
theorem class_d' {r : Int} (h : I32B r) : gT r = some (clsR r) := class_d h
theorem cls_bad : clsR 65533 = 0 := by
 have h1 : letterR 65533 = false := by unfold letterR; decide +kernel
 have h2 : digitR 65533 = false := by unfold digitR; decide +kernel
 unfold clsR;rw [if_neg (by omega), h1, h2];rfl
noncomputable def okFrom : Int → List Int → Bool
 | _, [] => true
 | p, r :: l => decide (clsR r ≠ 0) && !(decide (clsR r = 3) && (decide (p = 3) || l.isEmpty)) && okFrom (clsR r) l
noncomputable def okRun : Int → List Int → Option Int
 | k, [] => some k
 | k, r :: l => if clsR r = 0 ∨ (clsR r = 3 ∧ k = 3) then none else okRun (clsR r) l
noncomputable def goodB (l : List Int) : Bool := decide (1 ≤ l.length) && decide (l.length ≤ 16) && okFrom 3 l
theorem okFrom_run : ∀ (l : List Int) (p : Int), l ≠ [] → okFrom p l = match okRun p l with | some k => decide (k ≠ 3) | none => false
 | [], _, h => absurd rfl h
 | [r], p, _ => by
   unfold okFrom okRun okFrom okRun;by_cases h0 : clsR r = 0
   ·simp [h0]
   ·by_cases h3 : clsR r = 3
    ·by_cases hp : p = 3 <;> simp [h3, hp]
    ·simp [h0, h3]
 | r :: r' :: l, p, _ => by
   rw [okFrom, okRun];have ih := okFrom_run (r' :: l) (clsR r) (by simp);by_cases h0 : clsR r = 0
   ·simp [h0]
   ·by_cases h3 : clsR r = 3
    ·by_cases hp : p = 3
     ·simp [h3, hp]
     ·rw [ih]; simp [h3, hp]
    ·rw [ih]; simp [h0, h3]
theorem okFrom_bad : ∀ (l : List Int) (p : Int), 65533 ∈ l → okFrom p l = false
 | [], _, h => by cases h
 | r :: l, p, h => by
   rw [okFrom];rcases List.mem_cons.1 h with h | h
   ·subst h; simp [cls_bad]
   ·rw [okFrom_bad l _ h]; simp
theorem check_loop : ∀ (m : Nat) (s : ByteArray) (pos : Nat) (n k : Int), (restS s pos).length ≤ m → 0 ≤ n → n + m ≤ 1000000000 →
  loopF (gw.loop1 s) (n, k, pos) = some (match okRun k (scan s pos) with | none => .out 6 | some k' => .go (n + (scan s pos).length, k')) := by
 intro m
 induction m with
 | zero =>
   intro s pos n k hm _ _;have h : restS s pos = [] := List.eq_nil_of_length_eq_zero (by omega);rw [loopF_eq];simp only [gw.loop1, nextB_f h, cond_false, scan_f h, okRun];simp
 | succ m ih =>
   intro s pos n k hm hn hb;by_cases h : restS s pos = []
   ·rw [loopF_eq];simp only [gw.loop1, nextB_f h, cond_false, scan_f h, okRun];simp
   rw [loopF_eq, scan_t h, okRun];simp only [gw.loop1, nextB_t h, cond_true, class_d (rune_I32 s pos), Lh];generalize hc : clsR (runeS s pos) = c;have hr : runeS s pos = 65533 → c = 0 := fun e => by rw [← hc, e, cls_bad]
   by_cases hbad : c = 0 ∨ (c = 3 ∧ k = 3)
   ·have e : pickB (eqI c 0) true (pickB (eqI c 3) (eqI k 3) false) = true := by
     rw [pickB_or, pickB_and, eqI_d, eqI_d, eqI_d];rcases hbad with h | h
     ·simp [h]
     ·simp [h.1, h.2]
    rw [if_pos hbad, e, need_u (fun _ q => by cases q), need_u (fun _ q => by cases q)];rfl
   ·have e : pickB (eqI c 0) true (pickB (eqI c 3) (eqI k 3) false) = false := by
     rw [pickB_or, pickB_and, eqI_d, eqI_d, eqI_d];have h1 : c ≠ 0 := fun q => hbad (.inl q);by_cases h3 : c = 3
     ·have h2 : k ≠ 3 := fun q => hbad (.inr ⟨h3, q⟩);simp [h3, h2]
     ·simp [h1, h3]
    have hr' : eqI (runeS s pos) 65533 = false := eqI_f fun q => hbad (.inl (hr q));rw [if_neg hbad, e, hr', need_u (fun q => by cases q), need_u (fun q => by cases q)];have hst := step_gt s pos;have hl := restS_len s pos;have hl' := restS_len s (stepS s pos);have hpos := List.length_pos_iff.2 h;simp only [pickB, cond_false, addI_n (show -9223372036854775808 ≤ n + 1 by omega) (by omega)];rw [ih s (stepS s pos) (n + 1) c (by omega) (by omega) (by omega)];have e2 : n + 1 + ((scan s (stepS s pos)).length : Int) = n + (((runeS s pos :: scan s (stepS s pos)).length : Nat) : Int) := by simp only [List.length_cons]; omega
    rw [e2]
theorem check_d {s : ByteArray} (hs : s.size ≤ 1000000) : gw s = some (if goodB (scan s 0) = true then 0 else 6) := by
 have hlen := scan_len s 0;have hb0 : restS s 0 = bytesOf s := rfl;have hbl := bytesOf_len s;unfold gw;by_cases h0 : bytesOf s = []
 ·have e : eqS s ⟨#[]⟩ = true := by rw [eqS_b, h0]; rfl
  rw [e, scan_f (by rw [hb0, h0])];rfl
 have e : eqS s ⟨#[]⟩ = false := by
  rw [eqS_b, decide_eq_false];exact h0
 have hpos := List.length_pos_iff.2 h0;rw [e];by_cases h64 : 64 < s.size
 ·have e2 : ltI 64 (lenS s) = true := ltI_t (by unfold lenS; omega)
  have e3 : goodB (scan s 0) = false := by
   unfold goodB;have : decide ((scan s 0).length ≤ 16) = false := decide_eq_false (by omega);rw [this]; simp
  rw [e2, e3];rfl
 ·have e2 : ltI 64 (lenS s) = false := ltI_f (by unfold lenS; omega);rw [e2];simp only [pickB, cond_false];rw [check_loop s.size s 0 0 3 (by rw [hb0, hbl]; exact Nat.le_refl _) (by omega) (by omega)]
  have hne : scan s 0 ≠ [] := by
   intro q;have := congrArg List.length q;simp only [List.length_nil] at this;omega
  have hg : goodB (scan s 0) = (decide ((scan s 0).length ≤ 16) && okFrom 3 (scan s 0)) := by
   unfold goodB;have : decide (1 ≤ (scan s 0).length) = true := decide_eq_true (List.length_pos_iff.2 hne);rw [this];rfl
  rw [hg, okFrom_run _ _ hne];cases ho : okRun 3 (scan s 0) with
  | none => simp
  | some k =>
    simp only [Lh, flC_go];by_cases h16 : (scan s 0).length ≤ 16
    ·have e3 : ltI 16 (0 + ((scan s 0).length : Int)) = false := ltI_f (by omega);rw [e3];by_cases hk : k = 3
     ·subst hk; simp [eqI_d]
     ·simp [eqI_d, hk, h16]
    ·have e3 : ltI 16 (0 + ((scan s 0).length : Int)) = true := ltI_t (by omega);rw [e3];simp [h16]
def sizeR (r : Int) : Int := if r < 128 then 1 else if r < 2048 then 2 else if r < 65536 then 3 else 4
theorem size_d (r : Int) : gad r = some (sizeR r) := by
 unfold gad sizeR;simp only [ltI_d];by_cases h1 : r < 128
 ·simp [h1]
 ·by_cases h2 : r < 2048
  ·simp [h1, h2]
  ·by_cases h3 : r < 65536 <;> simp [h1, h2, h3]
theorem sizeR_enc {r : Int} (h : ValidR r) : sizeR r = (encodeRune r).length := by
 unfold ValidR at h;unfold sizeR encodeRune;rw [List.length_map];by_cases h1 : r < 128
 ·rw [if_pos h1, encodeRuneZ_one (by omega) (by omega)]; rfl
 rw [if_neg h1];by_cases h2 : r < 2048
 ·rw [if_pos h2, encodeRuneZ_two (by omega) (by omega)]; rfl
 rw [if_neg h2];by_cases h3 : r < 65536
 ·rw [if_pos h3, encodeRuneZ_three (by omega)]; rfl
 ·rw [if_neg h3, encodeRuneZ_four (by omega) (by omega)]; rfl
theorem sizeR_pos (r : Int) : 1 ≤ sizeR r ∧ sizeR r ≤ 4 := by
 unfold sizeR
 repeat' split
 all_goals omega
theorem runes_loop (s : ByteArray) (hs : s.size ≤ 1000000) : ∀ (m pos : Nat) (p : Int) (out : List Int), (restS s pos).length ≤ m → 0 ≤ p → p ≤ s.size → out.length + m ≤ 1000000 → (65533 ∉ out → p = pos) →
  ∃ r, loopF (gG.loop1 s) (p, out, pos) = some r ∧ (r = .go (out ++ scan s pos) ∨ (r = .out ([], false) ∧ 65533 ∈ out ++ scan s pos)) := by
 intro m
 induction m with
 | zero =>
   intro pos p out hm _ _ _ _;have h : restS s pos = [] := List.eq_nil_of_length_eq_zero (by omega);refine ⟨_, ?_, .inl rfl⟩;rw [loopF_eq];simp [gG.loop1, nextB_f h, scan_f h]
 | succ m ih =>
   intro pos p out hm hp0 hp1 hb hsync;by_cases h : restS s pos = []
   ·refine ⟨_, ?_, .inl rfl⟩;rw [loopF_eq];simp [gG.loop1, nextB_f h, scan_f h]
   rw [loopF_eq, scan_t h];simp only [gG.loop1, nextB_t h, cond_true, size_d, Lh];have hsz := sizeR_pos (runeS s pos);have hst := step_gt s pos;have hl := restS_len s pos;have hl' := restS_len s (stepS s pos);have hpos := List.length_pos_iff.2 h;have hadd : addI .i64 p (sizeR (runeS s pos)) = p + sizeR (runeS s pos) := addI_n (by omega) (by omega);have hlen : lenS s = s.size := rfl;rw [hadd]
   have key : 65533 ∉ out → runeS s pos ≠ 65533 → p = pos ∧ sizeR (runeS s pos) = ((decodeL (restS s pos)).2 : Int) ∧ encodeRune (runeS s pos) = (restS s pos).take (decodeL (restS s pos)).2 := by
    intro h1 h2;have hd := runeS_d s pos
    have he : encodeRune (runeS s pos) = (restS s pos).take (decodeL (restS s pos)).2 := by
     rw [hd];refine encode_decode _ h fun q => h2 ?_;rw [hd, q.1]; rfl
    refine ⟨hsync h1, ?_, he⟩;rw [sizeR_enc (by rw [hd]; exact dec_valid _), he, List.length_take, Nat.min_eq_left (decodeL_le _ h)]
   have hle := decodeL_le _ h
   rw [need_u (fun q => by
    have : ¬ lenS s < p + sizeR (runeS s pos) := by
     intro q';rw [ltI_t q'] at q;cases q
    exact ⟨hp0, by omega, by omega⟩)]
   by_cases hlt : lenS s < p + sizeR (runeS s pos)
   ·rw [ltI_t hlt];refine ⟨_, rfl, .inr ⟨rfl, ?_⟩⟩;refine Classical.byContradiction fun hno => ?_;simp only [List.mem_append, List.mem_cons, not_or] at hno;obtain ⟨k1, k2, _⟩ := key hno.1 (fun q => hno.2.1 q.symm);omega
   ·rw [ltI_f hlt];simp only [pickB, cond_false, neS_b, eqS_b, runes_b, cutS_b, List.flatMap_cons, List.flatMap_nil, List.append_nil];by_cases heq : encodeRune (runeS s pos) = ((bytesOf s).drop p.toNat).take ((p + sizeR (runeS s pos)).toNat - p.toNat)
    ·simp only [heq, decide_true, Bool.not_true, cond_false];rw [Lf (by unfold AppB lenL; omega)]
     have hsy : 65533 ∉ out ++ [runeS s pos] → p + sizeR (runeS s pos) = (stepS s pos : Nat) := by
      intro hno;simp only [List.mem_append, List.mem_cons, List.not_mem_nil, or_false, not_or] at hno;obtain ⟨k1, k2, _⟩ := key hno.1 (fun q => hno.2 q.symm);rw [stepS_d]; omega
     obtain ⟨r, h1, h2⟩ := ih (stepS s pos) (p + sizeR (runeS s pos)) (out ++ [runeS s pos]) (by omega) (by omega) (by omega) (by simp only [List.length_append, List.length_cons, List.length_nil]; omega) hsy;refine ⟨r, h1, ?_⟩;simpa using h2
    ·simp only [heq, decide_false, Bool.not_false, cond_true];refine ⟨_, rfl, .inr ⟨rfl, ?_⟩⟩;refine Classical.byContradiction fun hno => ?_;simp only [List.mem_append, List.mem_cons, not_or] at hno;obtain ⟨k1, k2, k3⟩ := key hno.1 (fun q => hno.2.1 q.symm);apply heq;rw [k3, k2, k1];unfold restS;rw [show ((pos : Int) + ((decodeL ((bytesOf s).drop pos)).2 : Int)).toNat - (pos : Int).toNat = (decodeL ((bytesOf s).drop pos)).2 by omega, Int.toNat_natCast]
theorem runes_d {s : ByteArray} (hs : s.size ≤ 100000) : ∃ l ok, gG s = some (l, ok) ∧ ((ok = true ∧ l = scan s 0) ∨ (ok = false ∧ l = [] ∧ 65533 ∈ scan s 0)) := by
 obtain ⟨r, h1, h2⟩ := runes_loop s (by omega) s.size 0 0 [] (by rw [restS_len]; exact Nat.le_refl _) (by omega) (by omega) (by simp only [List.length_nil]; omega) (fun _ => rfl);unfold gG;rw [h1];rcases h2 with rfl | ⟨rfl, h⟩
 ·exact ⟨_, _, rfl, .inl ⟨rfl, rfl⟩⟩
 ·exact ⟨_, _, rfl, .inr ⟨rfl, rfl, h⟩⟩
noncomputable def prevOf (pre : List Int) : Int := match pre.getLast? with
 | some r => clsR r
 | none => 3
theorem prevOf_snoc (pre : List Int) (r : Int) : prevOf (pre ++ [r]) = clsR r := by simp [prevOf]
theorem nth_at (pre t : List Int) (r : Int) : nthI (pre ++ r :: t) (pre.length : Int) = r := by
 simp [nthI]
theorem nth_snoc (q t : List Int) (x : Int) : nthI (q ++ [x] ++ t) (((q ++ [x]).length : Int) - 1) = x := by
 have : (((q ++ [x]).length : Int) - 1).toNat = q.length := by simp only [List.length_append, List.length_cons, List.length_nil]; omega
 unfold nthI;rw [this];simp
theorem good_loop (l : List Int) (b : Bool) (hl : ∀ r ∈ l, I32B r) (hlen : l.length ≤ 1000) : ∀ (suf pre : List Int), l = pre ++ suf →
  loopF (gF.loop1 (l, b)) (pre.length : Int) = some (if okFrom (prevOf pre) suf = true then .go () else .out false)
 | [], pre, e => by
   rw [loopF_eq];have : ltI (pre.length : Int) (lenL l) = false := ltI_f (by rw [e]; unfold lenL; simp);simp only [gF.loop1, this, cond_false, okFrom, if_true]
 | r :: t, pre, e => by
   have hL : l.length = pre.length + (t.length + 1) := by rw [e]; simp
   have hr : I32B r := hl r (by rw [e]; simp);have hlt : ltI (pre.length : Int) (lenL l) = true := ltI_t (by unfold lenL; omega);have hnth : nthI l (pre.length : Int) = r := by rw [e]; exact nth_at pre t r
   have hsub : subI .i64 (lenL l) 1 = (pre.length : Int) + t.length := by
    rw [subI_n (by unfold lenL; omega) (by unfold lenL; omega)];unfold lenL; omega
   have hadd : addI .i64 (pre.length : Int) 1 = ((pre ++ [r]).length : Nat) := by
    rw [addI_n (by omega) (by omega)];simp
   have ih := good_loop l b hl hlen t (pre ++ [r]) (by rw [e]; simp);rw [prevOf_snoc] at ih;rw [loopF_eq, okFrom];simp only [gF.loop1, hlt, cond_true, hnth, class_d' hr, Lh, hsub, hadd];rw [Lf (show InB _ _ from ⟨by omega, by unfold lenL; omega⟩)];generalize hc : clsR r = c at *
   have hprev : pre ≠ [] → subI .i64 (pre.length : Int) 1 = (pre.length : Int) - 1 ∧ I32B (nthI l ((pre.length : Int) - 1)) ∧ clsR (nthI l ((pre.length : Int) - 1)) = prevOf pre := by
    intro hp;rcases List.eq_nil_or_concat pre with h | ⟨q, x, h⟩
    ·exact absurd h hp
    ·rw [List.concat_eq_append] at h
     have hx : nthI l ((pre.length : Int) - 1) = x := by
      rw [e, h]; exact nth_snoc q (r :: t) x
     refine ⟨subI_n (by omega) (by omega), ?_, ?_⟩
     ·rw [hx]; exact hl x (by rw [e, h]; simp)
     ·rw [hx, h, prevOf_snoc]
   have hi0 : eqI (pre.length : Int) 0 = decide (pre = []) := by
    rw [eqI_d];by_cases h : pre = []
    ·subst h; rfl
    ·have := List.length_pos_iff.2 h;rw [decide_eq_false h, decide_eq_false (by omega)]
   have hi1 : eqI (pre.length : Int) ((pre.length : Int) + t.length) = t.isEmpty := by
    rw [eqI_d];cases t with
    | nil => simp
    | cons a b => rw [decide_eq_false (by simp only [List.length_cons]; omega)]; rfl
   rw [hi0, hi1]
   have hcase : pickB (decide (pre = [])) true t.isEmpty = false → pre ≠ [] := fun q hp => by
    rw [decide_eq_true hp] at q;cases q
   rw [need_u (fun q _ _ => by
    have hp := hcase q;rw [(hprev hp).1];have := List.length_pos_iff.2 hp;exact ⟨by omega, by unfold lenL; omega⟩), need_u (fun q _ _ => by
    have hp := hcase q;rw [(hprev hp).1, class_d' (hprev hp).2.1];rfl)]
   have hcond : pickB (eqI c 0) true (pickB (eqI c 3) (pickB (pickB (decide (pre = [])) true t.isEmpty) true (eqI ((gT (nthI l (subI .i64 (pre.length : Int) 1))).getD dflt) 3)) false) =
     !(decide (c ≠ 0) && !(decide (c = 3) && (decide (prevOf pre = 3) || t.isEmpty))) := by
    rw [pickB_or, pickB_and, pickB_or, pickB_or, eqI_d, eqI_d];by_cases hp : pre = []
    ·subst hp;have : prevOf [] = 3 := rfl;rw [this];by_cases h0 : c = 0 <;> by_cases h3 : c = 3 <;> simp [h0, h3]
    ·obtain ⟨p1, p2, p3⟩ := hprev hp;rw [p1, class_d' p2, p3, decide_eq_false hp];simp only [getD_so, eqI_d];by_cases h0 : c = 0 <;> by_cases h3 : c = 3 <;> by_cases hq : prevOf pre = 3 <;> cases t.isEmpty <;> simp [h0, h3, hq]
   rw [hcond];cases hk : (decide (c ≠ 0) && !(decide (c = 3) && (decide (prevOf pre = 3) || t.isEmpty))) with
   | false => rfl
   | true =>
     simp only [Bool.not_true, cond_false, Bool.true_and];exact ih
theorem good_d {s : ByteArray} (hs : s.size ≤ 1000) : gF s = some (goodB (scan s 0)) := by
 obtain ⟨l, ok, h1, h2⟩ := runes_d (s := s) (by omega);have hsl := scan_len s 0;unfold gF;rw [h1];simp only [Lh];rcases h2 with ⟨rfl, rfl⟩ | ⟨rfl, rfl, h⟩
 ·have hl : ∀ r ∈ scan s 0, I32B r := fun r hr => by
   have := scan_rng s 0 r hr;exact ⟨by omega, by omega⟩
  unfold goodB;by_cases h1 : 1 ≤ (scan s 0).length
  ·have e1 : ltI (lenL (scan s 0)) 1 = false := ltI_f (by unfold lenL; omega);rw [e1, decide_eq_true h1];by_cases h2 : (scan s 0).length ≤ 16
   ·have e2 : ltI 16 (lenL (scan s 0)) = false := ltI_f (by unfold lenL; omega);rw [e2, decide_eq_true h2];have := good_loop (scan s 0) true hl (by omega) (scan s 0) [] rfl;simp only [List.length_nil] at this;simp only [notB_d, Bool.not_true, pickB, cond_false];rw [show (0 : Int) = ((0 : Nat) : Int) from rfl, this];show _ = some (okFrom (prevOf []) (scan s 0));cases okFrom (prevOf []) (scan s 0) <;> rfl
   ·have e2 : ltI 16 (lenL (scan s 0)) = true := ltI_t (by unfold lenL; omega);rw [e2, decide_eq_false h2];rfl
  ·have e1 : ltI (lenL (scan s 0)) 1 = true := ltI_t (by unfold lenL; omega);rw [e1, decide_eq_false h1];rfl
 ·have : goodB (scan s 0) = false := by
   unfold goodB;rw [okFrom_bad _ 3 h]; simp
  rw [this];rfl
end Go.Proofs
end
