/- The law IngressPlays holds of its plain function. No condition. -/
import Derived.Test.YtbijdlgffebenaaGreatM04
import Derived.Test.YtbijdlgffebenaaGreatIyD
import Derived.Test.YtbijdlgffebenaaGreatM07
import Derived.Test.YtbijdlgffebenaaGreatGl
import Derived.Test.YtbijdlgffebenaaGreatIy
import Derived.Test.YtbijdlgffebenaaGreatTy
section
namespace Go.Proofs
open Go.Ab

theorem cut20 (s : ByteArray) : ∃ t, gaM s 20 = some t ∧ lenS t ≤ 20 := by
  unfold gaM
  by_cases h : 20 < lenS s
  · rw [ltI_d, decide_eq_true h, cond_true, Lk (show CutB 0 20 (lenS s) from ⟨by omega, by omega, by omega⟩)]
    refine ⟨_, rfl, ?_⟩
    unfold lenS cutS
    rw [ByteArray.size_extract]
    omega
  · rw [ltI_d, decide_eq_false h, cond_false]
    exact ⟨s, rfl, by omega⟩

theorem step_put {T : Type} (bad : T) {s : Tf} {X : Td} {c : Tu} {B : Int} {k : Nat} (hr : SRel s X c) (h : SOk X c B k) {p : Pk} (hp : POk p) {now : Int} (hn0 : 0 ≤ now) (hn1 : now ≤ 1000000000000) (hB0 : 2000000 ≤ B) (hB : B ≤ 100000000000) (hk : k ≤ 100000) :
    ∃ s' X', SRel s' X' c ∧ SOk X' c (B + 200000) (k + 1) ∧ (((gr s p now)).bind fun r6 =>
            ((gaN X p now)).bind fun r7 =>
            need (Under (neI r6.2.1 r7.2.2) false ((gD r6.1 r7.2.1).isSome = true)) <|
            bif (pickB (neI r6.2.1 r7.2.2) true (neI ((gD r6.1 r7.2.1).getD dflt) 0)) then (
              some (Fl.out bad)
            ) else (
              some (.go (r6.2.2.fa.fOf, r6.2.2.fa.fb, r6.2.2.fa.fd, r6.2.2.fa.fg, r6.2.2.fa.fe, r6.2.2.fc, r6.2.2.fOf, r6.2.2.ff, r6.2.2.fh, r6.2.2.fq, r6.2.2.fo, r7.1, now))
            )) = some (.go (s'.fa.fOf, s'.fa.fb, s'.fa.fd, s'.fa.fg, s'.fa.fe, s'.fc, s'.fOf, s'.ff, s'.fh, s'.fq, s'.fo, X', now)) := by
  obtain ⟨s', e1, r1⟩ := oput_src hr h hp hn0 hn1 hB0 hB
  have e2 := rput_src h hp hn0 hn1 hB0 hB hk
  have h2 := put_sok h hp hn0 hn1 hB0 hB
  obtain ⟨l1, l2⟩ := put_len2 h hp hn0 hn1 hB0 hB
  have hs := same11 _ l1 l2
  refine ⟨s', _, r1, h2, ?_⟩
  rw [e1, Ld, e2, Ld]
  simp only
  rw [hs, Lk (show Under _ false ((some (0 : Int)).isSome = true) from fun _ => rfl), neI_f rfl]
  rfl

theorem step_tick {T : Type} (bad : T) {s : Tf} {X : Td} {c : Tu} {B : Int} {k : Nat} (hr : SRel s X c) (h : SOk X c B k) {now : Int} (hn0 : 0 ≤ now) (hn1 : now ≤ 1000000000000) (hk : k ≤ 100000) :
    ∃ s' X', SRel s' X' c ∧ SOk X' c B k ∧ (((gL s now)).bind fun r8 =>
            ((gaD X now)).bind fun r9 =>
            ((gD r8.1 r9.2)).bind fun r10 =>
            bif (neI r10 0) then (
              some (Fl.out bad)
            ) else (
              some (.go (r8.2.fa.fOf, r8.2.fa.fb, r8.2.fa.fd, r8.2.fa.fg, r8.2.fa.fe, r8.2.fc, r8.2.fOf, r8.2.ff, r8.2.fh, r8.2.fq, r8.2.fo, r9.1, now))
            )) = some (.go (s'.fa.fOf, s'.fa.fb, s'.fa.fd, s'.fa.fg, s'.fa.fe, s'.fc, s'.fOf, s'.ff, s'.fh, s'.fq, s'.fo, X', now)) := by
  obtain ⟨s', X', fs, e1, e2, r1, h2, l1, l2⟩ := tick_src hr h hn0 hn1 hk
  refine ⟨s', X', r1, h2, ?_⟩
  rw [e1, Ld, e2, Ld]
  simp only
  rw [same11 _ l1 l2, Ld]
  rfl

theorem nacks_loop (l : List Int) (hl : l.length ≤ 5) : ∃ v, loopF (gf.loop9 (l.map (cvtI .u16)) l) 0 = some (.go v) := by
  obtain ⟨t, ht, v, rfl⟩ := loop_ends (body := gf.loop9 (l.map (cvtI .u16)) l) (fun q => 0 ≤ q) (fun t => ∃ v, t = .go v) (fun q => (lenL l - q).toNat) (fun q hq => by
    unfold gf.loop9
    have hll : lenL l = (l.length : Int) := rfl
    rw [ltI_d]
    by_cases hj : q < lenL l
    · rw [decide_eq_true hj, cond_true, Lk (show InB q (lenL (l.map (cvtI .u16))) from ⟨hq, by rw [lenM]; exact hj⟩), Lk ⟨hq, hj⟩, nth_map _ _ hq hj, neI_f rfl, cond_false, addI_n (by omega) (by omega)]
      exact ⟨by omega, by show (lenL l - (q + 1)).toNat < (lenL l - q).toNat; omega⟩
    · rw [decide_eq_false hj, cond_false]; exact ⟨_, rfl⟩) 0 (Int.le_refl _)
  exact ⟨v, ht⟩

abbrev PSt := Int × Int × (List (Int × Ta)) × Tt × Bool × Int × Int × Tn × (List (Int × Tb)) × Tx × Tw × Int × Int × Td
def tpS (i now : Int) (s : Tf) (X : Td) : PSt := (i, now, s.fa.fOf, s.fa.fb, s.fa.fd, s.fa.fg, s.fa.fe, s.fc, s.fOf, s.ff, s.fh, s.fq, s.fo, X)
def playsI (c : Tu) (q : PSt) : Prop := ∃ (i : Nat) (now : Int) (s : Tf) (X : Td), q = tpS i now s X ∧ i ≤ 120 ∧ 0 ≤ now ∧ now ≤ 31 * i ∧ SRel s X c ∧ SOk X c (2000000 + 200000 * i) i
theorem SOk.mono {X : Td} {c : Tu} {B B' : Int} {k k' : Nat} (h : SOk X c B k) (hB : B ≤ B') (hk : k ≤ k') : SOk X c B' k' :=
  ⟨⟨fun hb => ⟨(h.sq.bg hb).1, by have := (h.sq.bg hb).2; omega⟩, h.sq.nb, h.sq.run⟩, h.od, h.mkr, h.hd, h.cm, by have := h.ln; omega, h.un⟩

theorem rest_ok {s : Tf} {X : Td} {c : Tu} {B : Int} {k : Nat} (hr : SRel s X c) (h : SOk X c B k) (now : Int) :
    (
        ((gC (Tf.mk (Th.mk s.fa.fb s.fa.fd s.fa.fg s.fa.fOf s.fa.fe) s.fc s.ff s.fh s.fOf s.fq s.fo))).bind fun r11 =>
        ((gj (Tf.mk (Th.mk s.fa.fb s.fa.fd s.fa.fg s.fa.fOf s.fa.fe) s.fc s.ff s.fh s.fOf s.fq s.fo) 5)).bind fun r12 =>
        ((gh X.fm 5)).bind fun r13 =>
        ((gv (Tf.mk (Th.mk s.fa.fb s.fa.fd s.fa.fg s.fa.fOf s.fa.fe) s.fc s.ff s.fh s.fOf s.fq s.fo))).bind fun r14 =>
        need (Under (pickB (pickB (neI r14 X.fq) true (neI r11.1 X.fc.fy)) true (neI r11.2 X.fc.fe)) false ((gu (Tf.mk (Th.mk s.fa.fb s.fa.fd s.fa.fg s.fa.fOf s.fa.fe) s.fc s.ff s.fh s.fOf s.fq s.fo)).isSome = true)) <|
        need (Under (pickB (pickB (pickB (neI r14 X.fq) true (neI r11.1 X.fc.fy)) true (neI r11.2 X.fc.fe)) true (neI ((gu (Tf.mk (Th.mk s.fa.fb s.fa.fd s.fa.fg s.fa.fOf s.fa.fe) s.fc s.ff s.fh s.fOf s.fq s.fo)).getD dflt) X.fo)) false ((gA (Th.mk s.fa.fb s.fa.fd s.fa.fg s.fa.fOf s.fa.fe)).isSome = true)) <|
        bif (pickB (pickB (pickB (pickB (pickB (neI r14 X.fq) true (neI r11.1 X.fc.fy)) true (neI r11.2 X.fc.fe)) true (neI ((gu (Tf.mk (Th.mk s.fa.fb s.fa.fd s.fa.fg s.fa.fOf s.fa.fe) s.fc s.ff s.fh s.fOf s.fq s.fo)).getD dflt) X.fo)) true (neI ((gA (Th.mk s.fa.fb s.fa.fd s.fa.fg s.fa.fOf s.fa.fe)).getD dflt) (lenL X.fm.fL))) true (neI (lenL r12) (lenL r13))) then (
          some (.out (.out (.out false)))
        ) else (
          ((loopF (gf.loop9 r12 r13) 0).bind fun f => flC f fun (_v9 : Unit) =>
            some (.go (now, s.fa.fOf, s.fa.fb, s.fa.fd, s.fa.fg, s.fa.fe, s.fc, s.fOf, s.ff, s.fh, s.fq, s.fo, X))
          )
        )) = some (.go (now, s.fa.fOf, s.fa.fb, s.fa.fd, s.fa.fg, s.fa.fe, s.fc, s.fOf, s.ff, s.fh, s.fq, s.fo, X)) := by
  obtain ⟨l, n1, n2, n3⟩ := nacks hr h
  obtain ⟨v, hv⟩ := nacks_loop l n3
  have e1 : gC s = some (X.fc.fy, X.fc.fe) := by
    unfold gC
    rw [hr.mkr]; rfl
  have e2 : gv s = some X.fq := by unfold gv; rw [hr.bad]
  have e3 : gu s = some X.fo := by unfold gu; rw [hr.keys]
  have e4 : gA s.fa = some (lenL X.fm.fL) := by
    unfold gA
    rw [hr.bf.mp.len]
  have es : Tf.mk (Th.mk s.fa.fb s.fa.fd s.fa.fg s.fa.fOf s.fa.fe) s.fc s.ff s.fh s.fOf s.fq s.fo = s := rfl
  have eb : Th.mk s.fa.fb s.fa.fd s.fa.fg s.fa.fOf s.fa.fe = s.fa := rfl
  rw [es, eb, e1, Ld, n1, Ld, n2, Ld, e2, Ld, e3, e4]
  have hn : ∀ z : Int, neI z z = false := fun z => neI_f rfl
  simp only [Option.isSome_some, getD_so, hn, lenM]
  rw [Lk (show Under _ false True from fun _ => trivial), Lk (show Under _ false True from fun _ => trivial)]
  have hp : pickB (pickB (pickB (pickB (pickB false true false) true false) true false) true false) true false = false := rfl
  rw [hp, cond_false, hv, Ld, flC_go]

theorem plays_round (c : Tu) (x6 : List Tp) (l : List Pk) (hl : ∀ p ∈ l, POk p) (hll : l.length ≤ 60) (q : PSt) (hq : playsI c q) :
    RoundP (playsI c) (fun t : Fl ((List (Int × Ta)) × Tt × Bool × Int × Int × Tn × (List (Int × Tb)) × Tx × Tw × Int × Int × Td) Bool => ∃ v, t = .go v) (fun q => (120 - q.1).toNat) q (gf.loop5 x6 l q) := by
  obtain ⟨i, now, s, X, rfl, hi, hn0, hn1, hr, h⟩ := hq
  -- what follows a call
  have rest : ∀ (s' : Tf) (X' : Td) (now' : Int), SRel s' X' c → SOk X' c (2000000 + 200000 * ((i + 1 : Nat) : Int)) (i + 1) → 0 ≤ now' → now' ≤ 31 * ((i + 1 : Nat) : Int) → i < 120 →
      RoundP (playsI c) (fun t : Fl ((List (Int × Ta)) × Tt × Bool × Int × Int × Tn × (List (Int × Tb)) × Tx × Tw × Int × Int × Td) Bool => ∃ v, t = .go v) (fun q => (120 - q.1).toNat) (tpS i now s X)
        (some (.go (tpS (addI .i64 i 1) now' s' X'))) := by
    intro s' X' now' hr' h' a b hi'
    have hi1 : addI .i64 (i : Int) 1 = ((i + 1 : Nat) : Int) := by rw [addI_n (by omega) (by omega)]; omega
    rw [hi1]
    exact ⟨⟨i + 1, now', s', X', rfl, by omega, a, b, hr', h'⟩, by show (120 - ((i + 1 : Nat) : Int)).toNat < (120 - (i : Int)).toNat; omega⟩
  unfold gf.loop5
  dsimp only [tpS]
  by_cases hc : (i : Int) < lenL x6 ∧ (i : Int) < 120
  · rw [ltI_d, ltI_d, pickB_and, ← Bool.decide_and, decide_eq_true hc, cond_true, Lk ⟨by omega, hc.1⟩]
    generalize nthI x6 (i : Int) = a
    have hB1 : 2000000 + 200000 * (i : Int) + 200000 = 2000000 + 200000 * ((i + 1 : Nat) : Int) := by omega
    by_cases hk1 : a.fY = 1
    · obtain ⟨t, ht, htl⟩ := cut20 a.fS
      rw [eqI_t hk1, cond_true, ht, Ld]
      cases hS : pickB (eqS a.fS ⟨#[]⟩) (ltI 0 (lenL l)) false with
      | true =>
        rw [pickB_and, Bool.and_eq_true] at hS
        have hpos : 0 < lenL l := by have := hS.2; rw [ltI_d] at this; simpa using this
        have hlen : lenL l = (l.length : Int) := rfl
        have r1 : -lenL l < remI a.fN (lenL l) ∧ remI a.fN (lenL l) < lenL l := by
          unfold remI
          have := Int.tmod_lt_of_pos a.fN hpos
          have := Int.lt_tmod_of_pos a.fN hpos
          omega
        have r2 : addI .i64 (remI a.fN (lenL l)) (lenL l) = remI a.fN (lenL l) + lenL l := addI_n (by omega) (by omega)
        have r3 : 0 ≤ remI (remI a.fN (lenL l) + lenL l) (lenL l) ∧ remI (remI a.fN (lenL l) + lenL l) (lenL l) < lenL l := by
          generalize remI a.fN (lenL l) = z at r1
          unfold remI
          rw [Int.tmod_eq_emod_of_nonneg (by omega)]
          exact ⟨Int.emod_nonneg _ (by omega), Int.emod_lt_of_pos _ hpos⟩
        have hnz : NonZ (lenL l) := by unfold NonZ; omega
        rw [cond_true, Lk hnz, Lk hnz, r2, Lk ⟨r3.1, r3.2⟩, Ld, flC_go]
        obtain ⟨s', X', q1, q2, q3⟩ := step_put (T := Fl (Int × (List (Int × Ta)) × Tt × Bool × Int × Int × Tn × (List (Int × Tb)) × Tx × Tw × Int × Int × Td) (Fl PSt (Fl ((List (Int × Ta)) × Tt × Bool × Int × Int × Tn × (List (Int × Tb)) × Tx × Tw × Int × Int × Td) Bool))) (.out (.out (.out false))) hr h (hl _ (nth_mem r3.1 r3.2)) (now := now) hn0 (by omega) (by omega) (by omega) (by omega)
        rw [q3, Ld, flC_go]
        rw [hB1] at q2
        have := rest_ok q1 q2 now
        dsimp only
        rw [this, Ld, flC_go]
        exact rest s' X' now q1 q2 hn0 (by omega) (by omega)
      | false =>
        rw [cond_false, Ld, flC_go]
        have hpk : POk (Tb.mk true 0 (cvtI .u16 a.fN) 9 7 [] false 0 ⟨#[]⟩ t 0) := by
          refine ⟨?_, ?_, by simp only; decide, by simp only; decide, by simp only; omega⟩
          · show 0 ≤ IntKind.u16.wrap _
            rw [wrapU16]; omega
          · show IntKind.u16.wrap _ < _
            rw [wrapU16]; omega
        obtain ⟨s', X', q1, q2, q3⟩ := step_put (T := Fl (Int × (List (Int × Ta)) × Tt × Bool × Int × Int × Tn × (List (Int × Tb)) × Tx × Tw × Int × Int × Td) (Fl PSt (Fl ((List (Int × Ta)) × Tt × Bool × Int × Int × Tn × (List (Int × Tb)) × Tx × Tw × Int × Int × Td) Bool))) (.out (.out (.out false))) hr h hpk (now := now) hn0 (by omega) (by omega) (by omega) (by omega)
        rw [q3, Ld, flC_go]
        rw [hB1] at q2
        have := rest_ok q1 q2 now
        dsimp only
        rw [this, Ld, flC_go]
        exact rest s' X' now q1 q2 hn0 (by omega) (by omega)
    · rw [eqI_f hk1, cond_false]
      by_cases hk2 : a.fY = 2
      · have m31 : bitsOp .and .i64 a.fN 31 = a.fN % 32 := and_mask' (j := 5) (by omega) a.fN 31 rfl
        have hnow : addI .i64 now (a.fN % 32) = now + a.fN % 32 := addI_n (by omega) (by omega)
        rw [eqI_t hk2, cond_true, m31, hnow]
        obtain ⟨s', X', q1, q2, q3⟩ := step_tick (T := Fl (Int × (List (Int × Ta)) × Tt × Bool × Int × Int × Tn × (List (Int × Tb)) × Tx × Tw × Int × Int × Td) (Fl PSt (Fl ((List (Int × Ta)) × Tt × Bool × Int × Int × Tn × (List (Int × Tb)) × Tx × Tw × Int × Int × Td) Bool))) (.out (.out (.out false))) hr h (now := now + a.fN % 32) (by omega) (by omega) (by omega)
        rw [q3, Ld, flC_go]
        have q2' := q2.mono (B' := 2000000 + 200000 * ((i + 1 : Nat) : Int)) (k' := i + 1) (by omega) (by omega)
        have := rest_ok q1 q2' (now + a.fN % 32)
        dsimp only
        rw [this, Ld, flC_go]
        exact rest s' X' _ q1 q2' (by omega) (by omega) (by omega)
      · rw [eqI_f hk2, cond_false, Ld, flC_go]
        have h' := h.mono (B' := 2000000 + 200000 * ((i + 1 : Nat) : Int)) (k' := i + 1) (by omega) (by omega)
        have := rest_ok hr h' now
        dsimp only
        rw [this, Ld, flC_go]
        exact rest s X now hr h' hn0 (by omega) (by omega)
  · rw [ltI_d, ltI_d, pickB_and, ← Bool.decide_and, decide_eq_false hc, cond_false]
    exact ⟨_, rfl⟩

theorem ingressPlays_plain (x0 : Bool) (x1 x2 x3 x4 : Int) (x5 : List Int) (x6 : List Tp) : gf x0 x1 x2 x3 x4 x5 x6 = some true := by
  unfold gf
  obtain ⟨a, b, d, hc, a0, a1, b0, b1, d0, d1⟩ := config_eq x0 x1 x2 x3
  rw [awake_ok11, Ld, notB_f', cond_false, hc, Ld, begin_eq a0 (by omega) b0 (by omega) d0 d1, Ld]
  dsimp only
  rw [optC_some, notB_f', cond_false, stream_eq, Ld]
  obtain ⟨l1, l2⟩ := stream_ok (first := x4) (cuts := x5) 57 0 [] (fun _ h => by cases h) (by simp)
  obtain ⟨t, ht, v, rfl⟩ := loop_ends (body := gf.loop5 x6 (streamL x4 x5 57 0 [])) (playsI ⟨x0, 400, d, b⟩) (fun t => ∃ v, t = .go v) (fun q => (120 - q.1).toNat)
    (fun q hq => plays_round _ _ _ l1 l2 q hq) (tpS 0 0 (src0 x0 a b d) (ref0 x0 a b d)) ⟨0, 0, _, _, rfl, by omega, by omega, by omega, rel0 x0 a b d, ok0 a0 (by omega) d0 d1⟩
  have ht' := ht
  dsimp only [tpS] at ht'
  rw [ht', Ld, flC_go]
end Go.Proofs
end
section
namespace Go.Ab
def ShFs (P : Program) : List TypeId → List AV → Prop
  | [], q => q = []
  | t :: ts, q => ∃ r q', q = r ++ q' ∧ ShE P t r ∧ ShFs P ts q'
theorem shFs_of {P : Program} : ∀ {ts : List TypeId} {parts : List (List AV)}, parts.length = ts.length → (∀ (j : Nat) (t : TypeId), ts[j]? = some t → ∃ r, parts[j]? = some r ∧ ShE P t r) → ShFs P ts parts.flatten
  | [], [], _, _ => rfl
  | [], _ :: _, h, _ => by simp at h
  | _ :: _, [], h, _ => by simp at h
  | t :: ts, p :: parts, h, hp => by
    obtain ⟨r, h1, h2⟩ := hp 0 t rfl
    cases h1
    exact ⟨p, parts.flatten, by simp, h2, shFs_of (by simpa using h) fun j t' ht => hp (j + 1) t' ht⟩
theorem sh_fields {P : Program} {t : TypeId} {l : List (Nat × TypeId)} {size bytes : Nat} {z q : List AV} {eq : Bool} (ht : tyOf P t = some ⟨.struct l, size, bytes, z, eq⟩) (h : ShE P t q) : ShFs P (l.map (·.2)) q := by
  unfold tyOf at ht
  split at ht
  · rename_i i d hi hd
    split at ht
    · split at ht
      · simp only [Option.some.injEq, TyI.mk.injEq] at ht
        obtain ⟨hk, _⟩ := ht
        cases d with
        | struct fs =>
          simp only [kindOf, TyK.struct.injEq] at hk
          obtain ⟨parts, h1, rfl, h3⟩ := sh_struct hd h
          refine shFs_of (by rw [h1, ← hk]; simp) fun j t' hj => ?_
          rw [← hk] at hj
          simp only [List.map_map, List.getElem?_map, Array.getElem?_toList] at hj
          cases hf : fs[j]? with
          | none => rw [hf] at hj; cases hj
          | some f =>
            rw [hf] at hj
            simp only [Option.map_some, Option.some.injEq, Function.comp_apply] at hj
            subst hj
            exact h3 j f hf
        | _ => simp [kindOf] at hk
      · cases ht
    · cases ht
  · cases ht
theorem shV_rows {P : Program} {t e : TypeId} {av : AV} {α : Type} {enc : α → List AV} {wf : α → Prop} (hu : P.underlying t = some (.slice e)) (he : ∀ q, ShE P e q → ∃ x, q = enc x ∧ wf x) (h : ShV P t av) :
    ∃ l : List α, av = .sl (l.map enc) .no ∧ l.length ≤ maxLen ∧ ∀ x ∈ l, wf x := by
  obtain ⟨els, rfl, hq, hlen⟩ := shV_slice hu h
  have : ∀ els : List (List AV), (∀ q ∈ els, ShE P e q) → ∃ l : List α, els = l.map enc ∧ ∀ x ∈ l, wf x := by
    intro els
    induction els with
    | nil => intro _; exact ⟨[], rfl, fun _ h => by cases h⟩
    | cons q r ih =>
      intro hq
      obtain ⟨n, rfl, hw⟩ := he q (hq q (by simp))
      obtain ⟨l, rfl, hl⟩ := ih fun q' h' => hq q' (by simp [h'])
      exact ⟨n :: l, rfl, fun x hx => by
        rcases List.mem_cons.1 hx with rfl | hx
        · exact hw
        · exact hl x hx⟩
  obtain ⟨l, rfl, hl⟩ := this els hq
  exact ⟨l, rfl, by simpa using hlen, hl⟩
end Go.Ab
end
section
namespace Go.Proofs
open Go.Ab

theorem Tp.sh {q : List AV} (h : ShE Tryz.prog 50 q) : ∃ x : Tp, q = x.enc := by
  have k := sh_fields Tryz.ty50 h
  clear h
  obtain ⟨_, _, rfl, h0, k⟩ := k
  obtain ⟨x0, rfl, _⟩ := sh_int (k := .i64) (by kernel_rfl) h0
  obtain ⟨_, _, rfl, h1, k⟩ := k
  obtain ⟨x1, rfl, _⟩ := sh_int (k := .i64) (by kernel_rfl) h1
  obtain ⟨_, _, rfl, h2, k⟩ := k
  obtain ⟨x2, rfl, _⟩ := sh_string (by kernel_rfl) h2
  obtain rfl := k
  exact ⟨Tp.mk x0 x1 x2, by simp⟩

set_option maxRecDepth 100000 in
theorem gLaw11IngressPlays_call : ∀ xs, ShAll Tryz.prog Tryz.f3.params.toList xs → ∃ o : Prop, o ∧ CallOk Tryz.prog 3 xs [] { av := .lit (.bool true), obl := o } := by
  intro xs h
  rw [show Tryz.f3.params.toList = [4, 3, 3, 3, 22, 23, 24] by kernel_rfl] at h
  obtain ⟨_, _, rfl, h0, h⟩ := shAll_cons h
  obtain ⟨_, _, rfl, h1, h⟩ := shAll_cons h
  obtain ⟨_, _, rfl, h2, h⟩ := shAll_cons h
  obtain ⟨_, _, rfl, h3, h⟩ := shAll_cons h
  obtain ⟨_, _, rfl, h4, h⟩ := shAll_cons h
  obtain ⟨_, _, rfl, h5, h⟩ := shAll_cons h
  obtain ⟨_, _, rfl, h6, h⟩ := shAll_cons h
  obtain rfl := shAll_nil h
  obtain ⟨x0, rfl⟩ := shV_bool (by kernel_rfl) h0
  obtain ⟨x1, rfl, w1⟩ := shV_int (k := .i64) (by kernel_rfl) h1
  obtain ⟨x2, rfl, w2⟩ := shV_int (k := .i64) (by kernel_rfl) h2
  obtain ⟨x3, rfl, w3⟩ := shV_int (k := .i64) (by kernel_rfl) h3
  obtain ⟨x4, rfl, w4⟩ := shV_int (k := .u16) (by kernel_rfl) h4
  obtain ⟨x5, rfl, w5, _⟩ := shV_ints (k := .i64) (e := 3) (by kernel_rfl) (by kernel_rfl) h5
  obtain ⟨x6, rfl, w6, _⟩ := shV_rows (e := 50) (wf := fun _ => True) (by kernel_rfl) (fun q h => by obtain ⟨x, hx⟩ := Tp.sh h; exact ⟨x, hx, trivial⟩) h6
  exact ⟨True, trivial, gf.can x0 x1 x2 x3 x4 x5 x6 true (ingressPlays_plain x0 x1 x2 x3 x4 x5 x6)⟩
end Go.Proofs
end
