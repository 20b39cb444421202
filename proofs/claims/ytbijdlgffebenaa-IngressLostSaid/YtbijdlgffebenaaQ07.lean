/- The law IngressLost holds of its plain function: both sources, to the end. No condition. -/
import Derived.Test.YtbijdlgffebenaaJo
import Derived.Test.YtbijdlgffebenaaGl
import Derived.Test.YtbijdlgffebenaaIl
import Derived.Test.YtbijdlgffebenaaTy
section
namespace Go.Proofs
open Go.Ab

theorem SOk.mono2 {X : Te} {c : Tp} {B B' : Int} {k k' : Nat} (h : SOk X c B k) (hB : B ≤ B') (hk : k ≤ k') : SOk X c B' k' :=
  ⟨⟨fun hb => ⟨(h.sq.bg hb).1, by have := (h.sq.bg hb).2; omega⟩, h.sq.nb, h.sq.run⟩, h.od, h.mkr, h.hd, h.cm, by have := h.ln; omega, h.un⟩

abbrev BSt := (List (Int × Ta)) × Tk × Bool × Int × Int × Th × (List (Int × Tb)) × Tv × Tt × Int × Int
def tpB (n m : Int) (s t : Tf) : Int × Int × (List (Int × Ta)) × Tk × Bool × Int × Int × Th × (List (Int × Tb)) × Tv × Tt × Int × Int × BSt :=
  (n, m, s.fa.fOf, s.fa.fb, s.fa.fd, s.fa.fg, s.fa.fe, s.fc, s.fOf, s.ff, s.fh, s.fp, s.fm, t.fa.fOf, t.fa.fb, t.fa.fd, t.fa.fg, t.fa.fe, t.fc, t.fOf, t.ff, t.fh, t.fp, t.fm)
structure Both (x1 : Int) (v : List (Int × Int)) (l : List Pk) (j : Nat) (w m : Int) (s t : Tf) : Prop where
  ex : ∃ X Y, SRel s X cL ∧ SOk X cL (2000000 + 200000 * j) j ∧ AOk x1 l j w X ∧ SRel t Y cL ∧ SOk Y cL (2000000 + 200000 * j) j ∧ BOk x1 (absN v) l j m Y
  m0 : 0 ≤ m
  jl : j ≤ l.length
theorem eta_src (s : Tf) : Tf.mk (Tg.mk s.fa.fb s.fa.fd s.fa.fg s.fa.fOf s.fa.fe) s.fc s.ff s.fh s.fOf s.fp s.fm = s := rfl

theorem lost_round (x1 : Int) (v : List (Int × Int)) (l : List Pk) (hl60 : l.length ≤ 60) (hpk : ∀ p ∈ l, POk p) (h0 : absN v 0 = false) (q : Int × Int × Int × (List (Int × Ta)) × Tk × Bool × Int × Int × Th × (List (Int × Tb)) × Tv × Tt × Int × Int × BSt)
    (hq : ∃ (j : Nat) (w m : Int) (s t : Tf), q = ((j : Int), tpB w m s t) ∧ Both x1 v l j w m s t) :
    RoundP (fun q => ∃ (j : Nat) (w m : Int) (s t : Tf), q = ((j : Int), tpB w m s t) ∧ Both x1 v l j w m s t) (fun t => ∃ (w m : Int) (s u : Tf), t = .go (tpB w m s u) ∧ Both x1 v l l.length w m s u) (fun q => (lenL l - q.1).toNat) q (ga.loop4 l v q) := by
  obtain ⟨j, w, m, s, t, rfl, hb⟩ := hq
  obtain ⟨X, Y, r1, s1, a1, r2, s2, b1⟩ := hb.ex
  have hm0 := hb.m0
  have hjl := hb.jl
  unfold ga.loop4
  dsimp only [tpB]
  by_cases hc : (j : Int) < lenL l
  · have hc' : j < l.length := by rw [lenL_def] at hc; omega
    rw [ltI_d, decide_eq_true hc, cond_true, Le ⟨by omega, hc⟩, eta_src, eta_src]
    have hp := hpk _ (nth_mem (l := l) (i := (j : Int)) (by omega) hc)
    obtain ⟨w', a2, a3, a4⟩ := a_put a1 (by omega) hc'
    obtain ⟨s', o1, o2⟩ := oput_src r1 s1 hp (now := (j : Int)) (by omega) (by omega) (by omega) (by omega)
    have o3 := put_sok s1 hp (now := (j : Int)) (by omega) (by omega) (by omega) (by omega)
    rw [o1, Lb]
    dsimp only
    rw [lenM]
    have hw := a1.ct
    have hw1 := cntP_le (l.take j)
    have hw2 := a2.ct
    have hw3 := cntP_le (l.take (j + 1))
    have hw4 : ((l.take (j + 1)).length : Int) ≤ j + 1 := by rw [List.length_take]; omega
    have hw5 : ((l.take j).length : Int) ≤ j := by rw [List.length_take]; omega
    have ea : addI .i64 w (lenL (putM cL X (nthI l (j : Int)) j).2.1) = w' := by rw [addI_n (by omega) (by omega)]; exact a3
    have ej : addI .i64 (j : Int) 1 = ((j + 1 : Nat) : Int) := by rw [addI_n (by omega) (by omega)]; omega
    rw [ea, ej]
    have mu : (lenL l - ((j + 1 : Nat) : Int)).toNat < (lenL l - (j : Int)).toNat := by omega
    cases hab : absN v j with
    | false =>
      have he : eqI (getM eqI (j : Int) 0 v) 0 = true := by
        unfold absN at hab
        simpa using hab
      rw [he, cond_true]
      obtain ⟨t', p1, p2⟩ := oput_src r2 s2 hp (now := (j : Int)) (by omega) (by omega) (by omega) (by omega)
      have p3 := put_sok s2 hp (now := (j : Int)) (by omega) (by omega) (by omega) (by omega)
      have b2 := b_step b1 (by omega) hc' hab a4
      rw [p1, Lb]
      dsimp only
      rw [lenM]
      have hb2 := b2.ct
      have hb3 := cntM_nn (putM cL Y (nthI l (j : Int)) j).1.fL (putM cL Y (nthI l (j : Int)) j).1.fo.fL
      have hb4 := lenL_nn (putM cL Y (nthI l (j : Int)) j).2.1
      have em : addI .i64 m (lenL (putM cL Y (nthI l (j : Int)) j).2.1) = m + lenL (putM cL Y (nthI l (j : Int)) j).2.1 := addI_n (by omega) (by omega)
      rw [em]
      exact ⟨⟨j + 1, w', _, s', t', rfl, ⟨⟨_, _, o2, SOk.mono2 o3 (by omega) (Nat.le_refl _), a2, p2, SOk.mono2 p3 (by omega) (Nat.le_refl _), b2⟩, by omega, hc'⟩⟩, mu⟩
    | true =>
      have he : eqI (getM eqI (j : Int) 0 v) 0 = false := by
        unfold absN at hab
        simpa using hab
      rw [he, cond_false]
      exact ⟨⟨j + 1, w', m, s', t, rfl, ⟨⟨_, _, o2, SOk.mono2 o3 (by omega) (Nat.le_refl _), a2, r2, SOk.mono2 s2 (by omega) (by omega), b_miss b1 hc' hab h0⟩, hm0, hc'⟩⟩, mu⟩
  · rw [ltI_d, decide_eq_false hc, cond_false]
    have e : j = l.length := by rw [lenL_def] at hc; omega
    rw [e] at hb
    exact ⟨w, m, s, t, rfl, hb⟩

theorem b_end {x1 : Int} {v : List (Int × Int)} {l : List Pk} {m : Int} {Y : Te} {k : Nat} {B : Int} (h : BOk x1 (absN v) l l.length m Y) (hs : SOk Y cL B k) {now : Int} (hn : now = lenL l + 1000) :
    (tickM cL Y now).1.fo.fL = [] ∧ (tickM cL Y now).1.fo.fe ≤ lenL v ∧ m + lenL (tickM cL Y now).2 ≤ cntP l := by
  have hct := h.ct
  rw [List.take_length] at hct
  rcases h.fr with ⟨h0, hX⟩ | ⟨h0, _, hb, hw, hJ⟩
  · subst hX
    have e : lenL (tickM cL (ref0 true 6 4 8) now).2 = 0 := rfl
    refine ⟨rfl, lenL_nn v, ?_⟩
    have e2 : cntM (ref0 true 6 4 8).fL (ref0 true 6 4 8).fo.fL = 0 := rfl
    rw [e]; omega
  · obtain ⟨t1, t2, t3, t4⟩ := tick_jo hJ hs.od (now := now) (by rw [hw, hn, lenL_def]; omega)
    have hg := gapN_len (keysM v) (absN v) l.length (fun k _ hk => abs_key hk)
    have hk : ((keysM v).length : Int) = lenL v := by unfold keysM; rw [List.length_map]; rfl
    have hf := frames_cnt (c := cL) rfl Y.fL (tickS Y.fo now).2 (fsOf Y)
    rw [t4] at hf
    refine ⟨t1, ?_, ?_⟩
    · show (tickS Y.fo now).1.fe ≤ _
      omega
    · show m + lenL (framesM cL Y.fL (tickS Y.fo now).2 (fsOf Y)).2 ≤ _
      rw [t4]; omega

theorem ingressLost_plain (x0 : Int) (x1 x2 : List Int) : ga x0 x1 x2 = some true := by
  unfold ga
  have hc : gU true 5 4 7 = some (cfgM true 6 4 8) := by
    unfold gU
    rw [Le (show NonZ 40 by decide)]
    kernel_rfl
  rw [awake_ok11, Lb, notB_f', cond_false, hc, Lb, begin_eq (by decide) (by decide) (by decide) (by decide) (by decide) (by decide), Lb]
  dsimp only
  rw [optC_some]
  have hp0 : pickB (notB true) true (notB true) = false := rfl
  rw [hp0, cond_false]
  obtain ⟨v, hv, hv1⟩ := lost_loop x2
  rw [hv, Lb, flC_go, stream_eq, Lb]
  obtain ⟨R, hR, n0, hS⟩ := stream_str x0 x1 57 0 []
  obtain ⟨hpk, hlen⟩ := stream_ok (first := x0) (cuts := x1) 57 0 [] (fun _ h => by cases h) (by decide)
  rw [List.nil_append] at hR
  generalize hl : streamL x0 x1 57 0 [] = l at hR hpk hlen
  subst hR
  have h0 : absN v 0 = false := by
    unfold absN
    rw [getM_no (fun hk => by have := hv1 _ hk; omega)]; rfl
  obtain ⟨t, ht, w, m, s, u, rfl, hb⟩ := loop_ends (body := ga.loop4 l v) _ _ _ (fun q hq => lost_round x0 v l hlen hpk h0 q hq) (((0 : Nat) : Int), tpB 0 0 (src0 true 6 4 8) (src0 true 6 4 8))
    ⟨0, 0, 0, _, _, rfl, ⟨⟨_, _, rel0 true 6 4 8, ok0 (by decide) (by decide) (by decide) (by decide), ⟨⟨0, 0, n0, -1, 0, [], [], rfl, hS, by omega, by omega, ⟨rfl, fun h => absurd h (by omega), by simp [sizeN]⟩, .inl rfl, fun _ => rfl, fun _ h => by cases h⟩, rfl⟩,
      rel0 true 6 4 8, ok0 (by decide) (by decide) (by decide) (by decide), ⟨.inl ⟨rfl, rfl⟩, fun _ h => (by cases h), Int.le_refl _⟩⟩, by omega, Nat.zero_le _⟩⟩
  have ht' := ht
  dsimp only [tpB] at ht'
  have e0 : ((0 : Nat) : Int) = 0 := rfl
  rw [e0] at ht'
  rw [ht', Lb, flC_go]
  dsimp only
  rw [eta_src, eta_src]
  obtain ⟨X, Y, r1, s1, a1, r2, s2, b1⟩ := hb.ex
  have hln : lenL l = l.length := rfl
  have en : addI .i64 (lenL l) 1000 = lenL l + 1000 := addI_n (by omega) (by omega)
  obtain ⟨u', Y', fs, g1, g2, g3, g4, g5, g6⟩ := tick_src r2 s2 (now := lenL l + 1000) (by omega) (by omega) (by omega)
  obtain ⟨o', l', bq, q1, q2, q3⟩ := rtick_src s2 (now := lenL l + 1000) (by omega) (by omega) (by omega)
  rw [q1] at g2
  have g2' := Option.some.inj g2
  have hY : Y'.fo = (tickM cL Y (lenL l + 1000)).1.fo := (congrArg (fun z => z.1.fo) g2').symm
  have hfs : fs = (tickM cL Y (lenL l + 1000)).2 := (congrArg Prod.snd g2').symm
  obtain ⟨z1, z2, z3⟩ := b_end b1 s2 (now := lenL l + 1000) rfl
  rw [← hY] at z1 z2
  rw [← hfs] at z3
  rw [en, g1, Lb]
  have ec : gv s = some (w, 0) := by
    obtain ⟨i, k, n, ck, keys, o, L, hX, _⟩ := a1.st
    unfold gv
    rw [r1.mkr, hX]; rfl
  rw [ec, Lb]
  dsimp only
  rw [lenM]
  have hw := a1.ct
  rw [List.take_length] at hw
  have hw1 := cntP_le l
  have hm0 := hb.m0
  have hf0 := lenL_nn fs
  have em : addI .i64 m (lenL fs) = m + lenL fs := addI_n (by omega) (by omega)
  have el : gt u'.fa = some 0 := by
    unfold gt
    rw [g3.bf.mp.len, z1]; rfl
  have eo : gz u'.fa = some Y'.fo.fe := by
    unfold gz
    rw [g3.bf.lo]
  rw [el, eo, em, Le (show Under _ true ((some (0 : Int)).isSome = true) from fun _ => rfl), Le (show Under _ true ((some Y'.fo.fe).isSome = true) from fun _ => rfl), leI_d, leI_d, decide_eq_true (by omega), eqI_t rfl, eqI_t rfl]
  have hlo : decide ((some Y'.fo.fe).getD dflt ≤ lenL v) = true := decide_eq_true z2
  rw [hlo]; rfl
end Go.Proofs
end
section
namespace Go.Ab
def ShFs (P : Program) : List TypeId → List AV → Prop
  | [], q => q = []
  | t :: ts, q => ∃ r q', q = r ++ q' ∧ ShE P t r ∧ ShFs P ts q'
theorem shFs_of {P : Program} : ∀ {ts : List TypeId} {parts : List (List AV)}, parts.length = ts.length → (∀ (j : Nat) (t : TypeId), ts[j]? = some t → ∃ r, parts[j]? = some r ∧ ShE P t r) → ShFs P ts parts.flatten
  | [], [], _, _ => rfl
  | [], _ :: _, h, _ => by simp at h
  | _ :: _, [], h, _ => by simp at h
  | t :: ts, p :: parts, h, hp => by
    obtain ⟨r, h1, h2⟩ := hp 0 t rfl
    cases h1
    exact ⟨p, parts.flatten, by simp, h2, shFs_of (by simpa using h) fun j t' ht => hp (j + 1) t' ht⟩
theorem sh_fields {P : Program} {t : TypeId} {l : List (Nat × TypeId)} {size bytes : Nat} {z q : List AV} {eq : Bool} (ht : tyOf P t = some ⟨.struct l, size, bytes, z, eq⟩) (h : ShE P t q) : ShFs P (l.map (·.2)) q := by
  unfold tyOf at ht
  split at ht
  · rename_i i d hi hd
    split at ht
    · split at ht
      · simp only [Option.some.injEq, TyI.mk.injEq] at ht
        obtain ⟨hk, _⟩ := ht
        cases d with
        | struct fs =>
          simp only [kindOf, TyK.struct.injEq] at hk
          obtain ⟨parts, h1, rfl, h3⟩ := sh_struct hd h
          refine shFs_of (by rw [h1, ← hk]; simp) fun j t' hj => ?_
          rw [← hk] at hj
          simp only [List.map_map, List.getElem?_map, Array.getElem?_toList] at hj
          cases hf : fs[j]? with
          | none => rw [hf] at hj; cases hj
          | some f =>
            rw [hf] at hj
            simp only [Option.map_some, Option.some.injEq, Function.comp_apply] at hj
            subst hj
            exact h3 j f hf
        | _ => simp [kindOf] at hk
      · cases ht
    · cases ht
  · cases ht
theorem shV_agg {P : Program} {t : TypeId} {l : List (Nat × TypeId)} {size bytes : Nat} {z : List AV} {av : AV} {eq : Bool} (ht : tyOf P t = some ⟨.struct l, size, bytes, z, eq⟩) (h : ShV P t av) : ∃ avs, av = .agg avs ∧ ShE P t avs := by
  unfold tyOf at ht
  split at ht
  · rename_i i d hi hd
    split at ht
    · split at ht
      · simp only [Option.some.injEq, TyI.mk.injEq] at ht
        obtain ⟨hk, _⟩ := ht
        cases d with
        | struct fs => exact shV_struct hd h
        | _ => simp [kindOf] at hk
      · cases ht
    · cases ht
  · cases ht
theorem shV_rows {P : Program} {t e : TypeId} {av : AV} {α : Type} {enc : α → List AV} {wf : α → Prop} (hu : P.underlying t = some (.slice e)) (he : ∀ q, ShE P e q → ∃ x, q = enc x ∧ wf x) (h : ShV P t av) :
    ∃ l : List α, av = .sl (l.map enc) .no ∧ l.length ≤ maxLen ∧ ∀ x ∈ l, wf x := by
  obtain ⟨els, rfl, hq, hlen⟩ := shV_slice hu h
  have : ∀ els : List (List AV), (∀ q ∈ els, ShE P e q) → ∃ l : List α, els = l.map enc ∧ ∀ x ∈ l, wf x := by
    intro els
    induction els with
    | nil => intro _; exact ⟨[], rfl, fun _ h => by cases h⟩
    | cons q r ih =>
      intro hq
      obtain ⟨n, rfl, hw⟩ := he q (hq q (by simp))
      obtain ⟨l, rfl, hl⟩ := ih fun q' h' => hq q' (by simp [h'])
      exact ⟨n :: l, rfl, fun x hx => by
        rcases List.mem_cons.1 hx with rfl | hx
        · exact hw
        · exact hl x hx⟩
  obtain ⟨l, rfl, hl⟩ := this els hq
  exact ⟨l, rfl, by simpa using hlen, hl⟩
end Go.Ab
end
section
namespace Go.Proofs
open Go.Ab

set_option maxRecDepth 100000 in
theorem gLaw11IngressLost_call : ∀ xs, ShAll Try.prog Try.f6.params.toList xs → ∃ o : Prop, o ∧ CallOk Try.prog 6 xs [] { av := .lit (.bool true), obl := o } := by
  intro xs h
  rw [show Try.f6.params.toList = [22, 23, 23] by kernel_rfl] at h
  obtain ⟨_, _, rfl, h0, h⟩ := shAll_cons h
  obtain ⟨_, _, rfl, h1, h⟩ := shAll_cons h
  obtain ⟨_, _, rfl, h2, h⟩ := shAll_cons h
  obtain rfl := shAll_nil h
  obtain ⟨x0, rfl, w0⟩ := shV_int (k := .u16) (by kernel_rfl) h0
  obtain ⟨x1, rfl, w1, _⟩ := shV_ints (k := .i64) (e := 3) (by kernel_rfl) (by kernel_rfl) h1
  obtain ⟨x2, rfl, w2, _⟩ := shV_ints (k := .i64) (e := 3) (by kernel_rfl) (by kernel_rfl) h2
  exact ⟨True, trivial, ga.can x0 x1 x2 true (ingressLost_plain x0 x1 x2)⟩
end Go.Proofs
end
