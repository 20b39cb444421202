/- The law IngressSame holds of its plain function. No condition. -/
import Derived.Test.YtbijdlgffebenaaJr
import Derived.Test.YtbijdlgffebenaaM06
namespace Go.Proofs
open Go.Ab

theorem SOk.mono3 {X : Antiphonref11Source} {c : FrameConfig} {B B' : Int} {k k' : Nat} (h : SOk X c B k) (hB : B ≤ B') (hk : k ≤ k') : SOk X c B' k' :=
  ⟨⟨fun hb => ⟨(h.sq.bg hb).1, by have := (h.sq.bg hb).2; omega⟩, h.sq.nb, h.sq.run⟩, h.od, h.mkr, h.hd, h.cm, by have := h.ln; omega, h.un⟩
theorem eta_same (s : IngressSource) : IngressSource.mk (ReorderBuffer.mk s.fBuffer.fConfig s.fBuffer.fBegun s.fBuffer.fNext s.fBuffer.fOf s.fBuffer.fLost) s.fMaker s.fSeq s.fClock s.fOf s.fBad s.fKeys = s := rfl
abbrev TSt := (List (Int × Antiphonref09Thing)) × ReorderConfig × Bool × Int × Int × FrameMaker × (List (Int × Antiphonref03Packet)) × ExtendSeq × ExtendClock × Int × Int × List FrameFrame
def tpT (s : IngressSource) (g : List FrameFrame) : TSt := (s.fBuffer.fOf, s.fBuffer.fConfig, s.fBuffer.fBegun, s.fBuffer.fNext, s.fBuffer.fLost, s.fMaker, s.fOf, s.fSeq, s.fClock, s.fBad, s.fKeys, g)

/-- Behind n calls; the packets ahead of d have come. -/
structure Sam (first : Int) (cuts : List Int) (l : List Pk) (n d : Nat) (s : IngressSource) (g : List FrameFrame) : Prop where
  ex : ∃ X m mx G, SRel s X cK ∧ SOk X cK (2000000 + 200000 * n) n ∧ AnyX first cuts l (1048576 + first % 65536) m mx X G ∧ g = G.map FrameFrame.mk ∧ ∀ j : Nat, j < d → Arr (1048576 + first % 65536) X j
/-- The stream. -/
structure Strm (first : Int) (cuts : List Int) (l : List Pk) : Prop where
  len : l.length ≤ 60
  all : StC first cuts 0 0 0 l
  ok : ∀ p ∈ l, POk p

theorem any_len {first : Int} {cuts : List Int} {l : List Pk} {B : Int} {m mx : Nat} {X : Antiphonref11Source} {G : List (List Un)} (h : AnyX first cuts l B m mx X G) (hl : l.length ≤ 60) : lenL G ≤ 60 := by
  obtain ⟨i, k', _, _, h1, _, _, _, _, _, h2, _⟩ := h.del.st
  have := h.del.ml
  omega

theorem same_put {first : Int} {cuts : List Int} {l : List Pk} {n d : Nat} {s : IngressSource} {g : List FrameFrame} (h : Sam first cuts l n d s g) (hl : Strm first cuts l) (hn : n ≤ 300) (j : Nat) (hj : j < l.length) :
    ∃ g' s', samePut l s g (j : Int) = some (g', s') ∧ Sam first cuts l (n + 1) d s' g' ∧ (j = d → Sam first cuts l (n + 1) (d + 1) s' g') := by
  obtain ⟨X, m, mx, G, r1, r2, r3, rfl, r5⟩ := h.ex
  have hp := hl.ok _ (nth_mem (l := l) (i := (j : Int)) (by omega) (by rw [lenL_def]; omega))
  obtain ⟨s', o1, o2⟩ := oput_src r1 r2 hp (now := 0) (by omega) (by omega) (by omega) (by omega)
  have o3 := put_sok r2 hp (now := 0) (by omega) (by omega) (by omega) (by omega)
  obtain ⟨m', mx', a1, a2, a3⟩ := any_put r3 r2 hl.len hl.all rfl j hj
  have hg := any_len a1 hl.len
  have hg' : lenL G + lenL (putM cK X (nthI l (j : Int)) 0).2.1 ≤ 60 := by
    simp only [lenL_def, List.length_append] at hg ⊢
    omega
  have o4 := SOk.mono3 (k' := n + 1) (B' := 2000000 + 200000 * ((n + 1 : Nat) : Int)) o3 (by omega) (Nat.le_refl _)
  have hz : ∀ d' : Nat, (∀ j0 : Nat, j0 < d' → Arr (1048576 + first % 65536) (putM cK X (nthI l (j : Int)) 0).1 j0) → Sam first cuts l (n + 1) d' s' (appL (G.map FrameFrame.mk) ((putM cK X (nthI l (j : Int)) 0).2.1.map FrameFrame.mk)) :=
    fun d' hd => ⟨⟨_, m', mx', G ++ (putM cK X (nthI l (j : Int)) 0).2.1, o2, o4, a1, by rw [List.map_append]; rfl, hd⟩⟩
  refine ⟨_, s', ?_, hz d fun j0 hj0 => a3 j0 (r5 j0 hj0), fun e => hz (d + 1) fun j0 hj0 => ?_⟩
  · unfold samePut
    rw [need_t ⟨by omega, by rw [lenL_def]; omega⟩, o1, bind_so]
    dsimp only
    rw [lenM, lenM, need_t ⟨by omega, by omega⟩]
  · by_cases hc : j0 < d
    · exact a3 j0 (r5 j0 hc)
    · have : j0 = j := by omega
      rw [this]; exact a2

theorem same_round1 {first : Int} {cuts : List Int} {l : List Pk} (hl : Strm first cuts l) (hpos : 0 < l.length) (x2 : List Int) (q : Int × TSt) (hq : ∃ (i : Nat) (s : IngressSource) (g : List FrameFrame), q = ((i : Int), tpT s g) ∧ i ≤ 80 ∧ Sam first cuts l (i + 1) 0 s g) :
    RoundP (fun q => ∃ (i : Nat) (s : IngressSource) (g : List FrameFrame), q = ((i : Int), tpT s g) ∧ i ≤ 80 ∧ Sam first cuts l (i + 1) 0 s g) (fun t => ∃ (n : Nat) (s : IngressSource) (g : List FrameFrame), t = .go (tpT s g) ∧ n ≤ 81 ∧ Sam first cuts l n 0 s g)
      (fun q => (80 - q.1).toNat) q (gLaw11IngressSame.loop1 x2 l q) := by
  obtain ⟨i, s, g, rfl, hi, hs⟩ := hq
  unfold gLaw11IngressSame.loop1
  dsimp only [tpT]
  by_cases hc : (i : Int) < lenL x2 ∧ (i : Int) < 80
  · have hlen : lenL l = (l.length : Int) := rfl
    have hnz : NonZ (lenL l) := by unfold NonZ; omega
    rw [ltI_d, ltI_d, pickB_and, ← Bool.decide_and, decide_eq_true hc, cond_true, need_t ⟨by omega, hc.1⟩, need_t hnz, need_t hnz]
    obtain ⟨a, ha, ha2⟩ : ∃ a : Nat, remI (addI .i64 (remI (nthI x2 (i : Int)) (lenL l)) (lenL l)) (lenL l) = (a : Int) ∧ a < l.length := by
      generalize nthI x2 (i : Int) = v
      have hp : 0 < lenL l := by omega
      have r1 : -lenL l < remI v (lenL l) ∧ remI v (lenL l) < lenL l := by
        unfold remI
        have := Int.tmod_lt_of_pos v hp
        have := Int.lt_tmod_of_pos v hp
        omega
      have h60 := hl.len
      have r2 : addI .i64 (remI v (lenL l)) (lenL l) = remI v (lenL l) + lenL l := addI_n (by omega) (by omega)
      rw [r2]
      have r3 : 0 ≤ remI (remI v (lenL l) + lenL l) (lenL l) ∧ remI (remI v (lenL l) + lenL l) (lenL l) < lenL l := by
        generalize remI v (lenL l) = z at r1
        unfold remI
        rw [Int.tmod_eq_emod_of_nonneg (by omega)]
        exact ⟨Int.emod_nonneg _ (by omega), Int.emod_lt_of_pos _ hp⟩
      exact ⟨(remI (remI v (lenL l) + lenL l) (lenL l)).toNat, by omega, by omega⟩
    obtain ⟨g', s', e1, e2, _⟩ := same_put hs hl (by omega) a ha2
    have ei : addI .i64 (i : Int) 1 = ((i + 1 : Nat) : Int) := by rw [addI_n (by omega) (by omega)]; omega
    rw [ha, eta_same, e1, bind_so, ei]
    exact ⟨⟨i + 1, s', g', rfl, by omega, e2⟩, by show (80 - ((i + 1 : Nat) : Int)).toNat < (80 - (i : Int)).toNat; omega⟩
  · rw [ltI_d, ltI_d, pickB_and, ← Bool.decide_and, decide_eq_false hc, cond_false]
    exact ⟨i + 1, s, g, rfl, by omega, hs⟩

theorem same_round2 {first : Int} {cuts : List Int} {l : List Pk} (hl : Strm first cuts l) (n0 : Nat) (hn0 : n0 ≤ 81) (q : Int × TSt) (hq : ∃ (i : Nat) (s : IngressSource) (g : List FrameFrame), q = ((i : Int), tpT s g) ∧ i ≤ l.length ∧ Sam first cuts l (n0 + i) i s g) :
    RoundP (fun q => ∃ (i : Nat) (s : IngressSource) (g : List FrameFrame), q = ((i : Int), tpT s g) ∧ i ≤ l.length ∧ Sam first cuts l (n0 + i) i s g) (fun t => ∃ (n : Nat) (s : IngressSource) (g : List FrameFrame), t = .go (tpT s g) ∧ Sam first cuts l n l.length s g)
      (fun q => (60 - q.1).toNat) q (gLaw11IngressSame.loop2 l q) := by
  obtain ⟨i, s, g, rfl, hi, hs⟩ := hq
  have h60 := hl.len
  unfold gLaw11IngressSame.loop2
  dsimp only [tpT]
  by_cases hc : (i : Int) < lenL l
  · have hi2 : i < l.length := by rw [lenL_def] at hc; omega
    obtain ⟨g', s', e1, _, e2⟩ := same_put hs hl (by omega) i hi2
    have ei : addI .i64 (i : Int) 1 = ((i + 1 : Nat) : Int) := by rw [addI_n (by omega) (by omega)]; omega
    rw [ltI_d, decide_eq_true hc, cond_true, eta_same, e1, bind_so, ei]
    exact ⟨⟨i + 1, s', g', rfl, by omega, e2 rfl⟩, by show (60 - ((i + 1 : Nat) : Int)).toNat < (60 - (i : Int)).toNat; omega⟩
  · rw [ltI_d, decide_eq_false hc, cond_false]
    have e : i = l.length := by rw [lenL_def] at hc; omega
    rw [e] at hs
    exact ⟨_, s, g, rfl, hs⟩

theorem neS_same (x : ByteArray) : neS x x = false := by
  show (!(x.toList == x.toList)) = false
  simp
theorem seq_at {first : Int} {cuts : List Int} {l : List Pk} (hall : StC first cuts 0 0 0 l) {q : Int} (h0 : 0 ≤ q) (hq : q < lenL l) : cvtI .u16 (1048576 + first % 65536 + q) = (nthI l q).fSeq := by
  obtain ⟨j, rfl⟩ : ∃ j : Nat, q = (j : Int) := ⟨q.toNat, by omega⟩
  obtain ⟨i', k', n', e⟩ := stC_nth hall j (by rw [lenL_def] at hq; omega)
  rw [e]
  show IntKind.u16.wrap _ = addI .u16 first (cvtI .u16 (0 + (j : Int)))
  unfold addI cvtI
  rw [wrapU16, wrapU16, wrapU16]; omega

theorem same_four {first : Int} {cuts : List Int} {l : List Pk} (hl : Strm first cuts l) {g : List Un} {q i : Int} (hu : UnsAt l (1048576 + first % 65536) q g) (hq0 : 0 ≤ q) (hq : q + lenL g ≤ lenL l) (v2 : TSt) (p : Int) (hv : nthI v2.2.2.2.2.2.2.2.2.2.2.2 i = ⟨g⟩) :
    loopF (gLaw11IngressSame.loop4 l (i, p) v2) (0, q) = some (.go (q + lenL g)) := by
  have h60 := hl.len
  have hlen : lenL l = (l.length : Int) := rfl
  obtain ⟨t, h1, rfl⟩ := loop_ends (body := gLaw11IngressSame.loop4 l (i, p) v2) (fun s => 0 ≤ s.1 ∧ s.1 ≤ lenL g ∧ s.2 = q + s.1) (fun t => t = .go (q + lenL g)) (fun s => (lenL g - s.1).toNat) (fun s hs => by
    obtain ⟨a, b⟩ := s
    obtain ⟨h0, h1, h2⟩ := hs
    simp only at h0 h1 h2
    subst h2
    unfold gLaw11IngressSame.loop4
    dsimp only
    rw [hv]
    dsimp only
    by_cases hc : a < lenL g
    · obtain ⟨u1, u2⟩ := hu a h0 hc
      have hin : InB (q + a) (lenL l) := ⟨by omega, by omega⟩
      have hs2 := seq_at hl.all hin.1 hin.2
      have hs3 : neI (cvtI .u16 (nthI g a).fAt) (nthI l (q + a)).fSeq = false := by
        have : 1048576 + first % 65536 + q + a = 1048576 + first % 65536 + (q + a) := by omega
        rw [u2, this, hs2, neI_d]; simp
      rw [ltI_d, decide_eq_true hc, cond_true, need_t ⟨h0, hc⟩, need_t hin, need_t (under_of hin), u1, neS_same, hs3]
      have hb : pickB false true false = false := rfl
      rw [hb, cond_false, addI_n (by omega) (by omega), addI_n (by omega) (by omega)]
      exact ⟨⟨by show 0 ≤ a + 1; omega, by show a + 1 ≤ lenL g; omega, by show q + a + 1 = q + (a + 1); omega⟩, by show (lenL g - (a + 1)).toNat < (lenL g - a).toNat; omega⟩
    · rw [ltI_d, decide_eq_false hc, cond_false]
      have : a = lenL g := by omega
      rw [this]
      exact rfl) (0, q) ⟨Int.le_refl _, lenL_nn g, by show q = q + 0; omega⟩
  exact h1

theorem tot_nn : ∀ G : List (List Un), 0 ≤ totU G
  | [] => by decide
  | g :: r => by
    have := tot_nn r
    have := lenL_nn g
    show 0 ≤ lenL g + totU r
    omega

theorem same_three {first : Int} {x1 : List Int} {l : List Pk} (hl : Strm first x1 l) {G : List (List Un)} (hG : lenL G ≤ 60) (hw : Whole x1 l (1048576 + first % 65536) 0 0 G) (ht : totU G = lenL l) (v2 : TSt) (hv : v2.2.2.2.2.2.2.2.2.2.2.2 = G.map FrameFrame.mk) :
    loopF (gLaw11IngressSame.loop3 x1 l v2) (0, 0) = some (.go (lenL l)) := by
  have h60 := hl.len
  have hlen : lenL l = (l.length : Int) := rfl
  have hln : lenL G = (G.length : Int) := rfl
  obtain ⟨t, h1, rfl⟩ := loop_ends (body := gLaw11IngressSame.loop3 x1 l v2) (fun s => ∃ i : Nat, i ≤ G.length ∧ s.1 = (i : Int) ∧ 0 ≤ s.2 ∧ Whole x1 l (1048576 + first % 65536) i s.2 (G.drop i) ∧ s.2 + totU (G.drop i) = lenL l) (fun t => t = .go (lenL l)) (fun s => (60 - s.1).toNat) (fun s hs => by
    obtain ⟨a, q⟩ := s
    obtain ⟨i, hi, rfl, hq0, hW, hT⟩ := hs
    simp only at hq0 hW hT
    unfold gLaw11IngressSame.loop3
    dsimp only
    rw [hv, lenM]
    by_cases hc : (i : Int) < lenL G
    · have hi2 : i < G.length := by omega
      rw [dropC hi2] at hW hT
      obtain ⟨w1, w2, w3, w4, w5⟩ := hW
      have hT' : q + (lenL (nthI G (i : Int)) + totU (G.drop (i + 1))) = lenL l := hT
      have hn := tot_nn (G.drop (i + 1))
      have hm : nthI (G.map FrameFrame.mk) (i : Int) = ⟨nthI G (i : Int)⟩ := nth_map _ _ (by omega) hc
      have hk : gFrameFrameKey ⟨nthI G (i : Int)⟩ = some (decide ((i : Int) % 3 = 0)) := by
        rw [key_of, w3]
        congr 1
        have : 0 < lenL (nthI G (i : Int)) := by omega
        simp [this]
      rw [ltI_d, decide_eq_true hc, cond_true, need_t ⟨by omega, hc⟩, hm, hk, bind_so, need_t (nz (show (3 : Int) ≠ 0 by decide)), rem3 (by omega), neB_d, decide_eq_false (by simp), need_t (under_of ⟨by omega, w1⟩)]
      dsimp only
      have he : neI (lenL (nthI G (i : Int))) (addI .i64 1 (bitsOp .and .i64 (nthI x1 (i : Int)) 3)) = false := by
        rw [and3, addI_n (by omega) (by omega), w2, neI_d]; simp
      have hb : pickB false true false = false := rfl
      rw [he, hb, cond_false, same_four hl w4 hq0 (by omega) v2 q (by rw [hv]; exact hm), bind_so, flC_go, addI_n (by omega) (by omega)]
      exact ⟨⟨i + 1, hi2, by show (i : Int) + 1 = ((i + 1 : Nat) : Int); omega, by show 0 ≤ q + lenL (nthI G (i : Int)); have := lenL_nn (nthI G (i : Int)); omega, by
        have : ((i + 1 : Nat) : Int) = (i : Int) + 1 := by omega
        rw [this]; exact w5, by
        show q + lenL (nthI G (i : Int)) + totU (G.drop (i + 1)) = lenL l
        omega⟩, by show (60 - ((i : Int) + 1)).toNat < (60 - (i : Int)).toNat; omega⟩
    · rw [ltI_d, decide_eq_false hc, cond_false]
      have e : i = G.length := by omega
      rw [e, List.drop_length] at hT
      have hT' : q + 0 = lenL l := hT
      have : q = lenL l := by omega
      rw [this]
      exact rfl) (0, 0) ⟨0, Nat.zero_le _, rfl, by decide, by rw [List.drop_zero]; exact hw, by rw [List.drop_zero]; show 0 + totU G = lenL l; omega⟩
  exact h1

theorem ingressSame_plain (x0 : Int) (x1 x2 : List Int) : gLaw11IngressSame x0 x1 x2 = some true := by
  unfold gLaw11IngressSame
  have hc : IngressConfig.mk (ReorderConfig.mk 64 31) (FrameConfig.mk true 400 8 31) = cfgM true 64 31 8 := rfl
  rw [awake_ok11, bind_so, notB_f', cond_false, hc, begin_eq (by decide) (by decide) (by decide) (by decide) (by decide) (by decide), bind_so]
  dsimp only
  rw [optC_some, stream_eq, bind_so, notB_f', pickB_f]
  obtain ⟨R, hR, hS⟩ := stream_stC x0 x1 57 0 []
  obtain ⟨hpk, hlen⟩ := stream_ok (first := x0) (cuts := x1) 57 0 [] (fun _ h => by cases h) (by decide)
  rw [List.nil_append] at hR
  generalize streamL x0 x1 57 0 [] = l at hR hpk hlen
  subst hR
  by_cases h0 : lenL l = 0
  · rw [eqI_t h0, cond_true]
  have hpos : 0 < l.length := by rw [lenL_def] at h0; omega
  have hl : Strm x0 x1 l := ⟨hlen, hS, hpk⟩
  rw [eqI_d, decide_eq_false h0, cond_false]
  -- the first
  have hp := hpk _ (nth_mem (l := l) (i := 0) (by omega) (by rw [lenL_def]; omega))
  have k0 := ok0 (video := true) (most := 64) (wait := 31) (units := 8) (by decide) (by decide) (by decide) (by decide)
  obtain ⟨s', o1, o2⟩ := oput_src (rel0 true 64 31 8) k0 hp (now := 0) (by omega) (by omega) (by omega) (by omega)
  have o3 := put_sok k0 hp (now := 0) (by omega) (by omega) (by omega) (by omega)
  obtain ⟨m', a1⟩ := any_first hlen hS rfl hpos
  have hg := any_len a1 hlen
  have e1 : samePut l (src0 true 64 31 8) [] 0 = some ((putM cK (ref0 true 64 31 8) (nthI l 0) 0).2.1.map FrameFrame.mk, s') := by
    unfold samePut
    have o1' : gIngressSourcePut (src0 true 64 31 8) (nthI l 0) 0 = _ := o1
    rw [need_t ⟨by omega, by rw [lenL_def]; omega⟩, o1', bind_so]
    dsimp only
    rw [lenM, need_t ⟨by show (0 + lenL (putM cK (ref0 true 64 31 8) (nthI l 0) 0).2.1) * 24 ≤ _; omega, by show 0 + lenL (putM cK (ref0 true 64 31 8) (nthI l 0) 0).2.1 ≤ _; omega⟩]
    rfl
  have hs1 : Sam x0 x1 l (0 + 1) 0 s' ((putM cK (ref0 true 64 31 8) (nthI l 0) 0).2.1.map FrameFrame.mk) := ⟨⟨_, m', 0, _, o2, SOk.mono3 o3 (by omega) (Nat.le_refl _), a1, rfl, fun j hj => absurd hj (by omega)⟩⟩
  rw [e1, bind_so]
  -- any
  obtain ⟨t, ht, n1, s1, g1, rfl, hn1, hs2⟩ := loop_ends (body := gLaw11IngressSame.loop1 x2 l) _ _ _ (fun q hq => same_round1 hl hpos x2 q hq) (((0 : Nat) : Int), tpT s' ((putM cK (ref0 true 64 31 8) (nthI l 0) 0).2.1.map FrameFrame.mk)) ⟨0, s', _, rfl, by omega, hs1⟩
  have ht' := ht
  dsimp only [tpT] at ht'
  have e0 : ((0 : Nat) : Int) = 0 := rfl
  rw [e0] at ht'
  dsimp only
  rw [ht', bind_so, flC_go]
  -- all
  obtain ⟨t, hu, n2, s2, g2, rfl, hs3⟩ := loop_ends (body := gLaw11IngressSame.loop2 l) _ _ _ (fun q hq => same_round2 hl n1 hn1 q hq) (((0 : Nat) : Int), tpT s1 g1) ⟨0, s1, g1, rfl, by omega, hs2⟩
  have hu' := hu
  dsimp only [tpT] at hu'
  rw [e0] at hu'
  dsimp only
  rw [hu', bind_so, flC_go]
  obtain ⟨X, m, mx, G, r1, r2, r3, rfl, r5⟩ := hs3.ex
  obtain ⟨z1, z2, z3, z4⟩ := any_end r3 r2 r5
  rw [same_three hl (any_len r3 hlen) z4 z3 _ rfl, bind_so, flC_go]
  dsimp only
  have es : ReorderBuffer.mk s2.fBuffer.fConfig s2.fBuffer.fBegun s2.fBuffer.fNext s2.fBuffer.fOf s2.fBuffer.fLost = s2.fBuffer := rfl
  have el : gReorderBufferLen s2.fBuffer = some 0 := by
    unfold gReorderBufferLen
    rw [r1.bf.mp.len, z1]; rfl
  have eo : gReorderBufferLost s2.fBuffer = some 0 := by
    unfold gReorderBufferLost
    rw [r1.bf.lo, z2]
  rw [es, el, eo, need_t (show Under _ true ((some (0 : Int)).isSome = true) from fun _ => rfl), need_t (show Under _ true ((some (0 : Int)).isSome = true) from fun _ => rfl), eqI_t rfl]
  rfl
end Go.Proofs
