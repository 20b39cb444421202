/- The law IngressSounds holds of its plain function. No condition. -/
import Derived.Test.YtbijdlgffebenaaM09
import Derived.Test.YtbijdlgffebenaaM01
import Derived.Test.YtbijdlgffebenaaM08
namespace Go.Proofs
open Go.Ab

def cS : FrameConfig := ⟨false, 400, 1, 9⟩
def sndX (f : Int) (i : Nat) (ck keys : Int) (L : List Came) : Antiphonref11Source :=
  .mk (if i = 0 then ⟨false, 0, -1, 0, 0⟩ else ⟨true, 1048575 + f + i, -1, 0, 0⟩) ck ⟨10, 9, decide (0 < i), if i = 0 then 0 else 1048576 + f + i, [], 0⟩ (refOf cS [] i 0) L 0 keys

theorem snd_seq (f : Int) (i : Nat) (ck keys : Int) (L : List Came) (x1 : Int) (hf : f = x1 % 65536) (hi : i ≤ 30) :
    seqM (sndX f i ck keys L).fSeq (addI .u16 x1 (cvtI .u16 i)) = (⟨true, 1048575 + f + ((i + 1 : Nat) : Int), -1, 0, 0⟩, 1048576 + f + i, true) := by
  have hn : addI .u16 x1 (cvtI .u16 i) = (x1 + i) % 65536 := by unfold addI cvtI; rw [wrapU16, wrapU16]; omega
  rw [hn]
  unfold sndX
  simp only
  by_cases h0 : i = 0
  · subst h0
    rw [if_pos rfl]
    unfold seqM
    rw [if_pos rfl]
    have : (x1 + ((0 : Nat) : Int)) % 65536 = f := by omega
    rw [this]
    refine Prod.ext ?_ (Prod.ext ?_ rfl)
    · show (⟨true, 1048576 + f, -1, 0, 0⟩ : Sq) = _
      congr 1; omega
    · show 1048576 + f = 1048576 + f + ((0 : Nat) : Int); omega
  · rw [if_neg h0]
    have hd : nearS (1048575 + f + i) ((x1 + i) % 65536) = 1048576 + f + i := by
      unfold nearS distS
      have : ((x1 + i) % 65536 - (1048575 + f + i) % 65536) % 65536 = 1 := by omega
      rw [this, if_pos (by decide)]; omega
    unfold seqM
    rw [if_neg (by simp)]
    simp only
    rw [hd, if_pos ⟨by omega, by omega⟩]
    refine Prod.ext ?_ rfl
    show (⟨true, max (1048575 + f + (i : Int)) (1048576 + f + i), -1, 0, 0⟩ : Sq) = _
    congr 1; omega

theorem snd_order (f : Int) (i : Nat) (ck keys : Int) (L : List Came) (now : Int) :
    putS (sndX f i ck keys L).fOrder ⟨1048576 + f + i, ⟨#[]⟩, now⟩ = (⟨10, 9, true, 1048576 + f + ((i + 1 : Nat) : Int), [], 0⟩, [⟨1048576 + f + i, ⟨#[]⟩, now⟩], 0) := by
  have hb : begS (sndX f i ck keys L).fOrder ⟨1048576 + f + i, ⟨#[]⟩, now⟩ = ⟨10, 9, true, 1048576 + f + i, [], 0⟩ := by
    unfold begS sndX
    simp only
    by_cases h0 : i = 0
    · subst h0
      rw [if_neg (by decide)]
    · rw [if_pos (by simp; omega), if_neg h0]
      congr 1
      simp; omega
  unfold putS
  rw [hb]
  simp only
  rw [if_neg (by omega)]
  have hh : hasL (1048576 + f + i) (sndX f i ck keys L).fOrder.fL = false := rfl
  rw [hh, if_neg (by simp)]
  have hr : runS (addS ⟨10, 9, true, 1048576 + f + i, [], 0⟩ ⟨1048576 + f + i, ⟨#[]⟩, now⟩) = (⟨10, 9, true, 1048576 + f + i + 1, [], 0⟩, [⟨1048576 + f + i, ⟨#[]⟩, now⟩]) := by
    unfold runS addS insL
    simp only
    have hq : runL (1048576 + f + i) [⟨1048576 + f + i, ⟨#[]⟩, now⟩] = ([⟨1048576 + f + i, ⟨#[]⟩, now⟩], 1048576 + f + i + 1, []) := by
      rw [runL_t (t := ⟨1048576 + f + (i : Int), ⟨#[]⟩, now⟩) (show _ = _ from rfl)]; rfl
    rw [hq]
  rw [hr]
  simp only [List.length_nil, whileS, List.append_nil]
  have : 1048576 + f + (i : Int) + 1 = 1048576 + f + ((i + 1 : Nat) : Int) := by omega
  rw [this]

theorem snd_put (f : Int) (i : Nat) (ck keys : Int) (L : List Came) (x1 : Int) (hf : f = x1 % 65536) (hi : i < 30) (p : Pk) (hp : p.fSeq = addI .u16 x1 (cvtI .u16 i)) (htx : lenS p.fPayload ≤ 40) (now : Int) (hL : ∀ m ∈ L, m.fAt < 1048576 + f + i) :
    ∃ ck' keys' u, putM cS (sndX f i ck keys L) p now = (sndX f (i + 1) ck' keys' (L ++ [⟨1048576 + f + i, p⟩]), [[u]], 0) ∧ u.fText = p.fPayload ∧ u.fKey = false := by
  have h1 := snd_seq f i ck keys L x1 hf (by omega)
  rw [← hp] at h1
  have h2 := snd_order f i ck keys L now
  have hnew : findP (L ++ [(⟨1048576 + f + i, p⟩ : Came)]) (1048576 + f + i) = p := findP_new fun m hm e => by have := hL m hm; omega
  generalize hu : (unitM false ck (L ++ [(⟨1048576 + f + i, p⟩ : Came)]) ⟨1048576 + f + i, ⟨#[]⟩, now⟩) = uu
  have ht : uu.1.fText = p.fPayload := by
    rw [← hu]
    show (findP (L ++ [(⟨1048576 + f + i, p⟩ : Came)]) (1048576 + f + i)).fPayload = _
    rw [hnew]
  have hk : uu.1.fKey = false := by rw [← hu]; rfl
  have hfol : folB [] uu.1 = false := rfl
  have hput : putP cS [] i 0 uu.1 = ⟨[uu.1], true, [], ((i + 1 : Nat) : Int), 0⟩ := by
    unfold putP
    rw [hfol, if_neg (by simp), if_neg (by rintro ⟨h, _⟩; cases h)]
    unfold putC
    have hs : sizeN ([] ++ [uu.1]) = lenS uu.1.fText := by simp [sizeN]
    rw [if_neg (by
      rintro (h | h)
      · have h' : (1 : Int) < 1 := h
        exact absurd h' (by decide)
      · rw [hs, ht] at h
        have : (400 : Int) < lenS p.fPayload := h
        omega), if_neg (by rintro ⟨h, _⟩; cases h)]
    have a1 : addI .i64 (i : Int) 1 = ((i + 1 : Nat) : Int) := by rw [addI_n (by omega) (by omega)]; omega
    have a0 : addI .i64 0 (lenL ([] : List Un)) = 0 := by decide
    rw [a1, a0]; rfl
  have hstep : stepM cS (L ++ [(⟨1048576 + f + i, p⟩ : Came)]) (fsOf (sndX f i ck keys L)) ⟨1048576 + f + i, ⟨#[]⟩, now⟩ = (⟨uu.2, [], ((i + 1 : Nat) : Int), 0, keys⟩, [uu.1]) := by
    unfold stepM
    simp only
    have e1 : (fsOf (sndX f i ck keys L)).ck = ck := rfl
    have e2 : (fsOf (sndX f i ck keys L)).o = [] := rfl
    have e3 : (fsOf (sndX f i ck keys L)).w = i := rfl
    have e4 : (fsOf (sndX f i ck keys L)).l = 0 := rfl
    have e5 : (fsOf (sndX f i ck keys L)).keys = keys := rfl
    have e6 : cS.fVideo = false := rfl
    rw [e1, e2, e3, e4, e5, e6, hu, hput]
    simp only
    have hkk : (nthI [uu.1] 0).fKey = false := hk
    rw [hkk, if_neg (by simp)]
  have hfr : framesM cS (L ++ [(⟨1048576 + f + i, p⟩ : Came)]) [⟨1048576 + f + i, ⟨#[]⟩, now⟩] (fsOf (sndX f i ck keys L)) = (⟨uu.2, [], ((i + 1 : Nat) : Int), 0, keys⟩, [[uu.1]]) := by
    unfold framesM framesM
    simp only
    rw [hstep]
    rfl
  refine ⟨uu.2, keys, uu.1, ?_, ht, hk⟩
  rw [put_taken h1 h2 hfr]
  refine Prod.ext ?_ rfl
  show Antiphonref11Source.mk _ uu.2 _ (refOf cS [] ((i + 1 : Nat) : Int) 0) _ _ keys = _
  unfold sndX
  have h0 : ¬ (i + 1 = 0) := by omega
  rw [if_neg h0, if_neg h0]
  congr 1

theorem SOk.mono1 {X : Antiphonref11Source} {c : FrameConfig} {B B' : Int} {k k' : Nat} (h : SOk X c B k) (hB : B ≤ B') (hk : k ≤ k') : SOk X c B' k' :=
  ⟨⟨fun hb => ⟨(h.sq.bg hb).1, by have := (h.sq.bg hb).2; omega⟩, h.sq.nb, h.sq.run⟩, h.od, h.mkr, h.hd, h.cm, by have := h.ln; omega, h.un⟩
abbrev SSt := Int × (List (Int × Antiphonref09Thing)) × ReorderConfig × Bool × Int × Int × FrameMaker × (List (Int × Antiphonref03Packet)) × ExtendSeq × ExtendClock × Int × Int
def tpN (i : Int) (s : IngressSource) : SSt := (i, s.fBuffer.fOf, s.fBuffer.fConfig, s.fBuffer.fBegun, s.fBuffer.fNext, s.fBuffer.fLost, s.fMaker, s.fOf, s.fSeq, s.fClock, s.fBad, s.fKeys)
def sndI (x0 : List ByteArray) (f : Int) (q : SSt) : Prop := ∃ (i : Nat) (s : IngressSource) (ck keys : Int) (L : List Came), q = tpN i s ∧ i ≤ 30 ∧ (i : Int) ≤ lenL x0 ∧ SRel s (sndX f i ck keys L) cS ∧ SOk (sndX f i ck keys L) cS (2000000 + 200000 * i) i ∧ ∀ m ∈ L, m.fAt < 1048576 + f + i
theorem neS_rfl (x : ByteArray) : neS x x = false := by
  show (!(x.toList == x.toList)) = false
  simp

theorem snd_round (x0 : List ByteArray) (x1 f : Int) (hf : f = x1 % 65536) (q : SSt) (hq : sndI x0 f q) :
    RoundP (sndI x0 f) (fun t : Fl ((List (Int × Antiphonref09Thing)) × ReorderConfig × Bool × Int × Int × FrameMaker × (List (Int × Antiphonref03Packet)) × ExtendSeq × ExtendClock × Int × Int) Bool =>
      ∃ (i : Nat) (s : IngressSource) (ck keys : Int) (L : List Came), t = .go (s.fBuffer.fOf, s.fBuffer.fConfig, s.fBuffer.fBegun, s.fBuffer.fNext, s.fBuffer.fLost, s.fMaker, s.fOf, s.fSeq, s.fClock, s.fBad, s.fKeys) ∧ (i : Int) = min (lenL x0) 30 ∧ SRel s (sndX f i ck keys L) cS)
      (fun q => (30 - q.1).toNat) q (gLaw11IngressSounds.loop2 x0 x1 q) := by
  obtain ⟨i, s, ck, keys, L, rfl, hi, hir, hr, h, hL⟩ := hq
  unfold gLaw11IngressSounds.loop2
  dsimp only [tpN]
  have hl0 := lenL_nn x0
  by_cases hc : (i : Int) < lenL x0 ∧ (i : Int) < 30
  · rw [ltI_d, ltI_d, pickB_and, ← Bool.decide_and, decide_eq_true hc, cond_true, need_t ⟨by omega, hc.1⟩]
    obtain ⟨t, ht, htl⟩ := cut_ok (nthI x0 (i : Int))
    rw [ht, bind_so]
    generalize hp : (Antiphonref03Packet.mk false 0 (addI .u16 x1 (cvtI .u16 i)) (cvtI .u32 (mulI .i64 960 i)) 0 [] false 0 ⟨#[]⟩ t 0) = p
    have hpay : p.fPayload = t := by rw [← hp]
    have hpk : POk p := by
      rw [← hp]
      refine ⟨?_, ?_, ?_, ?_, htl⟩
      · show 0 ≤ IntKind.u16.wrap _
        rw [wrapU16]; omega
      · show IntKind.u16.wrap _ < _
        rw [wrapU16]; omega
      · show 0 ≤ IntKind.u32.wrap _
        rw [wrapU32]; omega
      · show IntKind.u32.wrap _ < _
        rw [wrapU32]; omega
    obtain ⟨ck', keys', u, e1, e2, e3⟩ := snd_put f i ck keys L x1 hf (by omega) p (by rw [← hp]) (by rw [hpay]; exact htl) i hL
    obtain ⟨s', o1, o2⟩ := oput_src hr h hpk (now := i) (by omega) (by omega) (by omega) (by omega)
    have h2 := put_sok h hpk (now := (i : Int)) (by omega) (by omega) (by omega) (by omega)
    rw [e1] at o1 o2 h2
    have es : IngressSource.mk (ReorderBuffer.mk s.fBuffer.fConfig s.fBuffer.fBegun s.fBuffer.fNext s.fBuffer.fOf s.fBuffer.fLost) s.fMaker s.fSeq s.fClock s.fOf s.fBad s.fKeys = s := rfl
    rw [es, o1, bind_so]
    dsimp only
    have f1 : ([[u]].map FrameFrame.mk) = [⟨[u]⟩] := rfl
    have m1 : lenL [(⟨[u]⟩ : FrameFrame)] = 1 := rfl
    have m0 : nthI [(⟨[u]⟩ : FrameFrame)] 0 = ⟨[u]⟩ := rfl
    have u1 : lenL [u] = 1 := rfl
    have u0 : nthI [u] 0 = u := rfl
    have hk : gFrameFrameKey ⟨[u]⟩ = some false := by rw [key_of, u0, e3]; rfl
    rw [f1, m1, m0]
    dsimp only
    rw [u1, u0, e2, hpay, neS_rfl, hk]
    have in1 : InB 0 1 := by decide
    rw [need_t (under_of in1), need_t (under_of in1), need_t (under_of in1), need_t (under_of in1), need_t (show Under _ false ((some false).isSome = true) from fun _ => rfl)]
    have hb : pickB (pickB (pickB (pickB (neI 0 0) true (neI 1 1)) true (neI 1 1)) true false) true ((some false).getD dflt) = false := rfl
    rw [hb, cond_false]
    have hi1 : addI .i64 (i : Int) 1 = ((i + 1 : Nat) : Int) := by rw [addI_n (by omega) (by omega)]; omega
    rw [hi1]
    refine ⟨⟨i + 1, s', ck', keys', _, rfl, by omega, by omega, o2, SOk.mono1 h2 (by omega) (Nat.le_refl _), fun m hm => ?_⟩, by show (30 - ((i + 1 : Nat) : Int)).toNat < (30 - (i : Int)).toNat; omega⟩
    rcases List.mem_append.1 hm with hm | hm
    · have := hL m hm; omega
    · rw [List.mem_singleton.1 hm]; show 1048576 + f + (i : Int) < _; omega
  · rw [ltI_d, ltI_d, pickB_and, ← Bool.decide_and, decide_eq_false hc, cond_false]
    exact ⟨i, s, ck, keys, L, rfl, by omega, hr⟩

theorem ingressSounds_plain (x0 : List ByteArray) (x1 : Int) : gLaw11IngressSounds x0 x1 = some true := by
  unfold gLaw11IngressSounds
  have hc : gLaw11Config false 9 9 0 = some (cfgM false 10 9 1) := by
    unfold gLaw11Config
    rw [need_t (show NonZ 40 by decide)]
    kernel_rfl
  rw [awake_ok11, bind_so, notB_f', cond_false, hc, bind_so, begin_eq (by decide) (by decide) (by decide) (by decide) (by decide) (by decide), bind_so]
  dsimp only
  rw [optC_some, notB_f', cond_false]
  obtain ⟨t, ht, i, s, ck, keys, L, rfl, hi, hr⟩ := loop_ends (body := gLaw11IngressSounds.loop2 x0 x1) (sndI x0 (x1 % 65536)) _ _ (fun q hq => snd_round x0 x1 _ rfl q hq)
    (tpN 0 (src0 false 10 9 1)) ⟨0, _, -1, 0, [], rfl, by omega, lenL_nn x0, rel0 false 10 9 1, ok0 (by decide) (by decide) (by decide) (by decide), fun _ h => by cases h⟩
  have ht' := ht
  dsimp only [tpN] at ht'
  rw [ht', bind_so, flC_go]
  have es : IngressSource.mk (ReorderBuffer.mk s.fBuffer.fConfig s.fBuffer.fBegun s.fBuffer.fNext s.fBuffer.fOf s.fBuffer.fLost) s.fMaker s.fSeq s.fClock s.fOf s.fBad s.fKeys = s := rfl
  dsimp only
  have e1 : gIngressSourceCounts s = some ((i : Int), 0) := by
    unfold gIngressSourceCounts
    rw [hr.mkr]; rfl
  have e2 : gIngressSourceBad s = some 0 := by unfold gIngressSourceBad; rw [hr.bad]; rfl
  rw [es, e1, bind_so, e2]
  dsimp only
  rw [need_t (show Under _ true ((some (0 : Int)).isSome = true) from fun _ => rfl), minI_d, ← hi]
  have : pickB (pickB (eqI (i : Int) i) (eqI 0 0) false) (eqI ((some (0 : Int)).getD dflt) 0) false = true := by
    rw [eqI_t rfl]; rfl
  rw [this]
end Go.Proofs
