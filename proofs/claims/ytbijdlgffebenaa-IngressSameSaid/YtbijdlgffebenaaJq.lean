/- A stream of packets, with what was cut; what a source has given behind any of them. No condition. -/
import Derived.Test.YtbijdlgffebenaaM05
namespace Go.Proofs
open Go.Ab

def cK : FrameConfig := ⟨true, 400, 8, 31⟩
/-! ### The stream, with what was cut -/
def StC (first : Int) (cuts : List Int) : Int → Int → Int → List Pk → Prop
  | _, _, k, [] => k = 0
  | j, i, k, p :: r => 0 ≤ k ∧ k < 1 + nthI cuts i % 4 ∧ i < lenL cuts ∧ p = pktM first i k (1 + nthI cuts i % 4) j ∧
      ((k + 1 = 1 + nthI cuts i % 4 ∧ StC first cuts (j + 1) (i + 1) 0 r) ∨ (k + 1 < 1 + nthI cuts i % 4 ∧ StC first cuts (j + 1) i (k + 1) r))
theorem stC_pic (first : Int) (cuts : List Int) (i : Int) (hi : i < lenL cuts) (R : List Pk) : ∀ (f : Nat) (k j : Int), 0 ≤ k → k < 1 + nthI cuts i % 4 → (1 + nthI cuts i % 4) - k ≤ f →
    StC first cuts (j + ((1 + nthI cuts i % 4) - k)) (i + 1) 0 R → StC first cuts j i k (pcsL first i (1 + nthI cuts i % 4) f k j ++ R)
  | 0, k, j, h0, h1, h2, _ => by omega
  | f + 1, k, j, h0, h1, h2, hR => by
    unfold pcsL
    rw [if_pos h1, List.cons_append]
    refine ⟨h0, h1, hi, rfl, ?_⟩
    by_cases hk : k + 1 = 1 + nthI cuts i % 4
    · left
      refine ⟨hk, ?_⟩
      have he : pcsL first i (1 + nthI cuts i % 4) f (k + 1) (j + 1) = [] := by
        cases f with
        | zero => rfl
        | succ f => unfold pcsL; rw [if_neg (by omega)]
      rw [he, List.nil_append]
      have : j + ((1 + nthI cuts i % 4) - k) = j + 1 := by omega
      rw [this] at hR
      exact hR
    · right
      refine ⟨by omega, stC_pic first cuts i hi R f (k + 1) (j + 1) (by omega) (by omega) (by omega) ?_⟩
      have : j + 1 + ((1 + nthI cuts i % 4) - (k + 1)) = j + ((1 + nthI cuts i % 4) - k) := by omega
      rw [this]; exact hR
theorem stream_stC (first : Int) (cuts : List Int) : ∀ (f : Nat) (i : Int) (acc : List Pk), ∃ R, streamL first cuts f i acc = acc ++ R ∧ StC first cuts (lenL acc) i 0 R
  | 0, i, acc => ⟨[], by simp [streamL], rfl⟩
  | f + 1, i, acc => by
    unfold streamL
    split
    · rename_i hc
      obtain ⟨R, h1, h2⟩ := stream_stC first cuts f (i + 1) (pictL first i (1 + nthI cuts i % 4) 4 0 acc)
      rw [h1]
      rw [pict_suf] at h2 ⊢
      refine ⟨pcsL first i (1 + nthI cuts i % 4) 4 0 (lenL acc) ++ R, by simp, ?_⟩
      refine stC_pic first cuts i hc.1 R 4 0 (lenL acc) (by omega) (by omega) (by omega) ?_
      have hl := pcsL_len first i (1 + nthI cuts i % 4) 4 0 (lenL acc) (by omega) (by omega)
      have : lenL (acc ++ pcsL first i (1 + nthI cuts i % 4) 4 0 (lenL acc)) = lenL acc + (1 + nthI cuts i % 4 - 0) := by
        simp only [lenL_def, List.length_append, Int.natCast_add] at hl ⊢
        omega
      rw [this] at h2
      exact h2
    · exact ⟨[], by simp, rfl⟩
theorem stC_nth {first : Int} {cuts : List Int} : ∀ {R : List Pk} {j i k : Int}, StC first cuts j i k R → ∀ a : Nat, a < R.length → ∃ i' k' n', nthI R (a : Int) = pktM first i' k' n' (j + a)
  | p :: r, j, i, k, h, 0, _ => by
    obtain ⟨_, _, _, hp, _⟩ := h
    have e : j + ((0 : Nat) : Int) = j := by omega
    rw [e]
    exact ⟨i, k, _, hp⟩
  | p :: r, j, i, k, h, a + 1, ha => by
    obtain ⟨_, _, _, _, hn⟩ := h
    have hl : a < r.length := by simpa using ha
    have e : nthI (p :: r) ((a + 1 : Nat) : Int) = nthI r (a : Int) := by
      unfold nthI
      have : ((a + 1 : Nat) : Int).toNat = (a : Int).toNat + 1 := by omega
      rw [this]; rfl
    have e2 : j + ((a + 1 : Nat) : Int) = (j + 1) + a := by omega
    rw [e, e2]
    rcases hn with ⟨_, hn⟩ | ⟨_, hn⟩
    · exact stC_nth hn a hl
    · exact stC_nth hn a hl

/-! ### One packet, in its order -/
theorem unit_more {c : FrameConfig} {ck : Int} {L : List Came} {at_ now : Int} {first i k n j : Int} (hv : c.fVideo = true) (hf : findP L at_ = pktM first i k n j) :
    (unitM c.fVideo ck L ⟨at_, ⟨#[]⟩, now⟩).1.fText = payM i k ∧ (k = 0 → (unitM c.fVideo ck L ⟨at_, ⟨#[]⟩, now⟩).1.fKey = decide (i % 3 = 0)) := by
  have hp : (pktM first i k n j).fPayload = payM i k := rfl
  have hl : lenS (payM i k) = 4 := pay_len i k
  unfold unitM
  simp only
  rw [hf, hp]
  refine ⟨rfl, fun h0 => ?_⟩
  subst h0
  have hb : idxS (payM i 0) 0 = 16 := rfl
  have hc : lenS (cutS (payM i 0) 1 4) = 3 := by
    unfold payM
    split <;> rfl
  have hd : idxS (cutS (payM i 0) 1 4) 0 = if i % 3 = 0 then 0 else 1 := by
    unfold payM
    by_cases h : i % 3 = 0
    · rw [if_pos h]; rfl
    · rw [if_neg h]; rfl
  rw [pars_plain (by rw [hl]; decide) (by rw [hb]; decide), hv, hl, hb]
  unfold keyP
  simp only
  rw [hc, hd]
  by_cases h : i % 3 = 0
  · rw [if_pos h, decide_eq_true h]; rfl
  · rw [if_neg h, decide_eq_false h]; rfl

/-! ### Whole pictures -/
def UnsAt (l : List Pk) (B q : Int) (g : List Un) : Prop := ∀ a : Int, 0 ≤ a → a < lenL g → (nthI g a).fText = (nthI l (q + a)).fPayload ∧ (nthI g a).fAt = B + q + a
def totU : List (List Un) → Int
  | [] => 0
  | g :: r => lenL g + totU r
def Whole (cuts : List Int) (l : List Pk) (B : Int) : Int → Int → List (List Un) → Prop
  | _, _, [] => True
  | i, q, g :: r => i < lenL cuts ∧ lenL g = 1 + nthI cuts i % 4 ∧ (nthI g 0).fKey = decide (i % 3 = 0) ∧ UnsAt l B q g ∧ Whole cuts l B (i + 1) (q + lenL g) r
theorem totU_snoc (g : List Un) : ∀ G : List (List Un), totU (G ++ [g]) = totU G + lenL g
  | [] => by simp [totU]
  | a :: r => by
    show lenL a + totU (r ++ [g]) = lenL a + totU r + lenL g
    rw [totU_snoc g r]; omega
theorem whole_snoc {cuts : List Int} {l : List Pk} {B : Int} {g : List Un} : ∀ {G : List (List Un)} {i q : Int}, Whole cuts l B i q G → i + lenL G < lenL cuts → lenL g = 1 + nthI cuts (i + lenL G) % 4 → (nthI g 0).fKey = decide ((i + lenL G) % 3 = 0) →
    UnsAt l B (q + totU G) g → Whole cuts l B i q (G ++ [g])
  | [], i, q, _, h1, h2, h3, h4 => by
    have e1 : i + lenL ([] : List (List Un)) = i := by show i + 0 = i; omega
    have e2 : q + totU [] = q := by show q + 0 = q; omega
    rw [e1] at h1 h2 h3
    rw [e2] at h4
    exact ⟨h1, h2, h3, h4, trivial⟩
  | a :: r, i, q, h, h1, h2, h3, h4 => by
    obtain ⟨w1, w2, w3, w4, w5⟩ := h
    have e1 : i + lenL (a :: r) = i + 1 + lenL r := by simp only [lenL_def, List.length_cons]; omega
    have e2 : q + totU (a :: r) = q + lenL a + totU r := by
      show q + (lenL a + totU r) = _
      omega
    rw [e1] at h1 h2 h3
    rw [e2] at h4
    exact ⟨w1, w2, w3, w4, whole_snoc w5 h1 h2 h3 h4⟩
theorem uns_snoc {l : List Pk} {B q : Int} {o : List Un} {u : Un} (h : UnsAt l B q o) (h1 : u.fText = (nthI l (q + lenL o)).fPayload) (h2 : u.fAt = B + q + lenL o) : UnsAt l B q (o ++ [u]) := by
  intro a ha0 ha
  by_cases hc : a < lenL o
  · rw [nth_app_lt o u ha0 hc]
    exact h a ha0 hc
  · have e : a = lenL o := by
      simp only [lenL_def, List.length_append, List.length_cons, List.length_nil] at ha hc ⊢
      omega
    subst e
    rw [nth_app_eq]
    exact ⟨h1, h2⟩

/-- What has been given behind m packets. -/
structure Del (first : Int) (cuts : List Int) (l : List Pk) (B : Int) (m : Nat) (σ : FS) (G : List (List Un)) : Prop where
  st : ∃ i k : Int, StC first cuts m i k (l.drop m) ∧ 0 ≤ i ∧ i ≤ m ∧ 0 ≤ k ∧ OpenOk B m i k σ.o ∧ (σ.ck = -1 ∨ σ.ck = tick0 + 3000 * i ∨ σ.ck = tick0 + 3000 * (i - 1)) ∧ (σ.ck = -1 → i = 0) ∧ σ.w = i ∧ lenL G = i ∧ totU G + k = m ∧
    UnsAt l B (totU G) σ.o ∧ (0 < k → (nthI σ.o 0).fKey = decide (i % 3 = 0))
  wh : Whole cuts l B 0 0 G
  l0 : σ.l = 0
  ml : m ≤ l.length

theorem del_step {first : Int} {cuts : List Int} {l : List Pk} {B : Int} {m : Nat} {σ : FS} {G : List (List Un)} {L : List Came} {t : Thg} (h : Del first cuts l B m σ G) (hm : m < l.length) (hl : l.length ≤ 60) (hB0 : 0 ≤ B) (hB : B ≤ 2000000)
    (hat : t.fAt = B + m) (hf : findP L (B + m) = nthI l (m : Int)) : Del first cuts l B (m + 1) (stepM cK L σ t).1 (if 0 < lenL (stepM cK L σ t).2 then G ++ [(stepM cK L σ t).2] else G) := by
  obtain ⟨i, k, hS, hi0, him, hk0, hO, hck, hc0, hw, hG, ht, hU, hK⟩ := h.st
  have hd := dropC hm
  rw [hd] at hS
  obtain ⟨_, hkn, hic, hp, hnx⟩ := hS
  have hpay : (nthI l (m : Int)).fPayload = payM i k := by rw [hp]; rfl
  rw [hp] at hf
  obtain ⟨ta, tx, tt⟩ := t
  simp only at hat
  subst hat
  obtain ⟨u1, u2, u3, u4, u5, u6⟩ := unit_of (c := cK) (ck := σ.ck) (now := tt) rfl hf hi0 (by omega) hck hc0
  obtain ⟨v1, v2⟩ := unit_more (c := cK) (ck := σ.ck) (now := tt) rfl hf
  generalize hu : (unitM cK.fVideo σ.ck L ⟨B + m, ⟨#[]⟩, tt⟩) = uu at u1 u2 u3 u4 u5 u6 v1 v2
  obtain ⟨u, ck2⟩ := uu
  simp only at u1 u2 u3 u4 u5 u6 v1 v2
  subst u6
  have hw0 := hw
  obtain ⟨p1, p2, p3⟩ := put_in (w := σ.w) hk0 hkn (by omega) hB0 hB (by omega) (by omega) hO (by omega) (by omega) u1 u2 u3 u4 u5
  obtain ⟨ks, hst⟩ : ∃ ks, stepM cK L σ ⟨B + m, tx, tt⟩ = (⟨tick0 + 3000 * i, (putP cL σ.o σ.w 0 u).o, (putP cL σ.o σ.w 0 u).w, (putP cL σ.o σ.w 0 u).l, ks⟩, (putP cL σ.o σ.w 0 u).out) := by
    have hu' : unitM cK.fVideo σ.ck L ⟨B + m, tx, tt⟩ = (u, tick0 + 3000 * i) := hu
    unfold stepM
    simp only
    rw [hu', h.l0]
    exact ⟨_, rfl⟩
  have hlo : lenL σ.o = k := hO.len
  have hus : UnsAt l B (totU G) (σ.o ++ [u]) := by
    refine uns_snoc hU ?_ ?_
    · have e : totU G + lenL σ.o = m := by omega
      rw [e, hpay, v1]
    · rw [u1]; omega
  have hky : (nthI (σ.o ++ [u]) 0).fKey = decide (i % 3 = 0) := by
    by_cases hk : 0 < k
    · rw [nth_app_lt _ _ (by omega) (by omega)]
      exact hK hk
    · have e : nthI (σ.o ++ [u]) 0 = u := by
        have := nth_app_eq σ.o u
        rw [hlo] at this
        have e0 : k = 0 := by omega
        rw [e0] at this
        exact this
      rw [e]
      exact v2 (by omega)
  have hj1 : ((m + 1 : Nat) : Int) = (m : Int) + 1 := by omega
  rw [hst, p1]
  by_cases hk : k + 1 = 1 + nthI cuts i % 4
  · simp only [if_pos hk]
    rw [if_pos (by rw [p2]; omega)]
    have hS' : StC first cuts ((m : Int) + 1) (i + 1) 0 (l.drop (m + 1)) := by
      rcases hnx with ⟨_, h1⟩ | ⟨h1, _⟩
      · exact h1
      · omega
    refine ⟨⟨i + 1, 0, by rw [hj1]; exact hS', by omega, by omega, by omega, ⟨rfl, fun h => absurd h (by omega), by simp [sizeN]⟩, ?_, fun h => ?_, ?_, ?_, ?_, fun a h0 h1 => ?_, fun h => absurd h (by omega)⟩, ?_, rfl, hm⟩
    · right; right
      show tick0 + 3000 * i = tick0 + 3000 * (i + 1 - 1)
      omega
    · have h' : tick0 + 3000 * i = -1 := h
      unfold tick0 at h'
      omega
    · show σ.w + 1 = i + 1
      omega
    · simp only [lenL_def, List.length_append, List.length_cons, List.length_nil] at hG ⊢
      omega
    · rw [totU_snoc, p2]; omega
    · have h1' : a < 0 := h1
      omega
    · refine whole_snoc h.wh ?_ ?_ ?_ ?_
      · omega
      · rw [p2, hG]
        have : (0 : Int) + i = i := by omega
        rw [this]; exact hk
      · rw [hG, hky]
        have : (0 : Int) + i = i := by omega
        rw [this]
      · have : (0 : Int) + totU G = totU G := by omega
        rw [this]; exact hus
  · simp only [if_neg hk]
    rw [if_neg (by decide)]
    have hS' : StC first cuts ((m : Int) + 1) i (k + 1) (l.drop (m + 1)) := by
      rcases hnx with ⟨h1, _⟩ | ⟨_, h1⟩
      · omega
      · exact h1
    have hj2 : (m : Int) + 1 = ((m + 1 : Nat) : Int) := by omega
    rw [hj2] at p3
    exact ⟨⟨i, k + 1, by rw [hj1]; exact hS', by omega, by omega, by omega, p3, .inr (.inl rfl), fun h => by
      have h' : tick0 + 3000 * i = -1 := h
      unfold tick0 at h'
      omega, hw, hG, by omega, hus, fun _ => hky⟩, h.wh, rfl, hm⟩

theorem del_run {first : Int} {cuts : List Int} {l : List Pk} {B : Int} {L : List Came} (hl : l.length ≤ 60) (hB0 : 0 ≤ B) (hB : B ≤ 2000000) : ∀ (out : List Thg) (m : Nat) (σ : FS) (G : List (List Un)), Del first cuts l B m σ G → From (B + m) out →
    (∀ t ∈ out, ∃ j : Nat, j < l.length ∧ t.fAt = B + j ∧ findP L t.fAt = nthI l (j : Int)) → Del first cuts l B (m + out.length) (framesM cK L out σ).1 (G ++ (framesM cK L out σ).2)
  | [], m, σ, G, h, _, _ => by
    unfold framesM
    simp only [List.append_nil, List.length_nil, Nat.add_zero]
    exact h
  | t :: r, m, σ, G, h, hF, ha => by
    obtain ⟨j, j1, j2, j3⟩ := ha t (.head _)
    obtain ⟨f1, f2⟩ := hF
    have e : j = m := by omega
    subst e
    rw [j2] at j3
    have hs := del_step h j1 hl hB0 hB f1 j3
    have f2' : From (B + ((j + 1 : Nat) : Int)) r := by
      have : B + ((j + 1 : Nat) : Int) = B + j + 1 := by omega
      rw [this]; exact f2
    have := del_run hl hB0 hB r (j + 1) _ _ hs f2' (fun t ht => ha t (.tail _ ht))
    have e1 : j + (t :: r).length = j + 1 + r.length := by simp only [List.length_cons]; omega
    have e2 : framesM cK L (t :: r) σ = ((framesM cK L r (stepM cK L σ t).1).1, if 0 < lenL (stepM cK L σ t).2 then (stepM cK L σ t).2 :: (framesM cK L r (stepM cK L σ t).1).2 else (framesM cK L r (stepM cK L σ t).1).2) := rfl
    rw [e1, e2]
    simp only
    by_cases hq : 0 < lenL (stepM cK L σ t).2
    · rw [if_pos hq] at this ⊢
      rw [List.append_assoc] at this
      exact this
    · rw [if_neg hq] at this ⊢
      exact this
end Go.Proofs
