/- Packets in any order: what a source holds, and has given, behind each. No condition. -/
import Derived.Test.YtbijdlgffebenaaJq
namespace Go.Proofs
open Go.Ab

theorem while_no {c : RBf → Bool} {x : RBf} (h : c x = false) : ∀ f, whileS c f x = (x, [])
  | 0 => rfl
  | f + 1 => by unfold whileS; rw [if_neg (by rw [h]; simp)]
theorem From.rng : ∀ {L : List Thg} {n : Int}, From n L → ∀ t ∈ L, n ≤ t.fAt ∧ t.fAt < n + L.length
  | t :: r, n, h, u, hu => by
    have e : (((t :: r).length : Nat) : Int) = (r.length : Int) + 1 := by simp
    rcases List.mem_cons.1 hu with rfl | hu
    · have := h.1; omega
    · have := From.rng h.2 u hu; omega
theorem up_fits {b : Int} : ∀ {L : List Thg} {n : Int}, Up n L → (∀ t ∈ L, t.fAt ≤ b) → n ≤ b → n + L.length ≤ b
  | [], n, _, _, h => by simpa using h
  | t :: r, n, h, hb, _ => by
    have h1 := hb t (.head _)
    have := up_fits h.2 (fun u hu => hb u (.tail _ hu)) h1
    have := h.1
    simp only [List.length_cons, Int.natCast_add, Int.natCast_one]; omega

/-- What a source holds when packets of a stream have come in any order. -/
structure AnyX (first : Int) (cuts : List Int) (l : List Pk) (B : Int) (m mx : Nat) (X : Antiphonref11Source) (G : List (List Un)) : Prop where
  sq : X.fSeq = ⟨true, B + mx, -1, 0, 0⟩
  od : X.fOrder = ⟨64, 31, true, B + m, X.fOrder.fL, 0⟩
  lo : ∀ t ∈ X.fOrder.fL, ∃ j : Nat, j < l.length ∧ t.fAt = B + j ∧ findP X.fL t.fAt = nthI l (j : Int)
  del : Del first cuts l B m (fsOf X) G
  mx : mx < l.length
/-- Packet j has come. -/
def Arr (B : Int) (X : Antiphonref11Source) (j : Nat) : Prop := B + j < X.fOrder.fNext ∨ hasL (B + j) X.fOrder.fL = true

theorem any_new {first : Int} {cuts : List Int} {l : List Pk} {B Bd : Int} {k m mx j : Nat} {X : Antiphonref11Source} {G : List (List Un)} (hs : SOk X cK Bd k) (hl : l.length ≤ 60) (hB0 : 1000000 ≤ B) (hB : B ≤ 2000000) (hj : j < l.length) (hmj : m ≤ j) (hmx : mx < l.length)
    (hq : seqM X.fSeq (nthI l (j : Int)).fSeq = (⟨true, B + mx, -1, 0, 0⟩, B + j, true)) (hbeg : begS X.fOrder ⟨B + j, ⟨#[]⟩, 0⟩ = ⟨64, 31, true, B + m, X.fOrder.fL, 0⟩)
    (hlo : ∀ t ∈ X.fOrder.fL, ∃ j : Nat, j < l.length ∧ t.fAt = B + j ∧ findP X.fL t.fAt = nthI l (j : Int)) (hno : hasL (B + j) X.fOrder.fL = false) (hd : Del first cuts l B m (fsOf X) G) :
    ∃ m', AnyX first cuts l B m' mx (putM cK X (nthI l (j : Int)) 0).1 (G ++ (putM cK X (nthI l (j : Int)) 0).2.1) ∧ Arr B (putM cK X (nthI l (j : Int)) 0).1 j ∧
      ∀ j0 : Nat, (B + j0 < B + m ∨ hasL (B + j0) X.fOrder.fL = true) → Arr B (putM cK X (nthI l (j : Int)) 0).1 j0 := by
  have hg : Good ⟨B + j, ⟨#[]⟩, 0⟩ := ⟨by simp only; omega, by simp only; omega, Int.le_refl _, by simp only; omega⟩
  obtain ⟨b1, _⟩ := beg_ok hs.od hg
  have hlt : ¬ (⟨B + j, ⟨#[]⟩, 0⟩ : Thg).fAt < (begS X.fOrder ⟨B + j, ⟨#[]⟩, 0⟩).fNext := by rw [hbeg]; simp only; omega
  have hfresh := new_fresh hs hg hlt hno
  rw [hbeg] at b1
  have hup : Up (B + m) X.fOrder.fL := b1.up
  have hiu : Up (B + m - 1) (insL ⟨B + j, ⟨#[]⟩, 0⟩ X.fOrder.fL) := insL_up (hup.weak (by omega)) (by simp only; omega) (fun u hu e => by
    have := hasL_t.2 ⟨u, hu, e⟩
    rw [hno] at this; cases this)
  obtain ⟨r1, r2, r3, r4⟩ := runL_spec _ (B + m) hiu
  have hmem : ∀ u ∈ insL ⟨B + j, ⟨#[]⟩, 0⟩ X.fOrder.fL, ∃ j' : Nat, j' < l.length ∧ u.fAt = B + j' ∧ findP (X.fL ++ [(⟨B + j, nthI l (j : Int)⟩ : Came)]) u.fAt = nthI l (j' : Int) := fun u hu => by
    rcases List.mem_cons.1 ((insL_perm _ _).mem_iff.1 hu) with rfl | hu
    · exact ⟨j, hj, rfl, findP_new hfresh⟩
    · obtain ⟨j', q1, q2, q3⟩ := hlo u hu
      refine ⟨j', q1, q2, ?_⟩
      rw [findP_other (fun e => ?_), q3]
      have := hasL_t.2 ⟨u, hu, e⟩
      rw [hno] at this; cases this
  have hroom := up_fits (b := B + 60) hiu (fun u hu => by obtain ⟨j', q1, q2, _⟩ := hmem u hu; omega) (by omega)
  have hr : runS (addS ⟨64, 31, true, B + m, X.fOrder.fL, 0⟩ ⟨B + j, ⟨#[]⟩, 0⟩) =
      (⟨64, 31, true, (runL (B + m) (insL ⟨B + j, ⟨#[]⟩, 0⟩ X.fOrder.fL)).2.1, (runL (B + m) (insL ⟨B + j, ⟨#[]⟩, 0⟩ X.fOrder.fL)).2.2, 0⟩, (runL (B + m) (insL ⟨B + j, ⟨#[]⟩, 0⟩ X.fOrder.fL)).1) := rfl
  have hlen := congrArg List.length r2
  rw [List.length_append] at hlen
  have hfin := del_run (L := X.fL ++ [(⟨B + j, nthI l (j : Int)⟩ : Came)]) hl (by omega) hB _ m (fsOf X) G hd r4 (fun t ht => hmem t (by rw [r2]; exact List.mem_append_left _ ht))
  have hput : putS X.fOrder ⟨B + j, ⟨#[]⟩, 0⟩ = (⟨64, 31, true, (runL (B + m) (insL ⟨B + j, ⟨#[]⟩, 0⟩ X.fOrder.fL)).2.1, (runL (B + m) (insL ⟨B + j, ⟨#[]⟩, 0⟩ X.fOrder.fL)).2.2, 0⟩, (runL (B + m) (insL ⟨B + j, ⟨#[]⟩, 0⟩ X.fOrder.fL)).1, 0) := by
    unfold putS
    rw [hbeg]
    simp only
    rw [if_neg (by omega), hno, if_neg (by simp), hr]
    simp only
    rw [while_no (decide_eq_false (by simp only [lenL_def]; omega))]
    simp
  generalize hrr : runL (B + m) (insL ⟨B + j, ⟨#[]⟩, 0⟩ X.fOrder.fL) = rr at r1 r2 r3 r4 hput hfin hlen
  rw [put_taken hq hput rfl]
  have harr : ∀ u ∈ insL ⟨B + j, ⟨#[]⟩, 0⟩ X.fOrder.fL, u.fAt < rr.2.1 ∨ hasL u.fAt rr.2.2 = true := fun u hu => by
    rw [r2] at hu
    rcases List.mem_append.1 hu with hu | hu
    · have := From.rng r4 u hu; left; omega
    · exact .inr (hasL_t.2 ⟨u, hu, rfl⟩)
  refine ⟨m + rr.1.length, ⟨rfl, ?_, fun t ht => hmem t (by rw [r2]; exact List.mem_append_right _ ht), hfin, hmx⟩, ?_, fun j0 h0 => ?_⟩
  · show (⟨64, 31, true, rr.2.1, rr.2.2, 0⟩ : RBf) = ⟨64, 31, true, B + ((m + rr.1.length : Nat) : Int), rr.2.2, 0⟩
    have : rr.2.1 = B + ((m + rr.1.length : Nat) : Int) := by omega
    rw [this]
  · exact harr ⟨B + j, ⟨#[]⟩, 0⟩ ((insL_perm _ _).mem_iff.2 (.head _))
  · rcases h0 with h0 | h0
    · left
      show B + (j0 : Int) < rr.2.1
      omega
    · obtain ⟨u, hu, e⟩ := hasL_t.1 h0
      have := harr u ((insL_perm _ _).mem_iff.2 (.tail _ hu))
      rw [e] at this
      exact this

theorem any_put {first : Int} {cuts : List Int} {l : List Pk} {B Bd : Int} {k m mx : Nat} {X : Antiphonref11Source} {G : List (List Un)} (h : AnyX first cuts l B m mx X G) (hs : SOk X cK Bd k) (hl : l.length ≤ 60) (hall : StC first cuts 0 0 0 l) (hB : B = 1048576 + first % 65536) (j : Nat) (hj : j < l.length) :
    ∃ m' mx', AnyX first cuts l B m' mx' (putM cK X (nthI l (j : Int)) 0).1 (G ++ (putM cK X (nthI l (j : Int)) 0).2.1) ∧ Arr B (putM cK X (nthI l (j : Int)) 0).1 j ∧
      ∀ j0 : Nat, Arr B X j0 → Arr B (putM cK X (nthI l (j : Int)) 0).1 j0 := by
  have hmx := h.mx
  have hml := h.del.ml
  have hsq : seqM X.fSeq (nthI l (j : Int)).fSeq = (⟨true, B + (max mx j : Nat), -1, 0, 0⟩, B + j, true) := by
    obtain ⟨i', k', n', e⟩ := stC_nth hall j hj
    have hf : (nthI l (j : Int)).fSeq = (first + j) % 65536 := by
      rw [e]
      show addI .u16 first (cvtI .u16 (0 + j)) = _
      unfold addI cvtI
      rw [wrapU16, wrapU16]; omega
    have hd : nearS (B + mx) ((first + j) % 65536) = B + j := by
      unfold nearS distS
      by_cases hc : mx ≤ j
      · have : ((first + j) % 65536 - (B + mx) % 65536) % 65536 = j - mx := by omega
        rw [this, if_pos (by omega)]; omega
      · have : ((first + j) % 65536 - (B + mx) % 65536) % 65536 = 65536 + j - mx := by omega
        rw [this, if_neg (by omega)]; omega
    rw [hf, h.sq]
    unfold seqM
    rw [if_neg (by simp)]
    simp only
    rw [hd, if_pos ⟨by omega, by omega⟩]
    refine Prod.ext ?_ rfl
    show (⟨true, max (B + (mx : Int)) (B + j), -1, 0, 0⟩ : Sq) = _
    congr 1; omega
  have hg : Good ⟨B + j, ⟨#[]⟩, 0⟩ := ⟨by simp only; omega, by simp only; omega, Int.le_refl _, by simp only; omega⟩
  have hbX : begS X.fOrder ⟨B + j, ⟨#[]⟩, 0⟩ = X.fOrder := by
    unfold begS
    rw [if_pos (by rw [h.od])]
  have hnx : X.fOrder.fNext = B + m := by rw [h.od]
  have hmx' : max mx j < l.length := by omega
  have keep : ∀ e : Int, putS X.fOrder ⟨B + j, ⟨#[]⟩, 0⟩ = (begS X.fOrder ⟨B + j, ⟨#[]⟩, 0⟩, [], e) → e ≠ 0 → Arr B X j → ∃ m' mx', AnyX first cuts l B m' mx' (putM cK X (nthI l (j : Int)) 0).1 (G ++ (putM cK X (nthI l (j : Int)) 0).2.1) ∧ Arr B (putM cK X (nthI l (j : Int)) 0).1 j ∧
      ∀ j0 : Nat, Arr B X j0 → Arr B (putM cK X (nthI l (j : Int)) 0).1 j0 := fun e he h0 ha => by
    rw [hbX] at he
    rw [put_not hsq he h0]
    exact ⟨m, max mx j, ⟨rfl, h.od, h.lo, by rw [List.append_nil]; exact h.del, hmx'⟩, ha, fun _ h => h⟩
  rcases put_cases hs.od hg with ⟨p1, p2⟩ | ⟨p1, p2⟩ | ⟨p1, p2, _, _⟩
  · rw [hbX] at p1
    exact keep 13 p2 (by decide) (.inl p1)
  · exact keep 14 p2 (by decide) (.inr p1)
  · rw [hbX, hnx] at p1
    simp only at p1
    obtain ⟨m', a1, a2, a3⟩ := any_new hs hl (by omega) (by omega) hj (by omega) hmx' hsq (hbX.trans h.od) h.lo p2 h.del
    refine ⟨m', max mx j, a1, a2, fun j0 ha => a3 j0 ?_⟩
    rcases ha with ha | ha
    · rw [hnx] at ha; exact .inl ha
    · exact .inr ha

theorem any_first {first : Int} {cuts : List Int} {l : List Pk} {B : Int} (hl : l.length ≤ 60) (hall : StC first cuts 0 0 0 l) (hB : B = 1048576 + first % 65536) (hj : 0 < l.length) :
    ∃ m', AnyX first cuts l B m' 0 (putM cK (ref0 true 64 31 8) (nthI l 0) 0).1 (putM cK (ref0 true 64 31 8) (nthI l 0) 0).2.1 := by
  have hsq : seqM (ref0 true 64 31 8).fSeq (nthI l ((0 : Nat) : Int)).fSeq = (⟨true, B + ((0 : Nat) : Int), -1, 0, 0⟩, B + ((0 : Nat) : Int), true) := by
    obtain ⟨i', k', n', e⟩ := stC_nth hall 0 hj
    have hf : (nthI l ((0 : Nat) : Int)).fSeq = first % 65536 := by
      rw [e]
      show addI .u16 first (cvtI .u16 (0 + ((0 : Nat) : Int))) = _
      unfold addI cvtI
      rw [wrapU16, wrapU16]; omega
    rw [hf]
    unfold seqM
    rw [if_pos (show (ref0 true 64 31 8).fSeq.fBegun = false from rfl)]
    have : B + ((0 : Nat) : Int) = 1048576 + first % 65536 := by omega
    rw [this]
  obtain ⟨m', a1, _, _⟩ := any_new (first := first) (cuts := cuts) (m := 0) (mx := 0) (j := 0) (G := []) (ok0 (video := true) (most := 64) (wait := 31) (units := 8) (by decide) (by decide) (by decide) (by decide)) hl (by omega) (by omega) hj (Nat.le_refl _) hj hsq rfl (fun _ h => by cases h) rfl
    ⟨⟨0, 0, hall, by omega, by omega, by omega, ⟨rfl, fun h => absurd h (by omega), by simp [sizeN, fsOf, ref0]⟩, .inl rfl, fun _ => rfl, rfl, rfl, rfl, fun a h0 h1 => by
      have h1' : a < 0 := h1
      omega, fun h => absurd h (by omega)⟩, trivial, rfl, Nat.zero_le _⟩
  exact ⟨m', a1⟩

theorem any_end {first : Int} {cuts : List Int} {l : List Pk} {B Bd : Int} {k m mx : Nat} {X : Antiphonref11Source} {G : List (List Un)} (h : AnyX first cuts l B m mx X G) (hs : SOk X cK Bd k) (ha : ∀ j : Nat, j < l.length → Arr B X j) :
    X.fOrder.fL = [] ∧ X.fOrder.fLost = 0 ∧ totU G = l.length ∧ Whole cuts l B 0 0 G := by
  have hml := h.del.ml
  have hnx : X.fOrder.fNext = B + m := by rw [h.od]
  have hup := hs.od.up
  rw [hnx] at hup
  have hm : m = l.length := by
    by_cases hc : m < l.length
    · exfalso
      rcases ha m hc with q | q
      · rw [hnx] at q; omega
      · obtain ⟨u, hu, e⟩ := hasL_t.1 q
        have := hup.mem u hu
        omega
    · omega
  refine ⟨?_, by rw [h.od], ?_, h.del.wh⟩
  · cases hL : X.fOrder.fL with
    | nil => rfl
    | cons t r =>
      exfalso
      have ht : t ∈ X.fOrder.fL := by rw [hL]; exact .head _
      obtain ⟨j, q1, q2, _⟩ := h.lo t ht
      have := hup.mem t ht
      omega
  · obtain ⟨i, k', hS, _, _, _, _, _, _, _, _, ht, _⟩ := h.del.st
    rw [hm, List.drop_length] at hS
    have hk : k' = 0 := hS
    omega
end Go.Proofs
