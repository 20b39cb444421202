/- What the closure of IngressSame computes. No condition. -/
import Derived.Test.YtbijdlgffebenaaTs
import Derived.Test.YtbijdlgffebenaaM11
import Derived.Test.YtbijdlgffebenaaM07
import Derived.Test.YtbijdlgffebenaaTy
import Derived.Laws.Externs
import Derived.Test.YtbijdlgffebenaaM04
import Derived.Test.YtbijdlgffebenaaM08
import Derived.Test.YtbijdlgffebenaaRt
import Derived.Test.YtbijdlgffebenaaM01
section
namespace Go.Proofs
open Go.Ab
noncomputable def samePut (l : List Antiphonref03Packet) (s : IngressSource) (g : List FrameFrame) (k : Int) : Option (List FrameFrame × IngressSource) :=
  need (InB k (lenL l)) <|
  ((gIngressSourcePut s (nthI l k) 0)).bind fun r1 =>
  need (AppB (lenL g) (lenL r1.1) 24) <|
  some ((appL g r1.1), r1.2.2)
end Go.Proofs
end
section
namespace Go.Proofs
open Go.RowKit Go.Ab

theorem Try.ccSize : (Try.prog.info? 109).map (·.size) = some 2 := by kernel_rfl
theorem Try.ccLies : liesAt Try.prog Try.prog.depth 111 (2 / Try.prog.cellsOf 111) 0 109 1 = true := by kernel_rfl
theorem Try.byteI : (Try.prog.info? 5).map (fun i => (i.zero, i.size, i.bytes)) = some (some (.int .u8 0), 1, 1) := by kernel_rfl

set_option maxHeartbeats 1000000 in
set_option maxRecDepth 100000 in
theorem Try.ccFresh (b : Nat) (w : World) (v : Value) (hb : w.heap[b]? = some (.cells #[.pointer none, v] 111 (0, 0))) :
    Calls Try.prog 61 #[.pointer (some ⟨b, 0, none⟩)] w fun e w' => e = .returned (.tuple #[]) ∧ w' = w.setCell ⟨b, 0, none⟩ (.pointer (some ⟨b, 0, none⟩)) := by
  obtain ⟨j, hj, hjs⟩ := Option.map_eq_some_iff.1 Try.ccSize
  have h0 : w.cell? ⟨b, 0, none⟩ = some (.pointer none) := by rw [Lib.cell_of_heap hb]; rfl
  have hsh : w.shape? b = some (111, 2) := by simp [World.shape?, hb]
  have hfz : w.frozen? ⟨b, 0, none⟩ = false := Lib.frozen_of_heap hb 0
  go_enter Try.func61, Try.ntmps61
  go_wp2
  rw [Lib.run_to_unsafe w ⟨b, 0, none⟩ Try.underlying107 Try.underlying160 hj (by rw [hjs]; decide) hsh (Nat.zero_lt_succ 1)]
  simp only [Result.andThen]
  rw [Oper.upon_value]
  go_wp2
  rw [run_callFunc_extern Try.func72 (by kernel_rfl) (by kernel_rfl) (by kernel_rfl) (e := Extern.AbiNoEscape.same) (by kernel_rfl)]
  rw [Lib.run_noEscape]
  simp only [Result.andThen]
  rw [Oper.upon_value]
  go_wp2
  rw [Lib.run_from_unsafe w ⟨b, 0, none⟩ Try.underlying160 Try.underlying107 hj hsh Try.ccLies]
  simp only [Result.andThen]
  rw [Oper.upon_value]
  go_wp2
  go_end0
  exact ⟨rfl, rfl⟩

set_option maxHeartbeats 1000000 in
set_option maxRecDepth 100000 in
theorem Try.ccUsed (b : Nat) (w : World) (v : Value) (hb : w.heap[b]? = some (.cells #[.pointer (some ⟨b, 0, none⟩), v] 111 (0, 0))) :
    Calls Try.prog 61 #[.pointer (some ⟨b, 0, none⟩)] w fun e w' => e = .returned (.tuple #[]) ∧ w' = w := by
  obtain ⟨j, hj, hjs⟩ := Option.map_eq_some_iff.1 Try.ccSize
  have h0 : w.cell? ⟨b, 0, none⟩ = some (.pointer (some ⟨b, 0, none⟩)) := by rw [Lib.cell_of_heap hb]; rfl
  go_enter Try.func61, Try.ntmps61
  go_wp2
  rw [Lib.run_neq_ptr_same w _ Try.underlying107 hj]
  go_wp2
  go_end0
  exact ⟨rfl, rfl⟩

theorem Try.ccAny (b : Nat) (w : World) (p v : Value) (n : Nat) (xs : List Value) (hb : w.heap[b]? = some (.cells #[p, v] 111 (0, 0))) (hp : p = .pointer none ∨ p = .pointer (some ⟨b, 0, none⟩))
    (hown : w.ownsRow 0 5 1 v n xs) (hne : v.ownBlock ≠ some b) :
    Calls Try.prog 61 #[.pointer (some ⟨b, 0, none⟩)] w fun e w' => e = .returned (.tuple #[]) ∧ w'.heap[b]? = some (.cells #[.pointer (some ⟨b, 0, none⟩), v] 111 (0, 0)) ∧
      w'.ownsRow 0 5 1 v n xs ∧ w'.heap.size = w.heap.size ∧ WrKeep b v.ownBlock w w' ∧ ∀ k, k ≠ b → w'.heap[k]? = w.heap[k]? := by
  rcases hp with rfl | rfl
  · refine (Try.ccFresh b w v hb).mono ?_
    rintro e w' ⟨rfl, rfl⟩
    refine ⟨rfl, by simp [World.setCell, Array.getElem?_modify, hb], ?_, by simp [World.setCell], WrKeep.setCell _ _ _ _ _, fun k hk => heap_setCell_ne hk⟩
    exact hown.kept (row := some b) ⟨rfl, rfl, rfl, by simp [World.setCell], fun k _ hk => heap_setCell_ne (fun e => hk (by simp [e]))⟩ (.inr hne)
  · refine (Try.ccUsed b w v hb).mono ?_
    rintro e w' ⟨rfl, rfl⟩
    exact ⟨rfl, hb, hown, rfl, WrKeep.refl _ _ _, fun _ _ => rfl⟩

end Go.Proofs
end
section
namespace Go.Proofs
open Go.Ab
noncomputable def gRef02Bytes (x0 : Antiphonref02Reader) (x1 : Int) : Option (Antiphonref02Reader × ByteArray) :=
  bif (neI x0.fE 0) then (
    some (x0, ⟨#[]⟩)
  ) else (
    bif (ltI x1 0) then (
      some ((Antiphonref02Reader.mk ⟨#[]⟩ 5), ⟨#[]⟩)
    ) else (
      bif (ltI (lenS x0.fS) x1) then (
        some ((Antiphonref02Reader.mk ⟨#[]⟩ 1), ⟨#[]⟩)
      ) else (
        need (CutB x1 (lenS x0.fS) (lenS x0.fS)) <|
        need (CutB 0 x1 (lenS x0.fS)) <|
        some ((Antiphonref02Reader.mk (cutS x0.fS x1 (lenS x0.fS)) 0), (cutS x0.fS 0 x1))
      )
    )
  )

noncomputable def gRef02Value.loop1 (x0 : ByteArray) (s1 : Int × Int) : Option (Fl (Int × Int) (Fl Int Int)) :=
  bif (ltI s1.1 (lenS x0)) then (
    need (InB s1.1 (lenS x0)) <|
    some (.go ((addI .i64 s1.1 1), (addI .u64 (mulI .u64 s1.2 256) (cvtI .u64 (idxS x0 s1.1)))))
  ) else (
    some (.out (.go s1.2))
  )

noncomputable def gRef02Value (x0 : ByteArray) : Option Int :=
  ((loopF (gRef02Value.loop1 x0) (0, 0)).bind fun f => flC f fun (v1 : Int) =>
    some v1
  )

noncomputable def gRef02Take (x0 : Antiphonref02Reader) (x1 : Int) : Option (Antiphonref02Reader × Int) :=
  ((gRef02Bytes x0 (minI (maxI x1 1) 8))).bind fun r1 =>
  ((gRef02Value r1.2)).bind fun r2 =>
  some (r1.1, r2)

noncomputable def gRef04Numbers (x0 : Antiphonref02Reader) (x1 : Antiphonref04Desc) (x2 : Int) : Option (Antiphonref02Reader × Antiphonref04Desc) :=
  ((
    need (NonZ 128) <|
    bif (eqI (quoI .i64 x2 128) 1) then (
      ((gRef02Take x0 1)).bind fun r1 =>
      bif (ltI 127 r1.2) then (
        ((gRef02Take r1.1 1)).bind fun r2 =>
        some (.go (r2.1, (Antiphonref04Desc.mk x1.fNonRef x1.fStart x1.fPart (addI .i64 (mulI .i64 (cvtI .i64 (subI .u64 r1.2 128)) 256) (cvtI .i64 r2.2)) true x1.fLevel x1.fLayer x1.fSync x1.fKey)))
      ) else (
        some (.go (r1.1, (Antiphonref04Desc.mk x1.fNonRef x1.fStart x1.fPart (cvtI .i64 r1.2) x1.fWide x1.fLevel x1.fLayer x1.fSync x1.fKey)))
      )
    ) else (
      some (.go (x0, x1))
    )
    : Option (Fl (Antiphonref02Reader × Antiphonref04Desc) (Antiphonref02Reader × Antiphonref04Desc))).bind fun f => flC f fun (v1 : Antiphonref02Reader × Antiphonref04Desc) =>
    ((
      need (NonZ 64) <|
      need (NonZ 2) <|
      bif (eqI (remI (quoI .i64 x2 64) 2) 1) then (
        ((gRef02Take v1.1 1)).bind fun r3 =>
        some (.go (r3.1, (Antiphonref04Desc.mk v1.2.fNonRef v1.2.fStart v1.2.fPart v1.2.fPicture v1.2.fWide (cvtI .i64 r3.2) v1.2.fLayer v1.2.fSync v1.2.fKey)))
      ) else (
        some (.go (v1.1, v1.2))
      )
      : Option (Fl (Antiphonref02Reader × Antiphonref04Desc) (Antiphonref02Reader × Antiphonref04Desc))).bind fun f => flC f fun (v2 : Antiphonref02Reader × Antiphonref04Desc) =>
      some (v2.1, v2.2)
    )
  )

noncomputable def gRef04Last (x0 : Antiphonref02Reader) (x1 : Antiphonref04Desc) (x2 : Int) : Option (Antiphonref02Reader × Antiphonref04Desc) :=
  ((gRef04Numbers x0 x1 x2)).bind fun r1 =>
  ((
    need (NonZ 16) <|
    need (NonZ 4) <|
    bif (ltI 0 (remI (quoI .i64 x2 16) 4)) then (
      ((gRef02Take r1.1 1)).bind fun r2 =>
      ((
        need (NonZ 32) <|
        need (NonZ 2) <|
        bif (eqI (remI (quoI .i64 x2 32) 2) 1) then (
          need (NonZ 64) <|
          need (NonZ 32) <|
          need (NonZ 2) <|
          some (.go (Antiphonref04Desc.mk r1.2.fNonRef r1.2.fStart r1.2.fPart r1.2.fPicture r1.2.fWide r1.2.fLevel (cvtI .i64 (quoI .u64 r2.2 64)) (eqI (remI (quoI .u64 r2.2 32) 2) 1) r1.2.fKey))
        ) else (
          some (.go r1.2)
        )
        : Option (Fl Antiphonref04Desc (Fl (Antiphonref02Reader × Antiphonref04Desc) (Antiphonref02Reader × Antiphonref04Desc)))).bind fun f => flC f fun (v2 : Antiphonref04Desc) =>
        need (NonZ 16) <|
        need (NonZ 2) <|
        bif (eqI (remI (quoI .i64 x2 16) 2) 1) then (
          need (NonZ 32) <|
          some (.go (r2.1, (Antiphonref04Desc.mk v2.fNonRef v2.fStart v2.fPart v2.fPicture v2.fWide v2.fLevel v2.fLayer v2.fSync (cvtI .i64 (remI r2.2 32)))))
        ) else (
          some (.go (r2.1, v2))
        )
      )
    ) else (
      some (.go (r1.1, r1.2))
    )
    : Option (Fl (Antiphonref02Reader × Antiphonref04Desc) (Antiphonref02Reader × Antiphonref04Desc))).bind fun f => flC f fun (v1 : Antiphonref02Reader × Antiphonref04Desc) =>
    some (v1.1, v1.2)
  )

noncomputable def gRef04Parse (x0 : ByteArray) : Option (Antiphonref04Desc × ByteArray × Int) :=
  ((gRef02Take (Antiphonref02Reader.mk x0 0) 1)).bind fun r1 =>
  need (NonZ 32) <|
  need (NonZ 2) <|
  need (NonZ 16) <|
  need (NonZ 2) <|
  need (NonZ 8) <|
  ((
    bif (ltI 127 r1.2) then (
      ((gRef02Take r1.1 1)).bind fun r2 =>
      some (.go ((cvtI .i64 r2.2), r2.1))
    ) else (
      some (.go (0, r1.1))
    )
    : Option (Fl (Int × Antiphonref02Reader) (Antiphonref04Desc × ByteArray × Int))).bind fun f => flC f fun (v1 : Int × Antiphonref02Reader) =>
    ((gRef04Last v1.2 (Antiphonref04Desc.mk (eqI (remI (quoI .u64 r1.2 32) 2) 1) (eqI (remI (quoI .u64 r1.2 16) 2) 1) (cvtI .i64 (remI r1.2 8)) (-1) false (-1) (-1) false (-1)) v1.1)).bind fun r3 =>
    bif (neI r3.1.fE 0) then (
      some ((Antiphonref04Desc.mk false false 0 0 false 0 0 false 0), ⟨#[]⟩, r3.1.fE)
    ) else (
      some (r3.2, r3.1.fS, 0)
    )
  )
end Go.Proofs
end
section
namespace Go.Proofs
open Go.Ab
noncomputable def gRef01Mod (x0 : Int) (x1 : Int) : Option Int :=
  need (NonZ x1) <|
  ((
    bif (ltI (remI x0 x1) 0) then (
      some (.go (addI .i64 (remI x0 x1) x1))
    ) else (
      some (.go (remI x0 x1))
    )
    : Option (Fl Int Int)).bind fun f => flC f fun (v1 : Int) =>
    some v1
  )

noncomputable def gRef01Dist (x0 : Int) (x1 : Int) (x2 : Int) : Option Int :=
  ((gRef01Mod (subI .i64 x0 x1) x2)).bind fun r1 =>
  need (NonZ 2) <|
  bif (ltI r1 (quoI .i64 x2 2)) then (
    some r1
  ) else (
    some (subI .i64 r1 x2)
  )

noncomputable def gRef01Near (x0 : Int) (x1 : Int) (x2 : Int) : Option Int :=
  ((gRef01Mod x0 x2)).bind fun r1 =>
  ((gRef01Dist x1 r1 x2)).bind fun r2 =>
  some (addI .i64 x0 r2)

noncomputable def gRef08Put (x0 : Antiphonref08Seq) (x1 : Int) : Option (Antiphonref08Seq × Int × Bool) :=
  bif (notB x0.fBegun) then (
    some ((Antiphonref08Seq.mk true (addI .i64 1048576 x1) (-1) 0 0), (addI .i64 1048576 x1), true)
  ) else (
    ((gRef01Near x0.fMost x1 65536)).bind fun r1 =>
    bif (pickB (leqI r1 (addI .i64 x0.fMost 3000)) (leqI (subI .i64 x0.fMost 3000) r1) false) then (
      some ((Antiphonref08Seq.mk x0.fBegun (maxI x0.fMost r1) (-1) 0 x0.fJumps), r1, true)
    ) else (
      ((
        bif (eqI x0.fAwait x1) then (
          some (.go (Antiphonref08Seq.mk x0.fBegun x0.fMost x0.fAwait (addI .i64 x0.fRun 1) x0.fJumps))
        ) else (
          some (.go (Antiphonref08Seq.mk x0.fBegun x0.fMost x0.fAwait 1 x0.fJumps))
        )
        : Option (Fl Antiphonref08Seq (Antiphonref08Seq × Int × Bool))).bind fun f => flC f fun (v1 : Antiphonref08Seq) =>
        need (NonZ 65536) <|
        bif (ltI v1.fRun 2) then (
          some ((Antiphonref08Seq.mk v1.fBegun v1.fMost (remI (addI .i64 x1 1) 65536) v1.fRun v1.fJumps), 0, false)
        ) else (
          need (NonZ 65536) <|
          some ((Antiphonref08Seq.mk v1.fBegun (addI .i64 (mulI .i64 (addI .i64 (quoI .i64 v1.fMost 65536) 2) 65536) x1) (-1) 0 (addI .i64 v1.fJumps 1)), (addI .i64 (mulI .i64 (addI .i64 (quoI .i64 v1.fMost 65536) 2) 65536) x1), true)
        )
      )
    )
  )

noncomputable def gRef08Time (x0 : Int) (x1 : Int) : Option (Int × Int) :=
  bif (ltI x0 0) then (
    some ((addI .i64 68719476736 x1), (addI .i64 68719476736 x1))
  ) else (
    ((gRef01Near x0 x1 4294967296)).bind fun r1 =>
    some ((maxI x0 r1), r1)
  )
end Go.Proofs
end
section
namespace Go.Proofs
open Go.Ab

/-! ### What is missing -/
end Go.Proofs
end
section
namespace Go.Proofs
open Go.Ab

/-- Rising numbers from lo on, all below hi. -/
def Ris : Int → List Thg → Int → Prop
  | lo, [], hi => lo ≤ hi
  | lo, t :: r, hi => lo ≤ t.fAt ∧ Ris (t.fAt + 1) r hi
theorem Ris.low {lo lo' : Int} (h : lo' ≤ lo) : ∀ {l : List Thg} {hi : Int}, Ris lo l hi → Ris lo' l hi
  | [], _, q => by simp only [Ris] at q ⊢; omega
  | t :: r, _, q => ⟨by have := q.1; omega, q.2⟩
theorem Ris.append {b c : Int} {l' : List Thg} : ∀ {l : List Thg} {a : Int}, Ris a l b → Ris b l' c → Ris a (l ++ l') c
  | [], _a, h, q => q.low h
  | _t :: _r, _a, h, q => ⟨h.1, Ris.append h.2 q⟩
theorem from_ris : ∀ {l : List Thg} {n : Int}, From n l → Ris n l (n + l.length)
  | [], n, _ => by simp [Ris]
  | t :: r, n, h => by
    have := from_ris h.2
    refine ⟨by rw [h.1]; omega, ?_⟩
    rw [h.1]
    simp only [List.length_cons, Int.natCast_add, Int.natCast_one]
    rw [show n + ((r.length : Int) + 1) = n + 1 + r.length by omega]
    exact this

/-- All numbers are small. -/
structure Bd (B : Int) (x : RBf) : Prop where
  nx : x.fNext ≤ B
  at_ : ∀ t ∈ x.fL, t.fAt < B

theorem run_bd {n B : Int} {L : List Thg} (hu : Up (n - 1) L) (hn : n ≤ B) (hb : ∀ t ∈ L, t.fAt < B) : (runL n L).2.1 ≤ B ∧ (∀ t ∈ (runL n L).2.2, t.fAt < B) ∧ Ris n (runL n L).1 (runL n L).2.1 := by
  obtain ⟨q1, q2, q3, q4⟩ := runL_spec L n hu
  have hsub : ∀ u ∈ (runL n L).2.2, u ∈ L := fun u hu => by rw [q2]; exact List.mem_append_right _ hu
  have hsub1 : ∀ u ∈ (runL n L).1, u ∈ L := fun u hu => by rw [q2]; exact List.mem_append_left _ hu
  refine ⟨?_, fun t ht => hb t (hsub t ht), ?_⟩
  · by_cases hq : (runL n L).1 = []
    · rw [q3, hq]; simp; exact hn
    · have := from_last q4 (B - 1) (fun u hu => by have := hb u (hsub1 u hu); omega) hq
      omega
  · rw [q3]; exact from_ris q4

theorem skip_bd {x : RBf} (h : Ok x) {B : Int} (hb : Bd B x) : Bd B (skipS x).1 ∧ Ris x.fNext (skipS x).2 (skipS x).1.fNext := by
  unfold skipS
  split
  · exact ⟨hb, by simp [Ris]⟩
  · rename_i t r hL
    have hu := h.up
    rw [hL] at hu
    have ha := hb.at_ t (by rw [hL]; exact .head _)
    obtain ⟨r1, r2, r3⟩ := run_bd (n := t.fAt) (B := B) (L := x.fL) (by rw [hL]; exact up_head hu) (by omega) hb.at_
    exact ⟨⟨r1, r2⟩, r3.low (by have := hu.1; omega)⟩

theorem while_bd (c : RBf → Bool) (hc : ∀ x, Ok x → c x = true → 0 ≤ x.fMost → x.fL ≠ []) {B : Int} : ∀ (f : Nat) (x : RBf), Ok x → 0 ≤ x.fMost → Bd B x → Bd B (whileS c f x).1 ∧ Ris x.fNext (whileS c f x).2 (whileS c f x).1.fNext
  | 0, x, _, _, hb => ⟨hb, by simp [whileS, Ris]⟩
  | f + 1, x, h, hm, hb => by
    cases hh : c x with
    | false => simp only [whileS, hh, Bool.false_eq_true, if_false]; exact ⟨hb, by simp [Ris]⟩
    | true =>
      cases hL : x.fL with
      | nil => exact absurd hL (hc x h hh hm)
      | cons t r =>
        obtain ⟨q1, _, _⟩ := skip_ok h hL
        obtain ⟨s1, s2⟩ := skip_bd h hb
        have hm' : 0 ≤ (skipS x).1.fMost := by unfold skipS; split <;> exact hm
        obtain ⟨r1, r2⟩ := while_bd c hc f (skipS x).1 q1 hm' s1
        simp only [whileS, hh, if_true]
        exact ⟨r1, s2.append r2⟩

theorem put_bd {x : RBf} (h : Inv x) {t : Thg} (ht : Good t) {B : Int} (hb : Bd B x) (htb : t.fAt < B) : Bd B (putS x t).1 ∧ Ris x.fNext (putS x t).2.1 (putS x t).1.fNext := by
  obtain ⟨b1, b2, b3, b4, b5, b6⟩ := beg_ok h ht
  have hm0 := h.m0
  have hml := h.ml
  have hm1 := h.m1
  rw [lenL_def] at hml
  have hbb : Bd B (begS x t) := by
    refine ⟨?_, by rw [b2]; exact hb.at_⟩
    unfold begS
    split
    · exact hb.nx
    · simp only; omega
  unfold putS
  split
  · exact ⟨hbb, by simp only [Ris]; exact b6⟩
  · split
    · exact ⟨hbb, by simp only [Ris]; exact b6⟩
    · rename_i hge hno
      have hno' : hasL t.fAt (begS x t).fL = false := by rw [b2]; simpa using hno
      have hu := add_up b1 (t := t) (by omega) hno'
      obtain ⟨r1, r2⟩ := run_ok b1 ht (by omega) hno' (by rw [b2]; omega)
      obtain ⟨u1, u2, u3⟩ := run_bd (n := (begS x t).fNext) (B := B) (L := (addS (begS x t) t).fL) hu hbb.nx (fun u hu => by
        have : u ∈ t :: (begS x t).fL := (insL_perm t _).mem_iff.1 hu
        cases this with
        | head => exact htb
        | tail _ hu => exact hbb.at_ u hu)
      obtain ⟨w1, w2⟩ := while_bd cMost (fun y _ h1 h2 => cMost_ne h2 h1) (B := B) (runS (addS (begS x t) t)).1.fL.length (runS (addS (begS x t) t)).1 r1 (by show 0 ≤ (begS x t).fMost; rw [b3]; omega) ⟨u1, u2⟩
      exact ⟨w1, (u3.append w2).low b6⟩

/-! ### What the document fixes -/
theorem new_ok {c : ReorderConfig} (h0 : 1 ≤ c.fMost) (h1 : c.fMost ≤ 1024) (h2 : 0 ≤ c.fWait) (h3 : c.fWait ≤ 1099511627776) : gReorderNew c = some (some (ReorderBuffer.mk c false 0 [] 0), 0) := by
  have hc : gReorderConfigCheck c = some 0 := by
    unfold gReorderConfigCheck
    simp only [ltI_f (show ¬ (c.fMost < 1) by omega), ltI_f (show ¬ (1024 < c.fMost) by omega), ltI_f (show ¬ (c.fWait < 0) by omega), ltI_f (show ¬ (1099511627776 < c.fWait) by omega), pickB_f, cond_false]
  unfold gReorderNew
  rw [hc]
  simp only [bind_so, neI_f rfl, cond_false]

def newS (most wait : Int) : RBf := ⟨most, wait, false, 0, [], 0⟩
theorem newS_inv {most wait : Int} (h0 : 1 ≤ most) (h1 : most ≤ 1024) : Inv (newS most wait) :=
  ⟨⟨trivial, by simp [newS], by simp [newS], by simp [newS], by simp [newS], (fun t ht => by cases ht), by simp [newS]⟩, h0, h1, by simp only [newS, lenL_nil]; omega, fun _ => ⟨rfl, rfl⟩⟩
theorem newS_rel (most wait : Int) : Rel (ReorderBuffer.mk ⟨most, wait⟩ false 0 [] 0) (newS most wait) := ⟨rfl, rfl, rfl, rfl, List.Perm.refl _⟩

end Go.Proofs
end
section
namespace Go.Proofs
open Go.Ab
end Go.Proofs
end
