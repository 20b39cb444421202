/- The types of these functions. No condition. -/
import Derived.Test.YtpamnignoocogaaGreatDoorM12
import Derived.Test.YtpamnignoocogaaGreatDoorKx
import Derived.Test.YtpamnignoocogaaGreatDoorM06
import Derived.Test.YtpamnignoocogaaGreatDoorTy
import Derived.Laws.Externs
import Derived.Shelf.Unicode.CaseLaid
import Derived.Lib.RuneBytes
import Derived.Test.YtpamnignoocogaaGreatDoorAb9
import Derived.Maps.OwnSet
import Derived.Test.YtpamnignoocogaaGreatDoorProg
import Derived.StillTailTactics
import Derived.Sort.Grow
import Derived.Lib.Small
import Derived.Lib.Walk
import Derived.BigRegion
import Derived.Deep.Draws
import Derived.Sort.CutIn
import Derived.Test.YtpamnignoocogaaGreatDoorGl
import Derived.ChangeBears
import Derived.KernelRfl
section
namespace Go.Ab


end Go.Ab
end
section
namespace Go.Proofs
open Go.Ab
noncomputable def gLaw01Cut (x0 : ByteArray) (x1 : Int) : Option ByteArray :=
  bif (ltI x1 (lenS x0)) then (
    need (CutB 0 x1 (lenS x0)) <|
    some (cutS x0 0 x1)
  ) else (
    some x0
  )
end Go.Proofs
end
section
/- What a run on fixed data answers. No condition. -/
namespace Go.Proofs
def gAwakeP : Option Bool := some true
end Go.Proofs
end
section
namespace Go.Proofs
open Go.Ab
noncomputable def gLaw27Awake : Option Bool :=
  (gAwakeP).bind fun r1 =>
  some r1
end Go.Proofs
end
section
namespace Go.Proofs
open Go.Ab
noncomputable def gRef27Hex (x0 : Int) : Option Int :=
  bif (pickB (leqI 48 x0) (leqI x0 57) false) then (
    some (cvtI .i64 (subI .u8 x0 48))
  ) else (
    bif (pickB (leqI 97 x0) (leqI x0 102) false) then (
      some (addI .i64 (cvtI .i64 (subI .u8 x0 97)) 10)
    ) else (
      some (-1)
    )
  )

noncomputable def gRef27Bytes.loop1 (x0 : ByteArray) (s1 : Int × List Int) : Option (Fl (Int × List Int) (Fl (List Int) (ByteArray × Bool))) :=
  bif (ltI s1.1 (lenS x0)) then (
    need (InB s1.1 (lenS x0)) <|
    ((gRef27Hex (idxS x0 s1.1))).bind fun r1 =>
    need (Under (ltI r1 0) false (InB (addI .i64 s1.1 1) (lenS x0))) <|
    need (Under (ltI r1 0) false ((gRef27Hex (idxS x0 (addI .i64 s1.1 1))).isSome = true)) <|
    bif (pickB (ltI r1 0) true (ltI ((gRef27Hex (idxS x0 (addI .i64 s1.1 1))).getD dflt) 0)) then (
      some (.out (.out (⟨#[]⟩, false)))
    ) else (
      need (InB s1.1 (lenS x0)) <|
      need (InB (addI .i64 s1.1 1) (lenS x0)) <|
      ((gRef27Hex (idxS x0 (addI .i64 s1.1 1)))).bind fun r2 =>
      need (AppB (lenL s1.2) 1 1) <|
      some (.go ((addI .i64 s1.1 2), (appL s1.2 [(cvtI .u8 (addI .i64 (mulI .i64 16 r1) r2))])))
    )
  ) else (
    some (.out (.go s1.2))
  )

noncomputable def gRef27Bytes (x0 : ByteArray) : Option (ByteArray × Bool) :=
  need (NonZ 2) <|
  bif (eqI (remI (lenS x0) 2) 1) then (
    some (⟨#[]⟩, false)
  ) else (
    ((loopF (gRef27Bytes.loop1 x0) (0, [])).bind fun f => flC f fun (v1 : List Int) =>
      some ((strOfNums v1), true)
    )
  )
end Go.Proofs
end
section
namespace Go.Ab
/-- What the text of a Writer asks of its bytes. -/
def TextB (bs : List Int) : Prop := bs ≠ [] ∧ ∀ x ∈ bs, 0 ≤ x ∧ x < 256
instance (bs : List Int) : Decidable (TextB bs) := inferInstanceAs (Decidable (bs ≠ [] ∧ ∀ x ∈ bs, 0 ≤ x ∧ x < 256))
end Go.Ab
end
section

end
section
namespace Go.Ab
/-- What the text of a Builder asks of its bytes. -/
def TextE (bs : List Int) : Prop := ∀ x ∈ bs, 0 ≤ x ∧ x < 256
instance (bs : List Int) : Decidable (TextE bs) := inferInstanceAs (Decidable (∀ x ∈ bs, 0 ≤ x ∧ x < 256))
/-- Where a byte lies in a text; -1: nowhere. -/
def ixbL (c : UInt8) : List UInt8 → Int → Int
  | [], _ => -1
  | b :: l, k => bif b == c then k else ixbL c l (k + 1)
def ixbS (s : ByteArray) (c : Int) : Int := ixbL c.toNat.toUInt8 s.data.toList 0
end Go.Ab
end
section

end
section
namespace Go.Proofs
open Go.RowKit Go.Ab

theorem Tryz.ccSize : (Tryz.prog.info? 81).map (·.size) = some 2 := by kernel_rfl
theorem Tryz.ccLies : liesAt Tryz.prog Tryz.prog.depth 126 (2 / Tryz.prog.cellsOf 126) 0 81 1 = true := by kernel_rfl
theorem Tryz.byteI : (Tryz.prog.info? 5).map (fun i => (i.zero, i.size, i.bytes)) = some (some (.int .u8 0), 1, 1) := by kernel_rfl

set_option maxHeartbeats 1000000 in
set_option maxRecDepth 100000 in
theorem Tryz.ccFresh (b : Nat) (w : World) (v : Value) (hb : w.heap[b]? = some (.cells #[.pointer none, v] 126 (0, 0))) :
    Calls Tryz.prog 57 #[.pointer (some ⟨b, 0, none⟩)] w fun e w' => e = .returned (.tuple #[]) ∧ w' = w.setCell ⟨b, 0, none⟩ (.pointer (some ⟨b, 0, none⟩)) := by
  obtain ⟨j, hj, hjs⟩ := Option.map_eq_some_iff.1 Tryz.ccSize
  have h0 : w.cell? ⟨b, 0, none⟩ = some (.pointer none) := by rw [Lib.cell_of_heap hb]; rfl
  have hsh : w.shape? b = some (126, 2) := by simp [World.shape?, hb]
  have hfz : w.frozen? ⟨b, 0, none⟩ = false := Lib.frozen_of_heap hb 0
  go_enter Tryz.func57, Tryz.ntmps57
  go_wp2
  rw [Lib.run_to_unsafe w ⟨b, 0, none⟩ Tryz.underlying79 Tryz.underlying163 hj (by rw [hjs]; decide) hsh (Nat.zero_lt_succ 1)]
  simp only [Result.andThen]
  rw [Oper.upon_value]
  go_wp2
  rw [run_callFunc_extern Tryz.func93 (by kernel_rfl) (by kernel_rfl) (by kernel_rfl) (e := Extern.AbiNoEscape.same) (by kernel_rfl)]
  rw [Lib.run_noEscape]
  simp only [Result.andThen]
  rw [Oper.upon_value]
  go_wp2
  rw [Lib.run_from_unsafe w ⟨b, 0, none⟩ Tryz.underlying163 Tryz.underlying79 hj hsh Tryz.ccLies]
  simp only [Result.andThen]
  rw [Oper.upon_value]
  go_wp2
  go_end0
  exact ⟨rfl, rfl⟩

set_option maxHeartbeats 1000000 in
set_option maxRecDepth 100000 in
theorem Tryz.ccUsed (b : Nat) (w : World) (v : Value) (hb : w.heap[b]? = some (.cells #[.pointer (some ⟨b, 0, none⟩), v] 126 (0, 0))) :
    Calls Tryz.prog 57 #[.pointer (some ⟨b, 0, none⟩)] w fun e w' => e = .returned (.tuple #[]) ∧ w' = w := by
  obtain ⟨j, hj, hjs⟩ := Option.map_eq_some_iff.1 Tryz.ccSize
  have h0 : w.cell? ⟨b, 0, none⟩ = some (.pointer (some ⟨b, 0, none⟩)) := by rw [Lib.cell_of_heap hb]; rfl
  go_enter Tryz.func57, Tryz.ntmps57
  go_wp2
  rw [Lib.run_neq_ptr_same w _ Tryz.underlying79 hj]
  go_wp2
  go_end0
  exact ⟨rfl, rfl⟩

theorem Tryz.ccAny (b : Nat) (w : World) (p v : Value) (n : Nat) (xs : List Value) (hb : w.heap[b]? = some (.cells #[p, v] 126 (0, 0))) (hp : p = .pointer none ∨ p = .pointer (some ⟨b, 0, none⟩))
    (hown : w.ownsRow 0 5 1 v n xs) (hne : v.ownBlock ≠ some b) :
    Calls Tryz.prog 57 #[.pointer (some ⟨b, 0, none⟩)] w fun e w' => e = .returned (.tuple #[]) ∧ w'.heap[b]? = some (.cells #[.pointer (some ⟨b, 0, none⟩), v] 126 (0, 0)) ∧
      w'.ownsRow 0 5 1 v n xs ∧ w'.heap.size = w.heap.size ∧ WrKeep b v.ownBlock w w' ∧ ∀ k, k ≠ b → w'.heap[k]? = w.heap[k]? := by
  rcases hp with rfl | rfl
  · refine (Tryz.ccFresh b w v hb).mono ?_
    rintro e w' ⟨rfl, rfl⟩
    refine ⟨rfl, by simp [World.setCell, Array.getElem?_modify, hb], ?_, by simp [World.setCell], WrKeep.setCell _ _ _ _ _, fun k hk => heap_setCell_ne hk⟩
    exact hown.kept (row := some b) ⟨rfl, rfl, rfl, by simp [World.setCell], fun k _ hk => heap_setCell_ne (fun e => hk (by simp [e]))⟩ (.inr hne)
  · refine (Tryz.ccUsed b w v hb).mono ?_
    rintro e w' ⟨rfl, rfl⟩
    exact ⟨rfl, hb, hown, rfl, WrKeep.refl _ _ _, fun _ _ => rfl⟩

end Go.Proofs
end
section
namespace Go.Proofs
open Go.RowKit Go.Ab

theorem Tryz.bcSize : (Tryz.prog.info? 81).map (·.size) = some 2 := by kernel_rfl
theorem Tryz.bcLies : liesAt Tryz.prog Tryz.prog.depth 81 (2 / Tryz.prog.cellsOf 81) 0 81 1 = true := by kernel_rfl
theorem Tryz.bbyteI : (Tryz.prog.info? 5).map (fun i => (i.zero, i.size, i.bytes)) = some (some (.int .u8 0), 1, 1) := by kernel_rfl

set_option maxHeartbeats 1000000 in
set_option maxRecDepth 100000 in
theorem Tryz.bcFresh (b : Nat) (w : World) (v : Value) (hb : w.heap[b]? = some (.cells #[.pointer none, v] 81 (0, 0))) :
    Calls Tryz.prog 57 #[.pointer (some ⟨b, 0, none⟩)] w fun e w' => e = .returned (.tuple #[]) ∧ w' = w.setCell ⟨b, 0, none⟩ (.pointer (some ⟨b, 0, none⟩)) := by
  obtain ⟨j, hj, hjs⟩ := Option.map_eq_some_iff.1 Tryz.bcSize
  have h0 : w.cell? ⟨b, 0, none⟩ = some (.pointer none) := by rw [Lib.cell_of_heap hb]; rfl
  have hsh : w.shape? b = some (81, 2) := by simp [World.shape?, hb]
  have hfz : w.frozen? ⟨b, 0, none⟩ = false := Lib.frozen_of_heap hb 0
  go_enter Tryz.func57, Tryz.ntmps57
  go_wp2
  rw [Lib.run_to_unsafe w ⟨b, 0, none⟩ Tryz.underlying79 Tryz.underlying163 hj (by rw [hjs]; decide) hsh (Nat.zero_lt_succ 1)]
  simp only [Result.andThen]
  rw [Oper.upon_value]
  go_wp2
  rw [run_callFunc_extern Tryz.func93 (by kernel_rfl) (by kernel_rfl) (by kernel_rfl) (e := Extern.AbiNoEscape.same) (by kernel_rfl)]
  rw [Lib.run_noEscape]
  simp only [Result.andThen]
  rw [Oper.upon_value]
  go_wp2
  rw [Lib.run_from_unsafe w ⟨b, 0, none⟩ Tryz.underlying163 Tryz.underlying79 hj hsh Tryz.bcLies]
  simp only [Result.andThen]
  rw [Oper.upon_value]
  go_wp2
  go_end0
  exact ⟨rfl, rfl⟩

set_option maxHeartbeats 1000000 in
set_option maxRecDepth 100000 in
theorem Tryz.bcUsed (b : Nat) (w : World) (v : Value) (hb : w.heap[b]? = some (.cells #[.pointer (some ⟨b, 0, none⟩), v] 81 (0, 0))) :
    Calls Tryz.prog 57 #[.pointer (some ⟨b, 0, none⟩)] w fun e w' => e = .returned (.tuple #[]) ∧ w' = w := by
  obtain ⟨j, hj, hjs⟩ := Option.map_eq_some_iff.1 Tryz.bcSize
  have h0 : w.cell? ⟨b, 0, none⟩ = some (.pointer (some ⟨b, 0, none⟩)) := by rw [Lib.cell_of_heap hb]; rfl
  go_enter Tryz.func57, Tryz.ntmps57
  go_wp2
  rw [Lib.run_neq_ptr_same w _ Tryz.underlying79 hj]
  go_wp2
  go_end0
  exact ⟨rfl, rfl⟩

theorem Tryz.bcAny (b : Nat) (w : World) (p v : Value) (n : Nat) (xs : List Value) (hb : w.heap[b]? = some (.cells #[p, v] 81 (0, 0))) (hp : p = .pointer none ∨ p = .pointer (some ⟨b, 0, none⟩))
    (hown : w.ownsRow 0 5 1 v n xs) (hne : v.ownBlock ≠ some b) :
    Calls Tryz.prog 57 #[.pointer (some ⟨b, 0, none⟩)] w fun e w' => e = .returned (.tuple #[]) ∧ w'.heap[b]? = some (.cells #[.pointer (some ⟨b, 0, none⟩), v] 81 (0, 0)) ∧
      w'.ownsRow 0 5 1 v n xs ∧ w'.heap.size = w.heap.size ∧ WrKeep b v.ownBlock w w' ∧ ∀ k, k ≠ b → w'.heap[k]? = w.heap[k]? := by
  rcases hp with rfl | rfl
  · refine (Tryz.bcFresh b w v hb).mono ?_
    rintro e w' ⟨rfl, rfl⟩
    refine ⟨rfl, by simp [World.setCell, Array.getElem?_modify, hb], ?_, by simp [World.setCell], WrKeep.setCell _ _ _ _ _, fun k hk => heap_setCell_ne hk⟩
    exact hown.kept (row := some b) ⟨rfl, rfl, rfl, by simp [World.setCell], fun k _ hk => heap_setCell_ne (fun e => hk (by simp [e]))⟩ (.inr hne)
  · refine (Tryz.bcUsed b w v hb).mono ?_
    rintro e w' ⟨rfl, rfl⟩
    exact ⟨rfl, hb, hown, rfl, WrKeep.refl _ _ _, fun _ _ => rfl⟩

end Go.Proofs
end
section
namespace Go.Ab
/-- unicode.IsLetter, IsDigit, ToLower, by Go's own tables; a rune's bytes. -/
noncomputable def letterR (r : Int) : Bool := Lib.isLetterU r
noncomputable def digitR (r : Int) : Bool := Lib.isDigitU r
noncomputable def lowerR (r : Int) : Int := Lib.toLowerU r
def runeZ (r : Int) : List Int := Lib.encodeRuneZ r
def I32B (r : Int) : Prop := -2147483648 ≤ r ∧ r ≤ 2147483647
instance (r : Int) : Decidable (I32B r) := inferInstanceAs (Decidable (_ ∧ _))
end Go.Ab
end
section

end
section
namespace Go.Ab

theorem keep_below {g : G} {w' : World} (h : RowKit.Below g.w.heap.size g.w w') : Keep g { g with w := w' } where
  len := Nat.le_refl _
  ptr _ _ := rfl
  rooms _ _ e h := ⟨e, h, Nat.le_refl _, fun _ => rfl⟩
  size := h.size
  cells a x hx _ := by rw [← hx]; simp only [World.cell?]; rw [h.block _ (cell_lt hx)]
  regs _ _ h := h
  blocks b hb _ := h.block b hb
  io := ⟨h.os, h.output⟩
  xs _ h := h
  xcell a ha _ := by simp only [World.cell?, World.frozen?]; rw [h.block _ ha]; exact ⟨rfl, rfl⟩
  xblk b hb _ := h.block b hb

theorem sim_below {g : G} {w' : World} (h : RowKit.Below g.w.heap.size g.w w') (s : Sim g) : Sim { g with w := w' } where
  fct := s.fct.keep (keep_below h)
  blk i cells hi := by
    obtain ⟨xs, T, h1, h2, h3, h4⟩ := s.blk i cells hi
    exact ⟨xs, T, (h.block _ (blk_lt s hi)).trans h1, h2, fun j hj => (h3 j hj).keep (keep_below h), h4⟩
  iter i t pos hi := (h.block _ (iter_lt s hi)).trans (s.iter i t pos hi)
  room t e ht k hk := by
    obtain ⟨x, h1, h2⟩ := s.room t e ht k hk
    have hb := cell_lt h1
    refine ⟨x, ?_, ?_⟩
    · simp only [World.cell?] at h1 ⊢; rw [h.block _ hb]; exact h1
    · simp only [World.frozen?] at h2 ⊢; rw [h.block _ hb]; exact h2
  disj := s.disj
  inb a ha := Nat.lt_of_lt_of_le (s.inb a ha) h.size
  xdis := s.xdis
  mapo i es hi := by
    obtain ⟨o', h1, h2⟩ := s.mapo i es hi
    exact ⟨o', (h.block _ (mapo_lt s hi)).trans h1, h2.keep (keep_below h)⟩
  opq i φ hi := by
    have e1 := h.block _ (whole_lt s hi (.inl rfl))
    have e2 := h.block _ (whole_lt s hi (.inr rfl))
    show φ _ _ (w'.heap[g.β i]?) (w'.heap[(g.ρ i).b]?)
    rw [e1, e2]; exact s.opq i φ hi
  own i P cur hi := s.ownKeep (keep_below h).toKeep0 (fun a ha => Nat.lt_of_lt_of_le (s.inb a ha) h.size) hi hi rfl rfl fun b hb => h.block _ (whole_lt s hi hb)
  arr i z els hi := (s.arr i z els hi).keep0 (keep_below h).toKeep0 fun hne => h.block _ (whole_lt s hi ⟨hne, rfl⟩)
  mapr i es vis cur t hi := by
    obtain ⟨t1, t2, o', oi, h1, h2, h3⟩ := s.mapr i es vis cur t hi
    exact ⟨t1, t2, o', oi, (h.block _ (whole_lt s hi (.inl rfl))).trans h1, (h.block _ (whole_lt s hi (.inr rfl))).trans h2, h3.keep (keep_below h)⟩

end Go.Ab
end
section
set_option maxRecDepth 100000
set_option maxHeartbeats 1000000
namespace Go.Ab
open Go.Proofs Go.RowKit Go.Lib Go.Sort
theorem isNaN_c (x : Int) (w : World) : Calls Tryz.prog 286 #[.int .i64 x] w fun e w' => e = .returned (.bool false) ∧ w' = w := by
  go_enter Tryz.func286, Tryz.ntmps286
  go_wp2
  go_ret
  exact ⟨by simp, rfl⟩
theorem compare_c (x y : Int) (w : World) : Calls Tryz.prog 274 #[.int .i64 x, .int .i64 y] w fun e w' => e = .returned (.int .i64 (Lib.compareInt x y)) ∧ w' = w := by
  go_enter Tryz.func274, Tryz.ntmps274
  go_wp2_with (go_at_call 286; refine (isNaN_c _ _).mono ?_; rintro e w' ⟨rfl, hw⟩; rw [hw])
  all_goals (go_ret; refine ⟨?_, rfl⟩; unfold Lib.compareInt; (repeat' split) <;> first | rfl | (exfalso; omega))
def or3 (a b c : Int) : Int := if a ≠ 0 then a else if b ≠ 0 then b else c
theorem or_c (B : Nat) (a b c : Int) (w : World) (h0 : w.cell? ⟨B, 0, none⟩ = some (.int .i64 a)) (h1 : w.cell? ⟨B, 1, none⟩ = some (.int .i64 b)) (h2 : w.cell? ⟨B, 2, none⟩ = some (.int .i64 c)) :
    Calls Tryz.prog 273 #[.slice (some ⟨B, 0, none⟩) 3 3] w fun e w' => e = .returned (.int .i64 (or3 a b c)) ∧ w' = w := by
  go_enter Tryz.func273, Tryz.ntmps273
  go_wp2
  go_loopw [8] (fun v wr => ∃ i : Nat, v = .int .i64 i ∧ i ≤ 3 ∧ wr = w ∧ (1 ≤ i → a = 0) ∧ (2 ≤ i → b = 0) ∧ (3 ≤ i → c = 0)) (fun v _ => 3 - (match v with | .int _ n => n.toNat | _ => 0))
  case atStart => exact ⟨0, rfl, by omega, rfl, by omega, by omega, by omega⟩
  case round =>
    obtain ⟨i, rfl, hi, rfl, q1, q2, q3⟩ := hrel
    rcases (show i = 0 ∨ i = 1 ∨ i = 2 ∨ i = 3 by omega) with rfl | rfl | rfl | rfl
    · go_wp2
      · rename_i hh
        go_ret
        have hh : a ≠ 0 := by simpa using hh
        exact ⟨by simp [or3, hh], rfl⟩
      · rename_i hh
        have hh : a = 0 := by simpa using hh
        exact ⟨⟨1, rfl, by omega, trivial, fun _ => hh, by omega, by omega⟩, by decide⟩
    · have qa := q1 (by omega)
      go_wp2
      · rename_i hh
        go_ret
        have hh : b ≠ 0 := by simpa using hh
        exact ⟨by simp [or3, hh, qa], rfl⟩
      · rename_i hh
        have hh : b = 0 := by simpa using hh
        exact ⟨⟨2, rfl, by omega, trivial, fun _ => qa, fun _ => hh, by omega⟩, by decide⟩
    · have qa := q1 (by omega)
      have qb := q2 (by omega)
      go_wp2
      · rename_i hh
        go_ret
        have hh : c ≠ 0 := by simpa using hh
        exact ⟨by simp [or3, qb, qa], rfl⟩
      · rename_i hh
        have hh : c = 0 := by simpa using hh
        exact ⟨⟨3, rfl, by omega, trivial, fun _ => qa, fun _ => qb, fun _ => hh⟩, by decide⟩
    · have qa := q1 (by omega)
      have qb := q2 (by omega)
      have qc := q3 (by omega)
      go_wp2
      go_ret
      exact ⟨by simp [or3, qb, qa, qc], rfl⟩

def cf3 (x y : Int × Int × Int) : Int := or3 (Lib.compareInt x.1 y.1) (Lib.compareInt x.2.1 y.2.1) (Lib.compareInt x.2.2 y.2.2)
theorem linksCmp (x y : Int × Int × Int) (W : World) : Calls Tryz.prog 272 #[.agg #[.int .i64 x.1, .int .i64 x.2.1, .int .i64 x.2.2], .agg #[.int .i64 y.1, .int .i64 y.2.1, .int .i64 y.2.2]] W fun e w' => e = .returned (.int .i64 (cf3 x y)) ∧ ∃ q os', w' = grow (W.drewN q) os' := by
  obtain ⟨x1, x2, x3⟩ := x
  obtain ⟨y1, y2, y3⟩ := y
  have c1 := fun W' => compare_c x1 y1 W'
  have c2 := fun W' => compare_c x2 y2 W'
  have c3 := fun W' => compare_c x3 y3 W'
  simp only [cf3]
  generalize Lib.compareInt x1 y1 = r1 at c1 ⊢
  generalize Lib.compareInt x2 y2 = r2 at c2 ⊢
  generalize Lib.compareInt x3 y3 = r3 at c3 ⊢
  go_enter Tryz.func272, Tryz.ntmps272
  go_upto_region 1 with (fail)
  obtain ⟨W2, hW2⟩ : ∃ W2, (W.alloc (.cells #[.int .i64 x1, .int .i64 x2, .int .i64 x3] 303)).alloc (.cells #[.int .i64 y1, .int .i64 y2, .int .i64 y3] 303) = W2 := ⟨_, rfl⟩
  change Code.wp _ _ _ _ ((W.alloc (.cells #[.int .i64 x1, .int .i64 x2, .int .i64 x3] 303)).alloc (.cells #[.int .i64 y1, .int .i64 y2, .int .i64 y3] 303))
  rw [hW2]
  have k0 : W2.cell? ⟨W.heap.size, 0, none⟩ = some (.int .i64 x1) := by rw [← hW2]; simp
  have k1 : W2.cell? ⟨W.heap.size, 1, none⟩ = some (.int .i64 x2) := by rw [← hW2]; simp
  have k2 : W2.cell? ⟨W.heap.size, 2, none⟩ = some (.int .i64 x3) := by rw [← hW2]; simp
  have l0 : W2.cell? ⟨W.heap.size + 1, 0, none⟩ = some (.int .i64 y1) := by rw [← hW2]; simp
  have l1 : W2.cell? ⟨W.heap.size + 1, 1, none⟩ = some (.int .i64 y2) := by rw [← hW2]; simp
  have l2 : W2.cell? ⟨W.heap.size + 1, 2, none⟩ = some (.int .i64 y3) := by rw [← hW2]; simp
  refine wp_region_still_tail 19 (by kernel_rfl) (by kernel_rfl) ?_
  simp only [List.take_succ_cons, List.take_zero, List.drop_succ_cons, List.drop_zero]
  iterate 4 still_step
  still_call (c1 _)
  iterate 6 still_step
  still_call (c2 _)
  iterate 6 still_step
  still_call (c3 _)
  refine wpStill_nil ?_
  change wpList _ _ _ _ _ W2.drew
  have fin : ∀ o : Obj, ∃ q os', W2.drew.alloc o = grow (W.drewN q) os' := fun o => by
    refine ⟨1, #[.cells #[.int .i64 x1, .int .i64 x2, .int .i64 x3] 303, .cells #[.int .i64 y1, .int .i64 y2, .int .i64 y3] 303] ++ #[o], ?_⟩
    rw [← hW2, alloc_eq_grow, ← grow_grow, alloc_eq_grow, alloc_eq_grow, grow_grow]; rfl
  generalize W2.drew = W3 at fin ⊢
  clear k0 k1 k2 l0 l1 l2 c1 c2 c3 hW2
  have hor := fun W' h0 h1 h2 => or_c W3.heap.size r1 r2 r3 W' h0 h1 h2
  go_wp2_with (go_at_call 273; refine (hor _ (by simp) (by simp) (by simp)).mono ?_; rintro e w' ⟨rfl, rfl⟩)
  go_ret
  exact ⟨rfl, fin _⟩
end Go.Ab
end
section
namespace Go.Ab
def ShFs (P : Program) : List TypeId → List AV → Prop
  | [], q => q = []
  | t :: ts, q => ∃ r q', q = r ++ q' ∧ ShE P t r ∧ ShFs P ts q'
theorem shFs_of {P : Program} : ∀ {ts : List TypeId} {parts : List (List AV)}, parts.length = ts.length → (∀ (j : Nat) (t : TypeId), ts[j]? = some t → ∃ r, parts[j]? = some r ∧ ShE P t r) → ShFs P ts parts.flatten
  | [], [], _, _ => rfl
  | [], _ :: _, h, _ => by simp at h
  | _ :: _, [], h, _ => by simp at h
  | t :: ts, p :: parts, h, hp => by
    obtain ⟨r, h1, h2⟩ := hp 0 t rfl
    cases h1
    exact ⟨p, parts.flatten, by simp, h2, shFs_of (by simpa using h) fun j t' ht => hp (j + 1) t' ht⟩
theorem sh_fields {P : Program} {t : TypeId} {l : List (Nat × TypeId)} {size bytes : Nat} {z q : List AV} {eq : Bool} (ht : tyOf P t = some ⟨.struct l, size, bytes, z, eq⟩) (h : ShE P t q) : ShFs P (l.map (·.2)) q := by
  unfold tyOf at ht
  split at ht
  · rename_i i d hi hd
    split at ht
    · split at ht
      · simp only [Option.some.injEq, TyI.mk.injEq] at ht
        obtain ⟨hk, _⟩ := ht
        cases d with
        | struct fs =>
          simp only [kindOf, TyK.struct.injEq] at hk
          obtain ⟨parts, h1, rfl, h3⟩ := sh_struct hd h
          refine shFs_of (by rw [h1, ← hk]; simp) fun j t' hj => ?_
          rw [← hk] at hj
          simp only [List.map_map, List.getElem?_map, Array.getElem?_toList] at hj
          cases hf : fs[j]? with
          | none => rw [hf] at hj; cases hj
          | some f =>
            rw [hf] at hj
            simp only [Option.map_some, Option.some.injEq, Function.comp_apply] at hj
            subst hj
            exact h3 j f hf
        | _ => simp [kindOf] at hk
      · cases ht
    · cases ht
  · cases ht
theorem shV_agg {P : Program} {t : TypeId} {l : List (Nat × TypeId)} {size bytes : Nat} {z : List AV} {av : AV} {eq : Bool} (ht : tyOf P t = some ⟨.struct l, size, bytes, z, eq⟩) (h : ShV P t av) : ∃ avs, av = .agg avs ∧ ShE P t avs := by
  unfold tyOf at ht
  split at ht
  · rename_i i d hi hd
    split at ht
    · split at ht
      · simp only [Option.some.injEq, TyI.mk.injEq] at ht
        obtain ⟨hk, _⟩ := ht
        cases d with
        | struct fs => exact shV_struct hd h
        | _ => simp [kindOf] at hk
      · cases ht
    · cases ht
  · cases ht
theorem shV_rows {P : Program} {t e : TypeId} {av : AV} {α : Type} {enc : α → List AV} {wf : α → Prop} (hu : P.underlying t = some (.slice e)) (he : ∀ q, ShE P e q → ∃ x, q = enc x ∧ wf x) (h : ShV P t av) :
    ∃ l : List α, av = .sl (l.map enc) .no ∧ l.length ≤ maxLen ∧ ∀ x ∈ l, wf x := by
  obtain ⟨els, rfl, hq, hlen⟩ := shV_slice hu h
  have : ∀ els : List (List AV), (∀ q ∈ els, ShE P e q) → ∃ l : List α, els = l.map enc ∧ ∀ x ∈ l, wf x := by
    intro els
    induction els with
    | nil => intro _; exact ⟨[], rfl, fun _ h => by cases h⟩
    | cons q r ih =>
      intro hq
      obtain ⟨n, rfl, hw⟩ := he q (hq q (by simp))
      obtain ⟨l, rfl, hl⟩ := ih fun q' h' => hq q' (by simp [h'])
      exact ⟨n :: l, rfl, fun x hx => by
        rcases List.mem_cons.1 hx with rfl | hx
        · exact hw
        · exact hl x hx⟩
  obtain ⟨l, rfl, hl⟩ := this els hq
  exact ⟨l, rfl, by simpa using hlen, hl⟩
end Go.Ab
end
section
namespace Go.Ab
/-- The fact at the types from 100 i to 100 i + 99. -/
def partB (f : Nat → Bool) (n i : Nat) : Bool := (List.range 100).all fun j => !decide (100 * i + j < n) || f (100 * i + j)
theorem of_parts {f : Nat → Bool} {n k : Nat} (hk : n ≤ 100 * k) (h : ∀ i, i < k → partB f n i = true) : (List.range n).all f = true := by
  refine List.all_eq_true.2 fun t ht => ?_
  have ht' : t < n := List.mem_range.1 ht
  have h1 := List.all_eq_true.1 (h (t / 100) (by omega)) (t % 100) (List.mem_range.2 (by omega))
  have e : 100 * (t / 100) + t % 100 = t := by omega
  rw [e] at h1
  simpa [ht'] using h1
end Go.Ab
end
