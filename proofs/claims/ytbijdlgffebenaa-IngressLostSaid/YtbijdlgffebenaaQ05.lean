/- What these functions compute, as plain functions. No condition. -/
import Derived.Test.YtbijdlgffebenaaTs
import Derived.Test.YtbijdlgffebenaaKl
import Derived.Test.YtbijdlgffebenaaWb
import Derived.Test.YtbijdlgffebenaaTy
import Derived.Laws.Externs
import Derived.Test.YtbijdlgffebenaaAb5
section
namespace Go.Proofs
open Go.Ab
noncomputable def gC (x0 : Th) : Option Int :=
 some (lenL x0.fw.fj)

noncomputable def gJ (x0 : Th) : Option (Int × Int) :=
 some (x0.fz, x0.fe)

noncomputable def gG (x0 : Tl) : Option Bool :=
 need (Under (ltI 0 (lenL x0.fj)) true (InB 0 (lenL x0.fj))) <|
 some (pickB (ltI 0 (lenL x0.fj)) ((nthI x0.fj 0).fJ) false)

noncomputable def gn.loop1 (x0 : Tl) (s1 : Int × Int) : Option (Fl (Int × Int) (Fl Int Int)) :=
 bif (ltI s1.1 (lenL x0.fj)) then (
  need (InB s1.1 (lenL x0.fj)) <|
  some (.go ((addI .i64 s1.1 1), (addI .i64 s1.2 (lenS ((nthI x0.fj s1.1).fT)))))
 ) else (
  some (.out (.go s1.2))
 )

noncomputable def gn (x0 : Tl) : Option Int :=
 ((loopF (gn.loop1 x0) (0, 0)).bind fun f => flC f fun (v1 : Int) =>
  some v1
 )

noncomputable def gy (x0 : Tp) : Option Int :=
 bif (pickB (pickB (pickB (pickB (pickB (ltI x0.fv 1) true (ltI 1048576 x0.fv)) true (ltI x0.fj 1)) true (ltI 1024 x0.fj)) true (ltI x0.fq 0)) true (ltI 1099511627776 x0.fq)) then (
  some 5
 ) else (
  some 0
 )

noncomputable def gH (x0 : Th) : Option Th :=
 ((gC x0)).bind fun r1 =>
 some (Th.mk x0.fb (Tl.mk []) x0.fz (addI .i64 x0.fe r1))

noncomputable def gF (x0 : Th) (x1 : Tc) : Option Bool :=
 ((gC x0)).bind fun r1 =>
 bif (eqI r1 0) then (
  some false
 ) else (
  need (InB (subI .i64 r1 1) (lenL x0.fw.fj)) <|
  some (pickB (pickB (eqI x1.fAt (addI .i64 ((nthI x0.fw.fj (subI .i64 r1 1)).fAt) 1)) (eqI x1.fQ ((nthI x0.fw.fj (subI .i64 r1 1)).fQ)) false) (notB x1.fy) false)
 )

noncomputable def gae (x0 : Tp) : Option (Option Th × Int) :=
 ((gy x0)).bind fun r1 =>
 bif (neI r1 0) then (
  some (none, r1)
 ) else (
  some ((some (Th.mk x0 (Tl.mk []) 0 0)), 0)
 )

noncomputable def gP (x0 : Th) (x1 : Int) : Option (Bool × Th) :=
 ((gC x0)).bind fun r1 =>
 need (Under (eqI r1 0) false (InB 0 (lenL x0.fw.fj))) <|
 bif (pickB (eqI r1 0) true (ltI (subI .i64 x1 ((nthI x0.fw.fj 0).fO)) x0.fb.fq)) then (
  some (false, x0)
 ) else (
  ((gH x0)).bind fun r2 =>
  some (true, r2)
 )

noncomputable def gV (x0 : Th) (x1 : Tc) : Option (Tl × Bool × Th) :=
 ((
  ((gF x0 x1)).bind fun r1 =>
  bif (notB r1) then (
   ((gH x0)).bind fun r2 =>
   bif (pickB r2.fb.fu (notB x1.fy) false) then (
    some (.out ((Tl.mk []), false, (Th.mk r2.fb r2.fw r2.fz (addI .i64 r2.fe 1))))
   ) else (
    some (.go r2)
   )
  ) else (
   some (.go x0)
  )
  : Option (Fl Th (Tl × Bool × Th))).bind fun f => flC f fun (v1 : Th) =>
  need (AppB 0 (lenL v1.fw.fj) 48) <|
  need (AppB (lenL v1.fw.fj) 1 48) <|
  ((gC (Th.mk v1.fb (Tl.mk (appL v1.fw.fj [x1])) v1.fz v1.fe))).bind fun r3 =>
  need (Under (ltI v1.fb.fj r3) false ((gn (Tl.mk (appL v1.fw.fj [x1]))).isSome = true)) <|
  bif (pickB (ltI v1.fb.fj r3) true (ltI v1.fb.fv ((gn (Tl.mk (appL v1.fw.fj [x1]))).getD dflt))) then (
   ((gH (Th.mk v1.fb (Tl.mk (appL v1.fw.fj [x1])) v1.fz v1.fe))).bind fun r4 =>
   some ((Tl.mk []), false, r4)
  ) else (
   bif (pickB v1.fb.fu (notB x1.fA) false) then (
    some ((Tl.mk []), false, (Th.mk v1.fb (Tl.mk (appL v1.fw.fj [x1])) v1.fz v1.fe))
   ) else (
    some ((Tl.mk (appL v1.fw.fj [x1])), true, (Th.mk v1.fb (Tl.mk []) (addI .i64 v1.fz 1) v1.fe))
   )
  )
 )
end Go.Proofs
end
section
namespace Go.Proofs
open Go.Ab
noncomputable def gK : Option Int :=
 need (NonN 1) <|
 some (addI .u16 (shrI .u16 (subI .u16 0 1) 1) 1)

noncomputable def gL : Option Int :=
 need (NonN 1) <|
 some (addI .u32 (shrI .u32 (subI .u32 0 1) 1) 1)

noncomputable def gR (x0 : Int) (x1 : Int) : Option Int :=
 (gK).bind fun r1 =>
 bif (ltI (subI .u16 x0 x1) r1) then (
  some (cvtI .i64 (subI .u16 x0 x1))
 ) else (
  some (negI .i64 (cvtI .i64 (subI .u16 x1 x0)))
 )

noncomputable def gS (x0 : Int) (x1 : Int) : Option Int :=
 (gL).bind fun r1 =>
 bif (ltI (subI .u32 x0 x1) r1) then (
  some (cvtI .i64 (subI .u32 x0 x1))
 ) else (
  some (negI .i64 (cvtI .i64 (subI .u32 x1 x0)))
 )

noncomputable def gM (x0 : Int) (x1 : Int) : Option Int :=
 ((gR x1 (cvtI .u16 x0))).bind fun r1 =>
 some (addI .i64 x0 r1)

noncomputable def gN (x0 : Int) (x1 : Int) : Option Int :=
 ((gS x1 (cvtI .u32 x0))).bind fun r1 =>
 some (addI .i64 x0 r1)

noncomputable def gc (x0 : Tf) (x1 : Int) : Option (Int × Tf) :=
 need (NonN 16) <|
 need (NonN 16) <|
 some ((bitsOp .or .i64 (shlI .i64 (addI .i64 (shrI .i64 x0.ff.fk 16) 2) 16) (cvtI .i64 x1)), (Tf.mk x0.fa x0.fc (Tv.mk x0.ff.fd (bitsOp .or .i64 (shlI .i64 (addI .i64 (shrI .i64 x0.ff.fk 16) 2) 16) (cvtI .i64 x1)) x0.ff.fV 0 (addI .i64 x0.ff.fC 1)) x0.fh x0.fOf x0.fp x0.fm))

noncomputable def gg (x0 : Tf) (x1 : Int) : Option (Int × Bool × Tf) :=
 bif (notB x0.ff.fd) then (
  some ((addI .i64 1048576 (cvtI .i64 x1)), true, (Tf.mk x0.fa x0.fc (Tv.mk true (addI .i64 1048576 (cvtI .i64 x1)) x0.ff.fV x0.ff.fM x0.ff.fC) x0.fh x0.fOf x0.fp x0.fm))
 ) else (
  ((gM x0.ff.fk x1)).bind fun r1 =>
  bif (pickB (leqI (subI .i64 r1 x0.ff.fk) 3000) (leqI (-3000) (subI .i64 r1 x0.ff.fk)) false) then (
   some (r1, true, (Tf.mk x0.fa x0.fc (Tv.mk x0.ff.fd (maxI x0.ff.fk r1) x0.ff.fV 0 x0.ff.fC) x0.fh x0.fOf x0.fp x0.fm))
  ) else (
   ((
    bif (pickB (ltI 0 x0.ff.fM) (eqI x1 x0.ff.fV) false) then (
     some (.go (Tv.mk x0.ff.fd x0.ff.fk x0.ff.fV (addI .i64 x0.ff.fM 1) x0.ff.fC))
    ) else (
     some (.go (Tv.mk x0.ff.fd x0.ff.fk x0.ff.fV 1 x0.ff.fC))
    )
    : Option (Fl Tv (Int × Bool × Tf))).bind fun f => flC f fun (v1 : Tv) =>
    bif (leqI 2 v1.fM) then (
     ((gc (Tf.mk x0.fa x0.fc (Tv.mk v1.fd v1.fk (addI .u16 x1 1) v1.fM v1.fC) x0.fh x0.fOf x0.fp x0.fm) x1)).bind fun r2 =>
     some (r2.1, true, r2.2)
    ) else (
     some (0, false, (Tf.mk x0.fa x0.fc (Tv.mk v1.fd v1.fk (addI .u16 x1 1) v1.fM v1.fC) x0.fh x0.fOf x0.fp x0.fm))
    )
   )
  )
 )

noncomputable def gf (x0 : Tf) (x1 : Int) : Option (Int × Tf) :=
 bif (notB x0.fh.fd) then (
  some ((addI .i64 68719476736 (cvtI .i64 x1)), (Tf.mk x0.fa x0.fc x0.ff (Tt.mk true (addI .i64 68719476736 (cvtI .i64 x1))) x0.fOf x0.fp x0.fm))
 ) else (
  ((gN x0.fh.fW x1)).bind fun r1 =>
  some (r1, (Tf.mk x0.fa x0.fc x0.ff (Tt.mk x0.fh.fd (maxI x0.fh.fW r1)) x0.fOf x0.fp x0.fm))
 )
end Go.Proofs
end
section
namespace Go.Ab
def TextB (bs : List Int) : Prop := bs ≠ [] ∧ ∀ x ∈ bs, 0 ≤ x ∧ x < 256
instance (bs : List Int) : Decidable (TextB bs) := inferInstanceAs (Decidable (bs ≠ [] ∧ ∀ x ∈ bs, 0 ≤ x ∧ x < 256))
end Go.Ab
end
section

end
section
namespace Go.Proofs
open Go.RowKit Go.Ab

theorem Try.ccSize : (Try.prog.info? 109).map (·.size) = some 2 := by kernel_rfl
theorem Try.ccLies : liesAt Try.prog Try.prog.depth 111 (2 / Try.prog.cellsOf 111) 0 109 1 = true := by kernel_rfl
theorem Try.byteI : (Try.prog.info? 5).map (fun i => (i.zero, i.size, i.bytes)) = some (some (.int .u8 0), 1, 1) := by kernel_rfl

set_option maxHeartbeats 1000000 in
set_option maxRecDepth 100000 in
theorem Try.ccFresh (b : Nat) (w : World) (v : Value) (hb : w.heap[b]? = some (.cells #[.pointer none, v] 111 (0, 0))) :
    Calls Try.prog 61 #[.pointer (some ⟨b, 0, none⟩)] w fun e w' => e = .returned (.tuple #[]) ∧ w' = w.setCell ⟨b, 0, none⟩ (.pointer (some ⟨b, 0, none⟩)) := by
  obtain ⟨j, hj, hjs⟩ := Option.map_eq_some_iff.1 Try.ccSize
  have h0 : w.cell? ⟨b, 0, none⟩ = some (.pointer none) := by rw [Lib.cell_of_heap hb]; rfl
  have hsh : w.shape? b = some (111, 2) := by simp [World.shape?, hb]
  have hfz : w.frozen? ⟨b, 0, none⟩ = false := Lib.frozen_of_heap hb 0
  go_enter Try.func61, Try.ntmps61
  go_wp2
  rw [Lib.run_to_unsafe w ⟨b, 0, none⟩ Try.underlying107 Try.underlying160 hj (by rw [hjs]; decide) hsh (Nat.zero_lt_succ 1)]
  simp only [Result.andThen]
  rw [Oper.upon_value]
  go_wp2
  rw [run_callFunc_extern Try.func72 (by kernel_rfl) (by kernel_rfl) (by kernel_rfl) (e := Extern.AbiNoEscape.same) (by kernel_rfl)]
  rw [Lib.run_noEscape]
  simp only [Result.andThen]
  rw [Oper.upon_value]
  go_wp2
  rw [Lib.run_from_unsafe w ⟨b, 0, none⟩ Try.underlying160 Try.underlying107 hj hsh Try.ccLies]
  simp only [Result.andThen]
  rw [Oper.upon_value]
  go_wp2
  go_end0
  exact ⟨rfl, rfl⟩

set_option maxHeartbeats 1000000 in
set_option maxRecDepth 100000 in
theorem Try.ccUsed (b : Nat) (w : World) (v : Value) (hb : w.heap[b]? = some (.cells #[.pointer (some ⟨b, 0, none⟩), v] 111 (0, 0))) :
    Calls Try.prog 61 #[.pointer (some ⟨b, 0, none⟩)] w fun e w' => e = .returned (.tuple #[]) ∧ w' = w := by
  obtain ⟨j, hj, hjs⟩ := Option.map_eq_some_iff.1 Try.ccSize
  have h0 : w.cell? ⟨b, 0, none⟩ = some (.pointer (some ⟨b, 0, none⟩)) := by rw [Lib.cell_of_heap hb]; rfl
  go_enter Try.func61, Try.ntmps61
  go_wp2
  rw [Lib.run_neq_ptr_same w _ Try.underlying107 hj]
  go_wp2
  go_end0
  exact ⟨rfl, rfl⟩

theorem Try.ccAny (b : Nat) (w : World) (p v : Value) (n : Nat) (xs : List Value) (hb : w.heap[b]? = some (.cells #[p, v] 111 (0, 0))) (hp : p = .pointer none ∨ p = .pointer (some ⟨b, 0, none⟩))
    (hown : w.ownsRow 0 5 1 v n xs) (hne : v.ownBlock ≠ some b) :
    Calls Try.prog 61 #[.pointer (some ⟨b, 0, none⟩)] w fun e w' => e = .returned (.tuple #[]) ∧ w'.heap[b]? = some (.cells #[.pointer (some ⟨b, 0, none⟩), v] 111 (0, 0)) ∧
      w'.ownsRow 0 5 1 v n xs ∧ w'.heap.size = w.heap.size ∧ WrKeep b v.ownBlock w w' ∧ ∀ k, k ≠ b → w'.heap[k]? = w.heap[k]? := by
  rcases hp with rfl | rfl
  · refine (Try.ccFresh b w v hb).mono ?_
    rintro e w' ⟨rfl, rfl⟩
    refine ⟨rfl, by simp [World.setCell, Array.getElem?_modify, hb], ?_, by simp [World.setCell], WrKeep.setCell _ _ _ _ _, fun k hk => heap_setCell_ne hk⟩
    exact hown.kept (row := some b) ⟨rfl, rfl, rfl, by simp [World.setCell], fun k _ hk => heap_setCell_ne (fun e => hk (by simp [e]))⟩ (.inr hne)
  · refine (Try.ccUsed b w v hb).mono ?_
    rintro e w' ⟨rfl, rfl⟩
    exact ⟨rfl, hb, hown, rfl, WrKeep.refl _ _ _, fun _ _ => rfl⟩

end Go.Proofs
end
section
namespace Go.Proofs
open Go.Ab
noncomputable def gh.loop2 (x0 : List Int) (s2 : Int × Int) : Option (Fl (Int × Int) (Fl Int Int)) :=
 bif (ltI s2.1 (lenL x0)) then (
  need (InB s2.1 (lenL x0)) <|
  some (.go ((addI .i64 s2.1 1), (minI s2.2 (nthI x0 s2.1))))
 ) else (
  some (.out (.go s2.2))
 )

noncomputable def gh (x0 : List Int) : Option Int :=
 ((
  bif (ltI (lenL x0) 1) then (
   none
  ) else (
   some (.go ())
  )
  : Option (Fl Unit Int)).bind fun f => flC f fun (_v1 : Unit) =>
  need (InB 0 (lenL x0)) <|
  ((loopF (gh.loop2 x0) (1, (nthI x0 0))).bind fun f => flC f fun (v2 : Int) =>
   some v2
  )
 )
end Go.Proofs
end
section
namespace Go.Ab
/-! ### Numbers -/
theorem Lu {n : Int} (h0 : -9223372036854775808 ≤ n) (h1 : n < 9223372036854775808) : IntKind.i64.wrap n = n := by
  rw [IntKind.wrap_i64]; omega

theorem and_mask {j : Nat} (hj : j ≤ 62) (a m : Int) (hm : m = 2 ^ j - 1) : IntKind.i64.wrap ((BitVec.ofInt IntKind.i64.bits a &&& BitVec.ofInt IntKind.i64.bits m).toNat : Nat) = a % 2 ^ j := by
  have hb : IntKind.i64.bits = 64 := rfl
  have hp : (2 : Int) ^ j ≤ 2 ^ 62 := by
    have : (2 : Nat) ^ j ≤ 2 ^ 62 := Nat.pow_le_pow_right (by omega) hj
    exact_mod_cast this
  have h0 : (0 : Int) < 2 ^ j := Int.pow_pos (by omega)
  have hm' : (BitVec.ofInt 64 m).toNat = 2 ^ j - 1 := by
    rw [BitVec.toNat_ofInt]
    have e : m % ((2 ^ 64 : Nat) : Int) = m := Int.emod_eq_of_lt (by omega) (by
      rw [hm]
      have : (2 : Int) ^ 62 < ((2 ^ 64 : Nat) : Int) := by decide
      omega)
    rw [e, hm]
    have : ((2 ^ j : Nat) : Int) = (2 : Int) ^ j := by push_cast; rfl
    rw [← this]; omega
  rw [hb, BitVec.toNat_and, hm', Nat.and_two_pow_sub_one_eq_mod, BitVec.toNat_ofInt]
  have e1 : (((a % ((2 ^ 64 : Nat) : Int)).toNat % 2 ^ j : Nat) : Int) = a % 2 ^ j := by
    rw [Int.natCast_emod, Int.toNat_of_nonneg (Int.emod_nonneg _ (by decide)), Int.natCast_pow]
    refine Int.emod_emod_of_dvd _ ?_
    have : ((2 ^ j : Nat) : Int) ∣ ((2 ^ 64 : Nat) : Int) := Int.natCast_dvd_natCast.2 (Nat.pow_dvd_pow 2 (by omega))
    simpa only [Int.natCast_pow] using this
  rw [e1]
  have h2 := Int.emod_nonneg a (b := (2 : Int) ^ j) (by omega)
  have h3 := Int.emod_lt_of_pos a h0
  exact Lu (by omega) (by omega)
theorem and_mask' {j : Nat} (hj : j ≤ 62) (a m : Int) (hm : m = 2 ^ j - 1) : bitsOp .and .i64 a m = a % 2 ^ j := and_mask hj a m hm
end Go.Ab
end
section
namespace Go.Proofs
open Go.Ab
noncomputable def gam (x0 : ByteArray) (x1 : Int) : Option ByteArray :=
 bif (ltI x1 (lenS x0)) then (
  need (CutB 0 x1 (lenS x0)) <|
  some (cutS x0 0 x1)
 ) else (
  some x0
 )
end Go.Proofs
end
