/- What these functions compute, as plain functions. No condition. -/
import Derived.Test.YtbijdlgffebenaaTs
import Derived.Test.YtbijdlgffebenaaM11
import Derived.Test.YtbijdlgffebenaaTy
import Derived.Laws.Externs
import Derived.Test.YtbijdlgffebenaaM08
import Derived.Test.YtbijdlgffebenaaSh
import Derived.Test.YtbijdlgffebenaaM10
section
namespace Go.Proofs
open Go.Ab
noncomputable def gReorderConfigCheck (x0 : ReorderConfig) : Option Int :=
  bif (pickB (pickB (pickB (ltI x0.fMost 1) true (ltI 1024 x0.fMost)) true (ltI x0.fWait 0)) true (ltI 1099511627776 x0.fWait)) then (
    some 5
  ) else (
    some 0
  )

noncomputable def gReorderNew (x0 : ReorderConfig) : Option (Option ReorderBuffer × Int) :=
  ((gReorderConfigCheck x0)).bind fun r1 =>
  bif (neI r1 0) then (
    some (none, r1)
  ) else (
    some ((some (ReorderBuffer.mk x0 false 0 [] 0)), 0)
  )

noncomputable def gReorderBufferLen (x0 : ReorderBuffer) : Option Int :=
  some (lenL x0.fOf)

noncomputable def gReorderBufferLost (x0 : ReorderBuffer) : Option Int :=
  some x0.fLost

noncomputable def gReorderBufferRun.loop1 (x0 : ReorderBuffer) (s1 : Nat × List Antiphonref09Thing × Int × (List (Int × Antiphonref09Thing))) : Option (Fl (Nat × List Antiphonref09Thing × Int × (List (Int × Antiphonref09Thing))) (Fl Unit (List Antiphonref09Thing × Nat × ReorderBuffer))) :=
  bif (notB (hasM eqI s1.2.2.1 s1.2.2.2)) then (
    some (.out (.out (s1.2.1, s1.1, (ReorderBuffer.mk x0.fConfig x0.fBegun s1.2.2.1 s1.2.2.2 x0.fLost))))
  ) else (
    need (AppB (lenL s1.2.1) 1 32) <|
    some (.go ((s1.1 + 1), (appL s1.2.1 [(getM eqI s1.2.2.1 (Antiphonref09Thing.mk 0 ⟨⟨[]⟩⟩ 0) s1.2.2.2)]), (addI .i64 s1.2.2.1 1), (delM eqI s1.2.2.1 s1.2.2.2)))
  )

noncomputable def gReorderBufferRun (x0 : ReorderBuffer) : Option (List Antiphonref09Thing × Nat × ReorderBuffer) :=
  ((loopF (gReorderBufferRun.loop1 x0) (0, [], x0.fNext, x0.fOf)).bind fun f => flC f fun (v1 : Unit) =>
    none
  )
end Go.Proofs
end
section
namespace Go.Proofs
open Go.RowKit Go.Ab

theorem Try.ccSize : (Try.prog.info? 109).map (·.size) = some 2 := by kernel_rfl
theorem Try.ccLies : liesAt Try.prog Try.prog.depth 111 (2 / Try.prog.cellsOf 111) 0 109 1 = true := by kernel_rfl
theorem Try.byteI : (Try.prog.info? 5).map (fun i => (i.zero, i.size, i.bytes)) = some (some (.int .u8 0), 1, 1) := by kernel_rfl

set_option maxHeartbeats 1000000 in
set_option maxRecDepth 100000 in
theorem Try.ccFresh (b : Nat) (w : World) (v : Value) (hb : w.heap[b]? = some (.cells #[.pointer none, v] 111 (0, 0))) :
    Calls Try.prog 61 #[.pointer (some ⟨b, 0, none⟩)] w fun e w' => e = .returned (.tuple #[]) ∧ w' = w.setCell ⟨b, 0, none⟩ (.pointer (some ⟨b, 0, none⟩)) := by
  obtain ⟨j, hj, hjs⟩ := Option.map_eq_some_iff.1 Try.ccSize
  have h0 : w.cell? ⟨b, 0, none⟩ = some (.pointer none) := by rw [Lib.cell_of_heap hb]; rfl
  have hsh : w.shape? b = some (111, 2) := by simp [World.shape?, hb]
  have hfz : w.frozen? ⟨b, 0, none⟩ = false := Lib.frozen_of_heap hb 0
  go_enter Try.func61, Try.ntmps61
  go_wp2
  rw [Lib.run_to_unsafe w ⟨b, 0, none⟩ Try.underlying107 Try.underlying160 hj (by rw [hjs]; decide) hsh (Nat.zero_lt_succ 1)]
  simp only [Result.andThen]
  rw [Oper.upon_value]
  go_wp2
  rw [run_callFunc_extern Try.func72 (by kernel_rfl) (by kernel_rfl) (by kernel_rfl) (e := Extern.AbiNoEscape.same) (by kernel_rfl)]
  rw [Lib.run_noEscape]
  simp only [Result.andThen]
  rw [Oper.upon_value]
  go_wp2
  rw [Lib.run_from_unsafe w ⟨b, 0, none⟩ Try.underlying160 Try.underlying107 hj hsh Try.ccLies]
  simp only [Result.andThen]
  rw [Oper.upon_value]
  go_wp2
  go_end0
  exact ⟨rfl, rfl⟩

set_option maxHeartbeats 1000000 in
set_option maxRecDepth 100000 in
theorem Try.ccUsed (b : Nat) (w : World) (v : Value) (hb : w.heap[b]? = some (.cells #[.pointer (some ⟨b, 0, none⟩), v] 111 (0, 0))) :
    Calls Try.prog 61 #[.pointer (some ⟨b, 0, none⟩)] w fun e w' => e = .returned (.tuple #[]) ∧ w' = w := by
  obtain ⟨j, hj, hjs⟩ := Option.map_eq_some_iff.1 Try.ccSize
  have h0 : w.cell? ⟨b, 0, none⟩ = some (.pointer (some ⟨b, 0, none⟩)) := by rw [Lib.cell_of_heap hb]; rfl
  go_enter Try.func61, Try.ntmps61
  go_wp2
  rw [Lib.run_neq_ptr_same w _ Try.underlying107 hj]
  go_wp2
  go_end0
  exact ⟨rfl, rfl⟩

theorem Try.ccAny (b : Nat) (w : World) (p v : Value) (n : Nat) (xs : List Value) (hb : w.heap[b]? = some (.cells #[p, v] 111 (0, 0))) (hp : p = .pointer none ∨ p = .pointer (some ⟨b, 0, none⟩))
    (hown : w.ownsRow 0 5 1 v n xs) (hne : v.ownBlock ≠ some b) :
    Calls Try.prog 61 #[.pointer (some ⟨b, 0, none⟩)] w fun e w' => e = .returned (.tuple #[]) ∧ w'.heap[b]? = some (.cells #[.pointer (some ⟨b, 0, none⟩), v] 111 (0, 0)) ∧
      w'.ownsRow 0 5 1 v n xs ∧ w'.heap.size = w.heap.size ∧ WrKeep b v.ownBlock w w' ∧ ∀ k, k ≠ b → w'.heap[k]? = w.heap[k]? := by
  rcases hp with rfl | rfl
  · refine (Try.ccFresh b w v hb).mono ?_
    rintro e w' ⟨rfl, rfl⟩
    refine ⟨rfl, by simp [World.setCell, Array.getElem?_modify, hb], ?_, by simp [World.setCell], WrKeep.setCell _ _ _ _ _, fun k hk => heap_setCell_ne hk⟩
    exact hown.kept (row := some b) ⟨rfl, rfl, rfl, by simp [World.setCell], fun k _ hk => heap_setCell_ne (fun e => hk (by simp [e]))⟩ (.inr hne)
  · refine (Try.ccUsed b w v hb).mono ?_
    rintro e w' ⟨rfl, rfl⟩
    exact ⟨rfl, hb, hown, rfl, WrKeep.refl _ _ _, fun _ _ => rfl⟩

end Go.Proofs
end
section
namespace Go.Proofs
open Go.Ab Go.Shelf
theorem libKeys.gMapsKeysMapInt64ReorderThingInt64ReorderThing.ok : SpecOk Try.prog 60 (keysS 71) :=
  keys_ok Try.keysA rfl rfl (enters_of Try.func60 (by kernel_rfl) rfl)
theorem libCollect.gSlicesCollectInt64.ok : SpecOk Try.prog 59 (collectS 71) :=
  collect_ok Try.collectA { Try.keysA with } rfl rfl (enters_of Try.func59 (by kernel_rfl) rfl) (enters_of Try.func71 (by kernel_rfl) rfl)
theorem libMin.gSlicesMinInt64Int64.ok : SpecOk Try.prog 58 minS :=
  min_ok (fun l M hb => by
    have h := _root_.Go.Proofs.gSlicesMinInt64Int64.ok [.sl (l.map (Go.Ab.eNum IntKind.i64)) .no] M _ rfl
    intro g vs hM sm hr _
    have h2 := h g vs hM sm hr (by simp [min_plain hb])
    simpa [min_plain hb] using h2)
    (fun l l' hp hb => by
      have hne : l' ≠ [] := fun e => by rw [e] at hb; exact absurd hb.1 (by simp)
      exact minL_of (hp.mem_iff.2 (minL_mem hne)) fun x hx => minL_le x (hp.mem_iff.1 hx))
end Go.Proofs
end
section
namespace Go.Proofs
open Go.Ab
noncomputable def gRef09Run.loop1  (s1 : Nat × List Antiphonref09Thing × Antiphonref09Buffer) : Option (Fl (Nat × List Antiphonref09Thing × Antiphonref09Buffer) (Fl (Nat × List Antiphonref09Thing × Antiphonref09Buffer) (Antiphonref09Buffer × List Antiphonref09Thing × Nat))) :=
  need (Under (ltI 0 (lenL s1.2.2.fL)) true (InB 0 (lenL s1.2.2.fL))) <|
  bif (pickB (ltI 0 (lenL s1.2.2.fL)) (eqI ((nthI s1.2.2.fL 0).fAt) s1.2.2.fNext) false) then (
    need (InB 0 (lenL s1.2.2.fL)) <|
    need (AppB (lenL s1.2.1) 1 32) <|
    need (CutB 1 (lenL s1.2.2.fL) (lenL s1.2.2.fL)) <|
    some (.go ((s1.1 + 1), (appL s1.2.1 [(nthI s1.2.2.fL 0)]), (Antiphonref09Buffer.mk s1.2.2.fMost s1.2.2.fWait s1.2.2.fBegun (addI .i64 s1.2.2.fNext 1) (cutL s1.2.2.fL 1 (lenL s1.2.2.fL)) s1.2.2.fLost)))
  ) else (
    some (.out (.go (s1.1, s1.2.1, s1.2.2)))
  )

noncomputable def gRef09Run (x0 : Antiphonref09Buffer) : Option (Antiphonref09Buffer × List Antiphonref09Thing × Nat) :=
  ((loopF gRef09Run.loop1 (0, [], x0)).bind fun f => flC f fun (v1 : Nat × List Antiphonref09Thing × Antiphonref09Buffer) =>
    some (v1.2.2, v1.2.1, v1.1)
  )

noncomputable def gRef09Skip (x0 : Antiphonref09Buffer) : Option (Antiphonref09Buffer × List Antiphonref09Thing × Nat) :=
  need (InB 0 (lenL x0.fL)) <|
  need (InB 0 (lenL x0.fL)) <|
  ((gRef09Run (Antiphonref09Buffer.mk x0.fMost x0.fWait x0.fBegun ((nthI x0.fL 0).fAt) x0.fL (addI .i64 x0.fLost (subI .i64 ((nthI x0.fL 0).fAt) x0.fNext))))).bind fun r1 =>
  some (r1.1, r1.2.1, r1.2.2)

noncomputable def gRef09With.loop1 (x0 : List Antiphonref09Thing) (x1 : Antiphonref09Thing) (s1 : Int × Bool × List Antiphonref09Thing) : Option (Fl (Int × Bool × List Antiphonref09Thing) (Fl (Bool × List Antiphonref09Thing) (List Antiphonref09Thing))) :=
  bif (ltI s1.1 (lenL x0)) then (
    need (InB s1.1 (lenL x0)) <|
    ((
      bif (pickB (notB s1.2.1) (ltI x1.fAt ((nthI x0 s1.1).fAt)) false) then (
        need (AppB (lenL s1.2.2) 1 32) <|
        some (.go (true, (appL s1.2.2 [x1])))
      ) else (
        some (.go (s1.2.1, s1.2.2))
      )
      : Option (Fl (Bool × List Antiphonref09Thing) (Fl (Int × Bool × List Antiphonref09Thing) (Fl (Bool × List Antiphonref09Thing) (List Antiphonref09Thing))))).bind fun f => flC f fun (v2 : Bool × List Antiphonref09Thing) =>
      need (AppB (lenL v2.2) 1 32) <|
      some (.go ((addI .i64 s1.1 1), v2.1, (appL v2.2 [(nthI x0 s1.1)])))
    )
  ) else (
    some (.out (.go (s1.2.1, s1.2.2)))
  )

noncomputable def gRef09With (x0 : List Antiphonref09Thing) (x1 : Antiphonref09Thing) : Option (List Antiphonref09Thing) :=
  ((loopF (gRef09With.loop1 x0 x1) (0, false, [])).bind fun f => flC f fun (v1 : Bool × List Antiphonref09Thing) =>
    ((
      bif (notB v1.1) then (
        need (AppB (lenL v1.2) 1 32) <|
        some (.go (appL v1.2 [x1]))
      ) else (
        some (.go v1.2)
      )
      : Option (Fl (List Antiphonref09Thing) (List Antiphonref09Thing))).bind fun f => flC f fun (v3 : List Antiphonref09Thing) =>
      some v3
    )
  )

noncomputable def gRef09Put.loop2 (x1 : Antiphonref09Thing) (v1 : Antiphonref09Buffer) (s2 : Int) : Option (Fl Int (Fl Unit (Antiphonref09Buffer × List Antiphonref09Thing × Int))) :=
  bif (ltI s2 (lenL v1.fL)) then (
    need (InB s2 (lenL v1.fL)) <|
    bif (eqI ((nthI v1.fL s2).fAt) x1.fAt) then (
      some (.out (.out (v1, [], 14)))
    ) else (
      some (.go (addI .i64 s2 1))
    )
  ) else (
    some (.out (.go ()))
  )

noncomputable def gRef09Put.loop3  (s3 : List Antiphonref09Thing × Antiphonref09Buffer) : Option (Fl (List Antiphonref09Thing × Antiphonref09Buffer) (Fl (List Antiphonref09Thing × Antiphonref09Buffer) (Antiphonref09Buffer × List Antiphonref09Thing × Int))) :=
  bif (ltI s3.2.fMost (lenL s3.2.fL)) then (
    ((gRef09Skip s3.2)).bind fun r3 =>
    need (AppB (lenL s3.1) (lenL r3.2.1) 32) <|
    some (.go ((appL s3.1 r3.2.1), r3.1))
  ) else (
    some (.out (.go (s3.1, s3.2)))
  )

noncomputable def gRef09Put (x0 : Antiphonref09Buffer) (x1 : Antiphonref09Thing) : Option (Antiphonref09Buffer × List Antiphonref09Thing × Int) :=
  ((
    bif (notB x0.fBegun) then (
      some (.go (Antiphonref09Buffer.mk x0.fMost x0.fWait true x1.fAt x0.fL x0.fLost))
    ) else (
      some (.go x0)
    )
    : Option (Fl Antiphonref09Buffer (Antiphonref09Buffer × List Antiphonref09Thing × Int))).bind fun f => flC f fun (v1 : Antiphonref09Buffer) =>
    bif (ltI x1.fAt v1.fNext) then (
      some (v1, [], 13)
    ) else (
      ((loopF (gRef09Put.loop2 x1 v1) 0).bind fun f => flC f fun (v2 : Unit) =>
        ((gRef09With v1.fL x1)).bind fun r1 =>
        ((gRef09Run (Antiphonref09Buffer.mk v1.fMost v1.fWait v1.fBegun v1.fNext r1 v1.fLost))).bind fun r2 =>
        ((loopF gRef09Put.loop3 (r2.2.1, r2.1)).bind fun f => flC f fun (v3 : List Antiphonref09Thing × Antiphonref09Buffer) =>
          some (v3.2, v3.1, 0)
        )
      )
    )
  )

noncomputable def gRef09Tick.loop1 (x1 : Int) (s1 : List Antiphonref09Thing × Antiphonref09Buffer) : Option (Fl (List Antiphonref09Thing × Antiphonref09Buffer) (Fl (List Antiphonref09Thing × Antiphonref09Buffer) (Antiphonref09Buffer × List Antiphonref09Thing))) :=
  need (Under (ltI 0 (lenL s1.2.fL)) true (InB 0 (lenL s1.2.fL))) <|
  bif (pickB (ltI 0 (lenL s1.2.fL)) (leqI s1.2.fWait (subI .i64 x1 ((nthI s1.2.fL 0).fTick))) false) then (
    ((gRef09Skip s1.2)).bind fun r1 =>
    need (AppB (lenL s1.1) (lenL r1.2.1) 32) <|
    some (.go ((appL s1.1 r1.2.1), r1.1))
  ) else (
    some (.out (.go (s1.1, s1.2)))
  )

noncomputable def gRef09Tick (x0 : Antiphonref09Buffer) (x1 : Int) : Option (Antiphonref09Buffer × List Antiphonref09Thing) :=
  ((loopF (gRef09Tick.loop1 x1) ([], x0)).bind fun f => flC f fun (v1 : List Antiphonref09Thing × Antiphonref09Buffer) =>
    some (v1.2, v1.1)
  )

noncomputable def gRef09Missing.loop2 (x0 : Antiphonref09Buffer) (x1 : Int) (s1 : Int × Int × List Int) (s2 : Int × List Int) : Option (Fl (Int × List Int) (Fl (List Int) (Fl (Int × Int × List Int) (Fl (List Int) (List Int))))) :=
  bif (pickB (ltI s2.1 ((nthI x0.fL s1.1).fAt)) (ltI (lenL s2.2) x1) false) then (
    need (AppB (lenL s2.2) 1 8) <|
    some (.go ((addI .i64 s2.1 1), (appL s2.2 [s2.1])))
  ) else (
    some (.out (.go s2.2))
  )

noncomputable def gRef09Missing.loop1 (x0 : Antiphonref09Buffer) (x1 : Int) (s1 : Int × Int × List Int) : Option (Fl (Int × Int × List Int) (Fl (List Int) (List Int))) :=
  bif (ltI s1.1 (lenL x0.fL)) then (
    need (InB s1.1 (lenL x0.fL)) <|
    ((loopF (gRef09Missing.loop2 x0 x1 s1) (s1.2.1, s1.2.2)).bind fun f => flC f fun (v2 : List Int) =>
      some (.go ((addI .i64 s1.1 1), (addI .i64 ((nthI x0.fL s1.1).fAt) 1), v2))
    )
  ) else (
    some (.out (.go s1.2.2))
  )

noncomputable def gRef09Missing (x0 : Antiphonref09Buffer) (x1 : Int) : Option (List Int) :=
  ((loopF (gRef09Missing.loop1 x0 x1) (0, x0.fNext, [])).bind fun f => flC f fun (v1 : List Int) =>
    some v1
  )
end Go.Proofs
end
