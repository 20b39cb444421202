/- What these functions compute, as plain functions. No condition. -/
import Derived.Test.YtefdnbpigfojcaaDoorTs
import Derived.Test.YtefdnbpigfojcaaDoorM08
import Derived.Test.YtefdnbpigfojcaaDoorM03
import Derived.Test.YtefdnbpigfojcaaDoorSh
import Derived.Test.YtefdnbpigfojcaaDoorTy
section
namespace Go.Proofs
open Go.Ab
noncomputable def gLaw12Awake : Option Bool :=
  (gRoomNew).bind fun r1 =>
  ((gRoomTableJoin r1 ⟨#[72, 97, 108, 108]⟩ ⟨#[65, 110, 110]⟩)).bind fun r2 =>
  ((gRoomTableJoin r2.2.2 ⟨#[104, 97, 108, 108]⟩ ⟨#[97, 110, 110]⟩)).bind fun r3 =>
  ((gRoomTableJoin r3.2.2 ⟨#[104, 97, 108, 108]⟩ ⟨#[66, 111, 98]⟩)).bind fun r4 =>
  need (Under (pickB (pickB (pickB (pickB (eqI r2.1 0) (eqI r2.2.1 0) false) (eqI r3.2.1 10) false) (eqI r4.1 1) false) (eqI r4.2.1 0) false) true ((gRoomTableTogether r4.2.2 0 1).isSome = true)) <|
  need (Under (pickB (pickB (pickB (pickB (pickB (eqI r2.1 0) (eqI r2.2.1 0) false) (eqI r3.2.1 10) false) (eqI r4.1 1) false) (eqI r4.2.1 0) false) ((gRoomTableTogether r4.2.2 0 1).getD dflt) false) true ((gRoomTableLen r4.2.2).isSome = true)) <|
  some (pickB (pickB (pickB (pickB (pickB (pickB (eqI r2.1 0) (eqI r2.2.1 0) false) (eqI r3.2.1 10) false) (eqI r4.1 1) false) (eqI r4.2.1 0) false) ((gRoomTableTogether r4.2.2 0 1).getD dflt) false) (eqI ((gRoomTableLen r4.2.2).getD dflt) 2) false)
end Go.Proofs
end
section
namespace Go.Proofs
open Go.Ab Go.Shelf
theorem libKeys.gMapsKeysMapIntRoomPeerIntRoomPeer.ok : SpecOk Tryd.prog 37 (keysS 52) :=
  keys_ok Tryd.keysAD rfl rfl (enters_of Tryd.func37 (by kernel_rfl) rfl)
theorem Tryd.sortsD (m : Nat) : AnyZI.SortsIn Tryd.prog Tryd.sortedAD_ren Fence.wide m :=
  ⟨fun blk off cap ss W hH hblk hsz => callsIn_wide.2 (AnyM.slices_Sort_int Tryd.sortAD blk off cap ss W hH hblk hsz),
   fun p cap W => callsIn_wide.2 (AnyM.slices_Sort_int_none Tryd.sortAD p cap W)⟩
theorem libSorted.gSlicesSortedInt.ok : SpecOk Tryd.prog 36 (sortedS 52) :=
  sorted_ok Tryd.sortedAD { Tryd.keysAD with } rfl rfl (enters_of Tryd.func36 (by kernel_rfl) rfl) Tryd.sortsD (enters_of Tryd.func51 (by kernel_rfl) rfl) (enters_of Tryd.func52 (by kernel_rfl) rfl)
theorem libKeys.gMapsKeysMapStringIntStringInt.ok : SpecOk Tryd.prog 32 (keysS 49) :=
  keysS_okZ Tryd.keysAS rfl rfl (enters_of Tryd.func32 (by kernel_rfl) rfl)
theorem Tryd.sortsS (m : Nat) : AnyZ.SortsIn Tryd.prog Tryd.sortedAS_ren Fence.wide m :=
  ⟨fun blk off cap ss W hH hblk hsz => callsIn_wide.2 (AnyM.slices_Sort_string Tryd.sortAS blk off cap ss W hH hblk hsz),
   fun p cap W => callsIn_wide.2 (AnyM.slices_Sort_string_none Tryd.sortAS p cap W)⟩
theorem libSorted.gSlicesSortedString.ok : SpecOk Tryd.prog 31 (sortedSS 49) :=
  sortedS_ok Tryd.sortedAS { Tryd.keysAS with } rfl rfl (enters_of Tryd.func31 (by kernel_rfl) rfl) Tryd.sortsS (enters_of Tryd.func48 (by kernel_rfl) rfl) (enters_of Tryd.func49 (by kernel_rfl) rfl)
end Go.Proofs
end
section
namespace Go.Proofs
open Go.Ab
@[simp] def gLaw01Cut.out (_x0 : ByteArray) (_x1 : Int) (r : ByteArray) : Out := { av := .lit (.string r), M := none }
def gLaw01Cut.fin (x0 : ByteArray) (x1 : Int) (r : ByteArray) (σ : St) : Prop := finK (gLaw01Cut.out x0 x1 r) [] σ.M (resA Tryd.ty σ.A σ.M Tryd.f7.results.toList)
set_option maxHeartbeats 4000000 in
set_option maxRecDepth 100000 in
theorem gLaw01Cut.can (x0 : ByteArray) (x1 : Int) (r : ByteArray) (hr : gLaw01Cut x0 x1 = some r) : CallOk Tryd.prog 7 [.lit (.string x0), .lit (.int .i64 x1)] [] (gLaw01Cut.out x0 x1 r) := by
  unfold gLaw01Cut at hr
  have hΓ := gamL_nil (P := Tryd.prog)
  refine call_of_awp Tryd.tyOk Tryd.func7 rfl (by kernel_rfl) rfl rfl (by simp) ?_
  intro _ _ _
  refine AWp.then ⟨[⟨0, none, .lit (.string x0)⟩, ⟨1, none, .lit (.int .i64 x1)⟩], []⟩ (AWp.reg Tryd.tyOk hΓ (keep := []) (dead := []) (by kernel_rfl) rfl (by simp)) ?_
  refine AWp.seq ?_
  refine AWp.then ⟨[⟨8, none, .lit (.bool (ltI x1 (lenS x0)))⟩, ⟨0, none, .lit (.string x0)⟩, ⟨1, none, .lit (.int .i64 x1)⟩], []⟩ (AWp.reg Tryd.tyOk hΓ (keep := [8]) (dead := []) (by kernel_rfl) rfl (by simp)) ?_
  refine AWp.cond (b := (ltI x1 (lenS x0))) (by simp) (fun h3 => ?_) (fun h3 => ?_)
  · have hr := cond_t h3 hr
    obtain ⟨h4, hr⟩ := need_some hr
    refine AWp.then ⟨[⟨4, none, .lit (.string (cutS x0 0 x1))⟩], []⟩ (AWp.reg Tryd.tyOk hΓ (keep := [4]) (dead := [8, 0, 1]) (by kernel_rfl) rfl (by simp [h3, h4])) ?_
    refine AWp.ret ?_
    obtain rfl := some_inj hr
    refine fin_ret ?_
    simp
  · have hr := cond_f h3 hr
    refine AWp.skip ?_
    refine AWp.then ⟨[⟨4, none, .lit (.string x0)⟩], []⟩ (AWp.reg Tryd.tyOk hΓ (keep := [4]) (dead := [8, 0, 1]) (by kernel_rfl) rfl (by simp [h3])) ?_
    refine AWp.ret ?_
    obtain rfl := some_inj hr
    refine fin_ret ?_
    simp

@[simp] noncomputable def gLaw01Cut.S : Sp
  | [.lit (.string x0), .lit (.int .i64 x1)], _ => some { av := .lit (.string ((gLaw01Cut x0 x1).getD dflt)), M := none, obl := (gLaw01Cut x0 x1).isSome = true }
  | _, _ => none

set_option maxHeartbeats 1000000 in
theorem gLaw01Cut.ok : SpecOk Tryd.prog 7 gLaw01Cut.S := by
  intro l M out h
  unfold gLaw01Cut.S at h
  split at h
  · rename_i x0 x1
    cases h
    refine callOk_of fun ho => ?_
    have hs := ho
    obtain ⟨r, hr⟩ := Option.isSome_iff_exists.1 hs
    simp only [hr, Option.getD_some]
    have q := call_frame (M := M) [] (gLaw01Cut.can x0 x1 r hr) (by simp) rfl (by intro k i hk; simp at hk)
    exact callOk_conv q trivial (by simp) (by simp [frameOut, gLaw01Cut.out]) (by simp [frameOut, gLaw01Cut.out])
  · cases h
end Go.Proofs
end
section
namespace Go.Proofs
open Go.Ab
noncomputable def gLaw12RoomTogether.loop1 (x0 : List Int) (s1 : Int × List Int × (List (Int × Antiphonref12Peer)) × Int) : Option (Fl (Int × List Int × (List (Int × Antiphonref12Peer)) × Int) (Fl (List Int × (List (Int × Antiphonref12Peer)) × Int) Bool)) :=
  bif (pickB (ltI s1.1 (lenL x0)) (ltI s1.1 30) false) then (
    need (InB s1.1 (lenL x0)) <|
    need (InB (bitsOp .and .i64 (nthI x0 s1.1) 3) 4) <|
    need (CatB ⟨#[110]⟩ (Utf8.encode (cvtI .i32 (addI .i64 97 s1.1)))) <|
    ((gRoomTableJoin (RoomTable.mk s1.2.2.1 s1.2.2.2) (nthI [⟨#[97]⟩, ⟨#[66]⟩, ⟨#[98]⟩, ⟨#[99]⟩] (bitsOp .and .i64 (nthI x0 s1.1) 3)) (catS ⟨#[110]⟩ (Utf8.encode (cvtI .i32 (addI .i64 97 s1.1)))))).bind fun r3 =>
    bif (neI r3.2.1 0) then (
      some (.out (.out (leqI 16 (lenL s1.2.1))))
    ) else (
      need (InB (bitsOp .and .i64 (nthI x0 s1.1) 3) 4) <|
      need (AppB (lenL s1.2.1) 1 8) <|
      some (.go ((addI .i64 s1.1 1), (appL s1.2.1 [(nthI [0, 1, 1, 2] (bitsOp .and .i64 (nthI x0 s1.1) 3))]), r3.2.2.fPeers, r3.2.2.fNext))
    )
  ) else (
    some (.out (.go (s1.2.1, s1.2.2.1, s1.2.2.2)))
  )

noncomputable def gLaw12RoomTogether.loop3 (s2 : Int) (v1 : List Int × (List (Int × Antiphonref12Peer)) × Int) (s3 : Int) : Option (Fl Int (Fl Unit (Fl Int (Fl Unit Bool)))) :=
  bif (ltI s3 (lenL v1.1)) then (
    ((gRoomTableTogether (RoomTable.mk v1.2.1 v1.2.2) s2 s3)).bind fun r4 =>
    need (Under (neI s2 s3) true (InB s2 (lenL v1.1))) <|
    need (Under (neI s2 s3) true (InB s3 (lenL v1.1))) <|
    bif (neB r4 (pickB (neI s2 s3) (eqI (nthI v1.1 s2) (nthI v1.1 s3)) false)) then (
      some (.out (.out (.out (.out false))))
    ) else (
      some (.go (addI .i64 s3 1))
    )
  ) else (
    some (.out (.go ()))
  )

noncomputable def gLaw12RoomTogether.loop2 (v1 : List Int × (List (Int × Antiphonref12Peer)) × Int) (s2 : Int) : Option (Fl Int (Fl Unit Bool)) :=
  bif (ltI s2 (lenL v1.1)) then (
    ((loopF (gLaw12RoomTogether.loop3 s2 v1) 0).bind fun f => flC f fun (_v3 : Unit) =>
      some (.go (addI .i64 s2 1))
    )
  ) else (
    some (.out (.go ()))
  )

noncomputable def gLaw12RoomTogether (x0 : List Int) : Option Bool :=
  (gLaw12Awake).bind fun r1 =>
  bif (notB r1) then (
    some false
  ) else (
    (gRoomNew).bind fun r2 =>
    ((loopF (gLaw12RoomTogether.loop1 x0) (0, [], r2.fPeers, r2.fNext)).bind fun f => flC f fun (v1 : List Int × (List (Int × Antiphonref12Peer)) × Int) =>
      ((loopF (gLaw12RoomTogether.loop2 v1) 0).bind fun f => flC f fun (_v2 : Unit) =>
        ((gRoomTableTogether (RoomTable.mk v1.2.1 v1.2.2) 0 999)).bind fun r5 =>
        some (notB r5)
      )
    )
  )
end Go.Proofs
end
section
namespace Go.Proofs
open Go.Ab
noncomputable def gLaw12RoomNumbers.loop1 (x0 : Int) (x1 : List Int) (s1 : Int × Int × (List (Int × Antiphonref12Peer)) × Int) : Option (Fl (Int × Int × (List (Int × Antiphonref12Peer)) × Int) (Fl ((List (Int × Antiphonref12Peer)) × Int) Bool)) :=
  bif (ltI s1.1 (minI (maxI x0 0) 60)) then (
    need (NonZ 26) <|
    need (CatB ⟨#[110]⟩ (Utf8.encode (cvtI .i32 (addI .i64 97 (remI s1.1 26))))) <|
    need (NonZ 26) <|
    need (CatB (catS ⟨#[110]⟩ (Utf8.encode (cvtI .i32 (addI .i64 97 (remI s1.1 26))))) (Utf8.encode (cvtI .i32 (addI .i64 97 (quoI .i64 s1.1 26))))) <|
    ((gRoomTableJoin (RoomTable.mk s1.2.2.1 s1.2.2.2) ⟨#[114]⟩ (catS (catS ⟨#[110]⟩ (Utf8.encode (cvtI .i32 (addI .i64 97 (remI s1.1 26))))) (Utf8.encode (cvtI .i32 (addI .i64 97 (quoI .i64 s1.1 26))))))).bind fun r3 =>
    ((
      bif (eqI r3.2.1 0) then (
        bif (neI r3.1 (addI .i64 s1.2.1 1)) then (
          some (.out (.out (.out false)))
        ) else (
          some (.go r3.1)
        )
      ) else (
        bif (neI r3.2.1 11) then (
          some (.out (.out (.out false)))
        ) else (
          some (.go s1.2.1)
        )
      )
      : Option (Fl Int (Fl (Int × Int × (List (Int × Antiphonref12Peer)) × Int) (Fl ((List (Int × Antiphonref12Peer)) × Int) Bool)))).bind fun f => flC f fun (v2 : Int) =>
      bif (ltI s1.1 (lenL x1)) then (
        need (InB s1.1 (lenL x1)) <|
        ((gRoomTablePeer r3.2.2 (bitsOp .and .i64 (nthI x1 s1.1) 31))).bind fun r4 =>
        need (InB s1.1 (lenL x1)) <|
        ((gRoomTableLeave r3.2.2 (bitsOp .and .i64 (nthI x1 s1.1) 31))).bind fun r5 =>
        bif (neB (eqI r5.1 0) r4.2) then (
          some (.out (.out false))
        ) else (
          some (.go ((addI .i64 s1.1 1), v2, r5.2.fPeers, r5.2.fNext))
        )
      ) else (
        some (.go ((addI .i64 s1.1 1), v2, r3.2.2.fPeers, r3.2.2.fNext))
      )
    )
  ) else (
    some (.out (.go (s1.2.2.1, s1.2.2.2)))
  )

noncomputable def gLaw12RoomNumbers (x0 : Int) (x1 : List Int) : Option Bool :=
  (gLaw12Awake).bind fun r1 =>
  bif (notB r1) then (
    some false
  ) else (
    (gRoomNew).bind fun r2 =>
    ((loopF (gLaw12RoomNumbers.loop1 x0 x1) (0, (-1), r2.fPeers, r2.fNext)).bind fun f => flC f fun (v1 : (List (Int × Antiphonref12Peer)) × Int) =>
      ((gRoomTableLen (RoomTable.mk v1.1 v1.2))).bind fun r6 =>
      need (Under (leqI r6 16) true ((gRoomTableIn (RoomTable.mk v1.1 v1.2) ⟨#[82]⟩).isSome = true)) <|
      some (pickB (leqI r6 16) (eqI r6 (lenL ((gRoomTableIn (RoomTable.mk v1.1 v1.2) ⟨#[82]⟩).getD dflt))) false)
    )
  )
end Go.Proofs
end
