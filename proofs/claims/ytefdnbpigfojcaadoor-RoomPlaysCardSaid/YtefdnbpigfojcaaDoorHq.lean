/- That the program's code computes the names of all rooms. No condition. -/
import Derived.Test.YtefdnbpigfojcaaDoorM05
import Derived.Test.YtefdnbpigfojcaaDoorM10
import Derived.Test.YtefdnbpigfojcaaDoorNa
namespace Go.Proofs
open Go.Ab

@[simp] theorem peer_setVI (k : IntKind) (x a : Int) (b c : ByteArray) (m : List (Int × Antiphonref12Peer)) : setV (.int k x) (.agg [.lit (.int .i64 a), .lit (.string b), .lit (.string c)]) (encM (kI k) (vA Antiphonref12Peer.enc) m) = encM (kI k) (vA Antiphonref12Peer.enc) (setM eqI x (Antiphonref12Peer.mk a b c) m) :=
  setV_I (vE := vA Antiphonref12Peer.enc) (v := Antiphonref12Peer.mk a b c) (by simp [vA]) x m

theorem keysM_setM {k : ByteArray} {v : Int} : ∀ {m : List (ByteArray × Int)} {x : ByteArray}, x ∈ keysM (setM eqS k v m) ↔ x = k ∨ x ∈ keysM m
  | [], x => by simp [setM, keysM]
  | e :: r, x => by
    rw [setM]
    split
    · rename_i h
      have h' : k = e.1 := (eqS_iff _ _).1 h
      simp only [keysM, List.map_cons, List.mem_cons]
      rw [← h']
      constructor
      · rintro (h | h)
        · exact .inl h
        · exact .inr (.inr h)
      · rintro (h | h | h)
        · exact .inl h
        · exact .inl h
        · exact .inr h
    · have ih := keysM_setM (k := k) (v := v) (m := r) (x := x)
      simp only [keysM, List.map_cons, List.mem_cons] at ih ⊢
      rw [ih]
      constructor
      · rintro (h | h | h)
        · exact .inr (.inl h)
        · exact .inl h
        · exact .inr (.inr h)
      · rintro (h | h | h)
        · exact .inr (.inl h)
        · exact .inl h
        · exact .inr (.inr h)
theorem nodup_setM {k : ByteArray} {v : Int} : ∀ {m : List (ByteArray × Int)}, (keysM m).Nodup → (keysM (setM eqS k v m)).Nodup
  | [], _ => by simp [setM, keysM]
  | e :: r, h => by
    rw [setM]
    simp only [keysM, List.map_cons, List.nodup_cons] at h
    split
    · rename_i hk
      have h' : k = e.1 := (eqS_iff _ _).1 hk
      simp only [keysM, List.map_cons, List.nodup_cons]
      rw [h']; exact h
    · rename_i hk
      simp only [keysM, List.map_cons, List.nodup_cons]
      refine ⟨fun q => ?_, nodup_setM h.2⟩
      rcases keysM_setM.1 q with q | q
      · exact hk ((eqS_iff _ _).2 q.symm)
      · exact h.1 q

set_option maxHeartbeats 4000000 in
set_option maxRecDepth 100000 in
theorem gRoomTableRoomsP.can (x0 : RoomTable) (r : List ByteArray) (hr : gRoomTableRoomsP x0 = some r) : CallOk Tryd.prog 13 [.ptr 0 0] [.blk [.mp 1, .lit (.int .i64 x0.fNext)], .mapo (encM (kI .i64) (vA Antiphonref12Peer.enc) x0.fPeers)] { av := .sl (r.map eTxt) .no, M := none } := by
  unfold gRoomTableRoomsP at hr
  obtain ⟨hf, hr⟩ := need_some hr
  obtain ⟨hk, hr⟩ := need_some hr
  obtain rfl := some_inj hr
  have hΓ := (gamL_cons gLabelFold.ok (gamL_cons libKeys.gMapsKeysMapStringIntStringInt.ok (gamL_cons libSorted.gSlicesSortedString.ok (gamL_nil))) : GamOk Tryd.prog _)
  refine call_of_awp Tryd.tyOk Tryd.func13 rfl (by kernel_rfl) rfl rfl (by simp) ?_
  intro _ _ _
  refine AWp.then ⟨[⟨0, none, .ptr 0 0⟩], [.blk [.mp 1, .lit (.int .i64 x0.fNext)], .mapo (encM (kI .i64) (vA Antiphonref12Peer.enc) x0.fPeers)]⟩ (AWp.reg Tryd.tyOk hΓ (keep := []) (dead := []) (by kernel_rfl) rfl (by simp)) ?_
  refine AWp.then ⟨[⟨3, none, .mp 2⟩, ⟨0, none, .ptr 0 0⟩], [.blk [.mp 1, .lit (.int .i64 x0.fNext)], .mapo (encM (kI .i64) (vA Antiphonref12Peer.enc) x0.fPeers), .mapo (encM kS (kI .i64) ([] : List (ByteArray × Int)))]⟩ (AWp.reg Tryd.tyOk hΓ (keep := [3]) (dead := []) (by kernel_rfl) rfl (by simp)) ?_
  refine AWp.seq ?_
  refine AWp.then ⟨[⟨11, none, .it 3⟩, ⟨3, none, .mp 2⟩], [.blk [.mp 1, .lit (.int .i64 x0.fNext)], .mapr (encM (kI .i64) (vA Antiphonref12Peer.enc) x0.fPeers) [] none 3, .mapo (encM kS (kI .i64) ([] : List (ByteArray × Int))), .dead]⟩ (AWp.reg Tryd.tyOk hΓ (keep := [11]) (dead := [0]) (by kernel_rfl) rfl (by simp)) ?_
  refine AWp.rangeM (kk := .i64) (vE := vA Antiphonref12Peer.enc) (i := 1) (u := 3) (mm := 4) x0.fPeers
    (fun done x => (keysM x).Nodup ∧ (∀ e ∈ done, e ∈ x0.fPeers) ∧ ∀ s, s ∈ keysM x ↔ s ∈ foldsM done)
    (fun (x : List (ByteArray × Int)) vis cur => ⟨[⟨11, none, .it 3⟩, ⟨3, none, .mp 2⟩], [.blk [.mp 1, .lit (.int .i64 x0.fNext)], .mapr (encM (kI .i64) (vA Antiphonref12Peer.enc) x0.fPeers) vis cur 3, .mapo (encM kS (kI .i64) x), .dead]⟩)
    (fun x => ⟨[⟨3, none, .mp 2⟩], [.blk [.mp 1, .lit (.int .i64 x0.fNext)], .mapo (encM (kI .i64) (vA Antiphonref12Peer.enc) x0.fPeers), .mapo (encM kS (kI .i64) x)]⟩)
    (fun _ _ _ => rfl) ([] : List (ByteArray × Int)) (by simp) ⟨.nil, (fun _ h => by cases h), fun s => Iff.rfl⟩ (fun x vis cur done hN hI hv => ?_) (fun x σ1 mx done hp hI hc => ?_)
  · refine AWp.seq (AWp.regNextI Tryd.tyOk hΓ (t := 11) (u := 3) (i := 1) (d1 := 12) rfl rfl rfl rfl (keep := [13]) (dead := []) (by kernel_rfl) rfl (by simp) rfl
      (fun h15 => ⟨⟨[⟨13, none, .lit (.bool false)⟩, ⟨11, none, .it 3⟩, ⟨3, none, .mp 2⟩], [.blk [.mp 1, .lit (.int .i64 x0.fNext)], .mapr (encM (kI .i64) (vA Antiphonref12Peer.enc) x0.fPeers) vis cur 3, .mapo (encM kS (kI .i64) x), .dead]⟩, by simp, ?_⟩)
      (fun k v _ h16 h17 h18 => ⟨⟨[⟨13, none, .lit (.bool true)⟩, ⟨11, none, .it 3⟩, ⟨3, none, .mp 2⟩], [.blk [.mp 1, .lit (.int .i64 x0.fNext)], .mapr (encM (kI .i64) (vA Antiphonref12Peer.enc) x0.fPeers) (.int .i64 k :: vis) (some (.int .i64 k)) 3, .mapo (encM kS (kI .i64) x), .dead]⟩, by simp, ?_⟩))
    · refine AWp.seq ?_
      refine AWp.cond (b := false) (by simp) (fun hb => ?_) (fun hb => ?_)
      · cases hb
      · refine AWp.exit ?_
        exact .inl ⟨rfl, h15, 3, by simp⟩
    · refine AWp.seq ?_
      refine AWp.cond (b := true) (by simp) (fun hb => ?_) (fun hb => ?_)
      · refine AWp.skip ?_
        refine AWp.block ?_
        have hat := getV_at (kk := .i64) (vE := vA Antiphonref12Peer.enc) (z := .lit undef) hN h17
        refine AWp.then ⟨[⟨5, none, .ptr 4 0⟩, ⟨11, none, .it 3⟩, ⟨3, none, .mp 2⟩], [.blk [.mp 1, .lit (.int .i64 x0.fNext)], .mapr (encM (kI .i64) (vA Antiphonref12Peer.enc) x0.fPeers) (.int .i64 k :: vis) (some (.int .i64 k)) 3, .mapo (encM kS (kI .i64) x), .dead, .blk v.enc]⟩ (AWp.reg Tryd.tyOk hΓ (keep := [5]) (dead := [13]) (by kernel_rfl) rfl (by simp [h18, hat, vA])) ?_
        obtain ⟨s, hs⟩ := Option.isSome_iff_exists.1 (hf _ h17)
        simp only at hs
        refine AWp.last ⟨[⟨11, none, .it 3⟩, ⟨3, none, .mp 2⟩], [.blk [.mp 1, .lit (.int .i64 x0.fNext)], .mapr (encM (kI .i64) (vA Antiphonref12Peer.enc) x0.fPeers) (.int .i64 k :: vis) (some (.int .i64 k)) 3, .mapo (encM kS (kI .i64) (setM eqS s (addI .i64 (getM eqS s 0 x) 1) x)), .dead, .blk v.enc]⟩ (AWp.reg Tryd.tyOk hΓ (keep := []) (dead := [5]) (by kernel_rfl) rfl (by simp [hs])) ?_
        refine .inr ⟨rfl, k, v, h16, h17, setM eqS s (addI .i64 (getM eqS s 0 x) 1) x, ⟨nodup_setM hI.1, fun e he => ?_, fun q => ?_⟩, 4, by simp⟩
        · rcases List.mem_cons.1 he with rfl | he
          · exact h17
          · exact hI.2.1 e he
        · rw [keysM_setM, hI.2.2 q]
          simp only [foldsM, List.map_cons, List.mem_cons, hs, Option.getD_some]
      · cases hb
  · refine AWp.conv hc ?_
    have hperm : (keysM x).Perm (nubL (foldsM x0.fPeers)) := by
      refine (List.perm_ext_iff_of_nodup hI.1 (nodup_nubL _)).2 fun s => ?_
      rw [hI.2.2 s, mem_nubL]
      exact (hp.map _).mem_iff
    have hsort : sortS (keysM x) = sortS (nubL (foldsM x0.fPeers)) := sortS_perm hperm
    have hkb : KeysBS (keysM x) := by
      refine ⟨fun q hq => hk.1 q (mem_nubL.1 (hperm.mem_iff.1 hq)), ?_⟩
      have h1 := hk.2
      have h2 : (keysM x).length ≤ (foldsM x0.fPeers).length := nodup_len hI.1 fun q hq => mem_nubL.1 (hperm.mem_iff.1 hq)
      omega
    refine AWp.then ⟨[⟨2, none, .sl ((sortS (nubL (foldsM x0.fPeers))).map eTxt) .no⟩], [.blk [.mp 1, .lit (.int .i64 x0.fNext)], .mapo (encM (kI .i64) (vA Antiphonref12Peer.enc) x0.fPeers), .mapo (encM kS (kI .i64) x)]⟩ (AWp.reg Tryd.tyOk hΓ (keep := [2]) (dead := [3]) (by kernel_rfl) rfl (by simp [hsort, hkb])) ?_
    refine AWp.ret ?_
    refine fin_ret ?_
    simp
end Go.Proofs
