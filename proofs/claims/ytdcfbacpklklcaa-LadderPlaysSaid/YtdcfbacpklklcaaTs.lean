/- The types of these functions. No condition. -/
import Derived.Test.YtdcfbacpklklcaaAb9
namespace Go.Ab

structure FrameConfig where
  fVideo : Bool
  fBytes : Int
  fUnits : Int
  fWait : Int
instance : Inhabited FrameConfig := ⟨FrameConfig.mk false 0 0 0⟩
@[simp] def FrameConfig.enc (x : FrameConfig) : List AV := [.lit (.bool x.fVideo), .lit (.int .i64 x.fBytes), .lit (.int .i64 x.fUnits), .lit (.int .i64 x.fWait)]
@[simp] def FrameConfig.dec : List AV → FrameConfig
  | [.lit (.bool a0), .lit (.int .i64 a1), .lit (.int .i64 a2), .lit (.int .i64 a3)] => (FrameConfig.mk a0 a1 a2 a3)
  | _ => default
@[simp] theorem FrameConfig.eta (x : FrameConfig) : FrameConfig.mk x.fVideo x.fBytes x.fUnits x.fWait = x := by cases x; rfl
theorem FrameConfig.dec_enc (x : FrameConfig) : FrameConfig.dec x.enc = x := by simp
@[simp] theorem FrameConfig.comp : FrameConfig.dec ∘ FrameConfig.enc = id := funext FrameConfig.dec_enc
@[simp] theorem FrameConfig.comp2 : (FrameConfig.enc ∘ FrameConfig.dec) ∘ FrameConfig.enc = FrameConfig.enc := funext fun x => by simp [Function.comp]
@[simp] theorem FrameConfig.bel (l : List FrameConfig) (n : Nat) : belLL n (l.map FrameConfig.enc) := bel_map (fun x => by simp) l
@[simp] theorem FrameConfig.ren (σ : Nat → Nat) (l : List FrameConfig) : renLL σ (l.map FrameConfig.enc) = l.map FrameConfig.enc := ren_map (fun x => by simp) l
@[simp] theorem FrameConfig.nth {rows : List (List AV)} (n : Int) (h : rows = (rows.map FrameConfig.dec).map FrameConfig.enc) : nthL rows n.toNat [.lit (.bool false), .lit (.int .i64 0), .lit (.int .i64 0), .lit (.int .i64 0)] = (nthI (rows.map FrameConfig.dec) n).enc := nth_rows (f := FrameConfig.enc) rfl h n
@[simp low] theorem FrameConfig.nthk {rows : List (List AV)} (j : Nat) (h : rows = (rows.map FrameConfig.dec).map FrameConfig.enc) : nthL rows j [.lit (.bool false), .lit (.int .i64 0), .lit (.int .i64 0), .lit (.int .i64 0)] = (nthI (rows.map FrameConfig.dec) (j : Int)).enc := nth_rowsk (f := FrameConfig.enc) rfl h j

structure Antiphonref10Unit where
  fAt : Int
  fTime : Int
  fMarker : Bool
  fStart : Bool
  fKey : Bool
  fText : ByteArray
  fTick : Int
instance : Inhabited Antiphonref10Unit := ⟨Antiphonref10Unit.mk 0 0 false false false ⟨⟨[]⟩⟩ 0⟩
@[simp] def Antiphonref10Unit.enc (x : Antiphonref10Unit) : List AV := [.lit (.int .i64 x.fAt), .lit (.int .i64 x.fTime), .lit (.bool x.fMarker), .lit (.bool x.fStart), .lit (.bool x.fKey), .lit (.string x.fText), .lit (.int .i64 x.fTick)]
@[simp] def Antiphonref10Unit.dec : List AV → Antiphonref10Unit
  | [.lit (.int .i64 a0), .lit (.int .i64 a1), .lit (.bool a2), .lit (.bool a3), .lit (.bool a4), .lit (.string a5), .lit (.int .i64 a6)] => (Antiphonref10Unit.mk a0 a1 a2 a3 a4 a5 a6)
  | _ => default
@[simp] theorem Antiphonref10Unit.eta (x : Antiphonref10Unit) : Antiphonref10Unit.mk x.fAt x.fTime x.fMarker x.fStart x.fKey x.fText x.fTick = x := by cases x; rfl
theorem Antiphonref10Unit.dec_enc (x : Antiphonref10Unit) : Antiphonref10Unit.dec x.enc = x := by simp
@[simp] theorem Antiphonref10Unit.comp : Antiphonref10Unit.dec ∘ Antiphonref10Unit.enc = id := funext Antiphonref10Unit.dec_enc
@[simp] theorem Antiphonref10Unit.comp2 : (Antiphonref10Unit.enc ∘ Antiphonref10Unit.dec) ∘ Antiphonref10Unit.enc = Antiphonref10Unit.enc := funext fun x => by simp [Function.comp]
@[simp] theorem Antiphonref10Unit.bel (l : List Antiphonref10Unit) (n : Nat) : belLL n (l.map Antiphonref10Unit.enc) := bel_map (fun x => by simp) l
@[simp] theorem Antiphonref10Unit.ren (σ : Nat → Nat) (l : List Antiphonref10Unit) : renLL σ (l.map Antiphonref10Unit.enc) = l.map Antiphonref10Unit.enc := ren_map (fun x => by simp) l
@[simp] theorem Antiphonref10Unit.nth {rows : List (List AV)} (n : Int) (h : rows = (rows.map Antiphonref10Unit.dec).map Antiphonref10Unit.enc) : nthL rows n.toNat [.lit (.int .i64 0), .lit (.int .i64 0), .lit (.bool false), .lit (.bool false), .lit (.bool false), .lit (.string ⟨⟨[]⟩⟩), .lit (.int .i64 0)] = (nthI (rows.map Antiphonref10Unit.dec) n).enc := nth_rows (f := Antiphonref10Unit.enc) rfl h n
@[simp low] theorem Antiphonref10Unit.nthk {rows : List (List AV)} (j : Nat) (h : rows = (rows.map Antiphonref10Unit.dec).map Antiphonref10Unit.enc) : nthL rows j [.lit (.int .i64 0), .lit (.int .i64 0), .lit (.bool false), .lit (.bool false), .lit (.bool false), .lit (.string ⟨⟨[]⟩⟩), .lit (.int .i64 0)] = (nthI (rows.map Antiphonref10Unit.dec) (j : Int)).enc := nth_rowsk (f := Antiphonref10Unit.enc) rfl h j

structure FrameFrame where
  fUnits : List Antiphonref10Unit
instance : Inhabited FrameFrame := ⟨FrameFrame.mk []⟩
@[simp] def FrameFrame.enc (x : FrameFrame) : List AV := [.sl (x.fUnits.map Antiphonref10Unit.enc) .no]
@[simp] def FrameFrame.dec : List AV → FrameFrame
  | [.sl a0 _] => (FrameFrame.mk (a0.map Antiphonref10Unit.dec))
  | _ => default
@[simp] theorem FrameFrame.eta (x : FrameFrame) : FrameFrame.mk x.fUnits = x := by cases x; rfl
theorem FrameFrame.dec_enc (x : FrameFrame) : FrameFrame.dec x.enc = x := by simp
@[simp] theorem FrameFrame.comp : FrameFrame.dec ∘ FrameFrame.enc = id := funext FrameFrame.dec_enc
@[simp] theorem FrameFrame.comp2 : (FrameFrame.enc ∘ FrameFrame.dec) ∘ FrameFrame.enc = FrameFrame.enc := funext fun x => by simp [Function.comp]
@[simp] theorem FrameFrame.bel (l : List FrameFrame) (n : Nat) : belLL n (l.map FrameFrame.enc) := bel_map (fun x => by simp) l
@[simp] theorem FrameFrame.ren (σ : Nat → Nat) (l : List FrameFrame) : renLL σ (l.map FrameFrame.enc) = l.map FrameFrame.enc := ren_map (fun x => by simp) l
@[simp] theorem FrameFrame.nth {rows : List (List AV)} (n : Int) (h : rows = (rows.map FrameFrame.dec).map FrameFrame.enc) (q : InB n (lenL rows)) : nthL rows n.toNat [.sl [] .full] = (nthI (rows.map FrameFrame.dec) n).enc := nth_rows_in h q

structure FrameMaker where
  fConfig : FrameConfig
  fOpen : FrameFrame
  fWhole : Int
  fLost : Int
instance : Inhabited FrameMaker := ⟨FrameMaker.mk (FrameConfig.mk false 0 0 0) (FrameFrame.mk []) 0 0⟩
@[simp] def FrameMaker.enc (x : FrameMaker) : List AV := [.lit (.bool x.fConfig.fVideo), .lit (.int .i64 x.fConfig.fBytes), .lit (.int .i64 x.fConfig.fUnits), .lit (.int .i64 x.fConfig.fWait), .sl (x.fOpen.fUnits.map Antiphonref10Unit.enc) .no, .lit (.int .i64 x.fWhole), .lit (.int .i64 x.fLost)]
@[simp] def FrameMaker.dec : List AV → FrameMaker
  | [.lit (.bool a0), .lit (.int .i64 a1), .lit (.int .i64 a2), .lit (.int .i64 a3), .sl a4 _, .lit (.int .i64 a5), .lit (.int .i64 a6)] => (FrameMaker.mk (FrameConfig.mk a0 a1 a2 a3) (FrameFrame.mk (a4.map Antiphonref10Unit.dec)) a5 a6)
  | _ => default
@[simp] theorem FrameMaker.eta (x : FrameMaker) : FrameMaker.mk x.fConfig x.fOpen x.fWhole x.fLost = x := by cases x; rfl
theorem FrameMaker.dec_enc (x : FrameMaker) : FrameMaker.dec x.enc = x := by simp
@[simp] theorem FrameMaker.comp : FrameMaker.dec ∘ FrameMaker.enc = id := funext FrameMaker.dec_enc
@[simp] theorem FrameMaker.comp2 : (FrameMaker.enc ∘ FrameMaker.dec) ∘ FrameMaker.enc = FrameMaker.enc := funext fun x => by simp [Function.comp]
@[simp] theorem FrameMaker.bel (l : List FrameMaker) (n : Nat) : belLL n (l.map FrameMaker.enc) := bel_map (fun x => by simp) l
@[simp] theorem FrameMaker.ren (σ : Nat → Nat) (l : List FrameMaker) : renLL σ (l.map FrameMaker.enc) = l.map FrameMaker.enc := ren_map (fun x => by simp) l
@[simp] theorem FrameMaker.nth {rows : List (List AV)} (n : Int) (h : rows = (rows.map FrameMaker.dec).map FrameMaker.enc) (q : InB n (lenL rows)) : nthL rows n.toNat [.lit (.bool false), .lit (.int .i64 0), .lit (.int .i64 0), .lit (.int .i64 0), .sl [] .full, .lit (.int .i64 0), .lit (.int .i64 0)] = (nthI (rows.map FrameMaker.dec) n).enc := nth_rows_in h q

structure LadderConfig where
  fDown : Int
  fUp : Int
  fSpare : Int
instance : Inhabited LadderConfig := ⟨LadderConfig.mk 0 0 0⟩
@[simp] def LadderConfig.enc (x : LadderConfig) : List AV := [.lit (.int .i64 x.fDown), .lit (.int .i64 x.fUp), .lit (.int .i64 x.fSpare)]
@[simp] def LadderConfig.dec : List AV → LadderConfig
  | [.lit (.int .i64 a0), .lit (.int .i64 a1), .lit (.int .i64 a2)] => (LadderConfig.mk a0 a1 a2)
  | _ => default
@[simp] theorem LadderConfig.eta (x : LadderConfig) : LadderConfig.mk x.fDown x.fUp x.fSpare = x := by cases x; rfl
theorem LadderConfig.dec_enc (x : LadderConfig) : LadderConfig.dec x.enc = x := by simp
@[simp] theorem LadderConfig.comp : LadderConfig.dec ∘ LadderConfig.enc = id := funext LadderConfig.dec_enc
@[simp] theorem LadderConfig.comp2 : (LadderConfig.enc ∘ LadderConfig.dec) ∘ LadderConfig.enc = LadderConfig.enc := funext fun x => by simp [Function.comp]
@[simp] theorem LadderConfig.bel (l : List LadderConfig) (n : Nat) : belLL n (l.map LadderConfig.enc) := bel_map (fun x => by simp) l
@[simp] theorem LadderConfig.ren (σ : Nat → Nat) (l : List LadderConfig) : renLL σ (l.map LadderConfig.enc) = l.map LadderConfig.enc := ren_map (fun x => by simp) l
@[simp] theorem LadderConfig.nth {rows : List (List AV)} (n : Int) (h : rows = (rows.map LadderConfig.dec).map LadderConfig.enc) : nthL rows n.toNat [.lit (.int .i64 0), .lit (.int .i64 0), .lit (.int .i64 0)] = (nthI (rows.map LadderConfig.dec) n).enc := nth_rows (f := LadderConfig.enc) rfl h n
@[simp low] theorem LadderConfig.nthk {rows : List (List AV)} (j : Nat) (h : rows = (rows.map LadderConfig.dec).map LadderConfig.enc) : nthL rows j [.lit (.int .i64 0), .lit (.int .i64 0), .lit (.int .i64 0)] = (nthI (rows.map LadderConfig.dec) (j : Int)).enc := nth_rowsk (f := LadderConfig.enc) rfl h j

structure LadderLadder where
  fConfig : LadderConfig
  fNeeds : List Int
  fAt : Int
  fMost : Int
  fBad : Int
  fGood : Int
  fMoves : Int
instance : Inhabited LadderLadder := ⟨LadderLadder.mk (LadderConfig.mk 0 0 0) [] 0 0 0 0 0⟩
@[simp] def LadderLadder.enc (x : LadderLadder) : List AV := [.lit (.int .i64 x.fConfig.fDown), .lit (.int .i64 x.fConfig.fUp), .lit (.int .i64 x.fConfig.fSpare), .sl (x.fNeeds.map (encI .i64)) .no, .lit (.int .i64 x.fAt), .lit (.int .i64 x.fMost), .lit (.int .i64 x.fBad), .lit (.int .i64 x.fGood), .lit (.int .i64 x.fMoves)]
@[simp] def LadderLadder.dec : List AV → LadderLadder
  | [.lit (.int .i64 a0), .lit (.int .i64 a1), .lit (.int .i64 a2), .sl a3 _, .lit (.int .i64 a4), .lit (.int .i64 a5), .lit (.int .i64 a6), .lit (.int .i64 a7), .lit (.int .i64 a8)] => (LadderLadder.mk (LadderConfig.mk a0 a1 a2) (a3.map decI) a4 a5 a6 a7 a8)
  | _ => default
@[simp] theorem LadderLadder.eta (x : LadderLadder) : LadderLadder.mk x.fConfig x.fNeeds x.fAt x.fMost x.fBad x.fGood x.fMoves = x := by cases x; rfl
theorem LadderLadder.dec_enc (x : LadderLadder) : LadderLadder.dec x.enc = x := by simp
@[simp] theorem LadderLadder.comp : LadderLadder.dec ∘ LadderLadder.enc = id := funext LadderLadder.dec_enc
@[simp] theorem LadderLadder.comp2 : (LadderLadder.enc ∘ LadderLadder.dec) ∘ LadderLadder.enc = LadderLadder.enc := funext fun x => by simp [Function.comp]
@[simp] theorem LadderLadder.bel (l : List LadderLadder) (n : Nat) : belLL n (l.map LadderLadder.enc) := bel_map (fun x => by simp) l
@[simp] theorem LadderLadder.ren (σ : Nat → Nat) (l : List LadderLadder) : renLL σ (l.map LadderLadder.enc) = l.map LadderLadder.enc := ren_map (fun x => by simp) l
@[simp] theorem LadderLadder.nth {rows : List (List AV)} (n : Int) (h : rows = (rows.map LadderLadder.dec).map LadderLadder.enc) (q : InB n (lenL rows)) : nthL rows n.toNat [.lit (.int .i64 0), .lit (.int .i64 0), .lit (.int .i64 0), .sl [] .full, .lit (.int .i64 0), .lit (.int .i64 0), .lit (.int .i64 0), .lit (.int .i64 0), .lit (.int .i64 0)] = (nthI (rows.map LadderLadder.dec) n).enc := nth_rows_in h q

structure Antiphonref23Ladder where
  fDown : Int
  fUp : Int
  fSpare : Int
  fNeeds : List Int
  fAt : Int
  fMost : Int
  fMoves : Int
  fRates : List Int
instance : Inhabited Antiphonref23Ladder := ⟨Antiphonref23Ladder.mk 0 0 0 [] 0 0 0 []⟩
@[simp] def Antiphonref23Ladder.enc (x : Antiphonref23Ladder) : List AV := [.lit (.int .i64 x.fDown), .lit (.int .i64 x.fUp), .lit (.int .i64 x.fSpare), .sl (x.fNeeds.map (encI .i64)) .no, .lit (.int .i64 x.fAt), .lit (.int .i64 x.fMost), .lit (.int .i64 x.fMoves), .sl (x.fRates.map (encI .i64)) .no]
@[simp] def Antiphonref23Ladder.dec : List AV → Antiphonref23Ladder
  | [.lit (.int .i64 a0), .lit (.int .i64 a1), .lit (.int .i64 a2), .sl a3 _, .lit (.int .i64 a4), .lit (.int .i64 a5), .lit (.int .i64 a6), .sl a7 _] => (Antiphonref23Ladder.mk a0 a1 a2 (a3.map decI) a4 a5 a6 (a7.map decI))
  | _ => default
@[simp] theorem Antiphonref23Ladder.eta (x : Antiphonref23Ladder) : Antiphonref23Ladder.mk x.fDown x.fUp x.fSpare x.fNeeds x.fAt x.fMost x.fMoves x.fRates = x := by cases x; rfl
theorem Antiphonref23Ladder.dec_enc (x : Antiphonref23Ladder) : Antiphonref23Ladder.dec x.enc = x := by simp
@[simp] theorem Antiphonref23Ladder.comp : Antiphonref23Ladder.dec ∘ Antiphonref23Ladder.enc = id := funext Antiphonref23Ladder.dec_enc
@[simp] theorem Antiphonref23Ladder.comp2 : (Antiphonref23Ladder.enc ∘ Antiphonref23Ladder.dec) ∘ Antiphonref23Ladder.enc = Antiphonref23Ladder.enc := funext fun x => by simp [Function.comp]
@[simp] theorem Antiphonref23Ladder.bel (l : List Antiphonref23Ladder) (n : Nat) : belLL n (l.map Antiphonref23Ladder.enc) := bel_map (fun x => by simp) l
@[simp] theorem Antiphonref23Ladder.ren (σ : Nat → Nat) (l : List Antiphonref23Ladder) : renLL σ (l.map Antiphonref23Ladder.enc) = l.map Antiphonref23Ladder.enc := ren_map (fun x => by simp) l
@[simp] theorem Antiphonref23Ladder.nth {rows : List (List AV)} (n : Int) (h : rows = (rows.map Antiphonref23Ladder.dec).map Antiphonref23Ladder.enc) (q : InB n (lenL rows)) : nthL rows n.toNat [.lit (.int .i64 0), .lit (.int .i64 0), .lit (.int .i64 0), .sl [] .full, .lit (.int .i64 0), .lit (.int .i64 0), .lit (.int .i64 0), .sl [] .full] = (nthI (rows.map Antiphonref23Ladder.dec) n).enc := nth_rows_in h q
end Go.Ab
