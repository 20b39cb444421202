/- The types of these functions. No condition. -/
import Derived.Test.YtahmmpmmmkbemaaAb9
namespace Go.Ab

structure FrameConfig where
  fVideo : Bool
  fBytes : Int
  fUnits : Int
  fWait : Int
instance : Inhabited FrameConfig := ⟨FrameConfig.mk false 0 0 0⟩
@[simp] def FrameConfig.enc (x : FrameConfig) : List AV := [.lit (.bool x.fVideo), .lit (.int .i64 x.fBytes), .lit (.int .i64 x.fUnits), .lit (.int .i64 x.fWait)]
@[simp] def FrameConfig.dec : List AV → FrameConfig
  | [.lit (.bool a0), .lit (.int .i64 a1), .lit (.int .i64 a2), .lit (.int .i64 a3)] => (FrameConfig.mk a0 a1 a2 a3)
  | _ => default
@[simp] theorem FrameConfig.eta (x : FrameConfig) : FrameConfig.mk x.fVideo x.fBytes x.fUnits x.fWait = x := by cases x; rfl
theorem FrameConfig.dec_enc (x : FrameConfig) : FrameConfig.dec x.enc = x := by simp
@[simp] theorem FrameConfig.comp : FrameConfig.dec ∘ FrameConfig.enc = id := funext FrameConfig.dec_enc
@[simp] theorem FrameConfig.comp2 : (FrameConfig.enc ∘ FrameConfig.dec) ∘ FrameConfig.enc = FrameConfig.enc := funext fun x => by simp [Function.comp]
@[simp] theorem FrameConfig.bel (l : List FrameConfig) (n : Nat) : belLL n (l.map FrameConfig.enc) := bel_map (fun x => by simp) l
@[simp] theorem FrameConfig.ren (σ : Nat → Nat) (l : List FrameConfig) : renLL σ (l.map FrameConfig.enc) = l.map FrameConfig.enc := ren_map (fun x => by simp) l
@[simp] theorem FrameConfig.nth {rows : List (List AV)} (n : Int) (h : rows = (rows.map FrameConfig.dec).map FrameConfig.enc) : nthL rows n.toNat [.lit (.bool false), .lit (.int .i64 0), .lit (.int .i64 0), .lit (.int .i64 0)] = (nthI (rows.map FrameConfig.dec) n).enc := nth_rows (f := FrameConfig.enc) rfl h n
@[simp low] theorem FrameConfig.nthk {rows : List (List AV)} (j : Nat) (h : rows = (rows.map FrameConfig.dec).map FrameConfig.enc) : nthL rows j [.lit (.bool false), .lit (.int .i64 0), .lit (.int .i64 0), .lit (.int .i64 0)] = (nthI (rows.map FrameConfig.dec) (j : Int)).enc := nth_rowsk (f := FrameConfig.enc) rfl h j

structure Antiphonref10Unit where
  fAt : Int
  fTime : Int
  fMarker : Bool
  fStart : Bool
  fKey : Bool
  fText : ByteArray
  fTick : Int
instance : Inhabited Antiphonref10Unit := ⟨Antiphonref10Unit.mk 0 0 false false false ⟨⟨[]⟩⟩ 0⟩
@[simp] def Antiphonref10Unit.enc (x : Antiphonref10Unit) : List AV := [.lit (.int .i64 x.fAt), .lit (.int .i64 x.fTime), .lit (.bool x.fMarker), .lit (.bool x.fStart), .lit (.bool x.fKey), .lit (.string x.fText), .lit (.int .i64 x.fTick)]
@[simp] def Antiphonref10Unit.dec : List AV → Antiphonref10Unit
  | [.lit (.int .i64 a0), .lit (.int .i64 a1), .lit (.bool a2), .lit (.bool a3), .lit (.bool a4), .lit (.string a5), .lit (.int .i64 a6)] => (Antiphonref10Unit.mk a0 a1 a2 a3 a4 a5 a6)
  | _ => default
@[simp] theorem Antiphonref10Unit.eta (x : Antiphonref10Unit) : Antiphonref10Unit.mk x.fAt x.fTime x.fMarker x.fStart x.fKey x.fText x.fTick = x := by cases x; rfl
theorem Antiphonref10Unit.dec_enc (x : Antiphonref10Unit) : Antiphonref10Unit.dec x.enc = x := by simp
@[simp] theorem Antiphonref10Unit.comp : Antiphonref10Unit.dec ∘ Antiphonref10Unit.enc = id := funext Antiphonref10Unit.dec_enc
@[simp] theorem Antiphonref10Unit.comp2 : (Antiphonref10Unit.enc ∘ Antiphonref10Unit.dec) ∘ Antiphonref10Unit.enc = Antiphonref10Unit.enc := funext fun x => by simp [Function.comp]
@[simp] theorem Antiphonref10Unit.bel (l : List Antiphonref10Unit) (n : Nat) : belLL n (l.map Antiphonref10Unit.enc) := bel_map (fun x => by simp) l
@[simp] theorem Antiphonref10Unit.ren (σ : Nat → Nat) (l : List Antiphonref10Unit) : renLL σ (l.map Antiphonref10Unit.enc) = l.map Antiphonref10Unit.enc := ren_map (fun x => by simp) l
@[simp] theorem Antiphonref10Unit.nth {rows : List (List AV)} (n : Int) (h : rows = (rows.map Antiphonref10Unit.dec).map Antiphonref10Unit.enc) : nthL rows n.toNat [.lit (.int .i64 0), .lit (.int .i64 0), .lit (.bool false), .lit (.bool false), .lit (.bool false), .lit (.string ⟨⟨[]⟩⟩), .lit (.int .i64 0)] = (nthI (rows.map Antiphonref10Unit.dec) n).enc := nth_rows (f := Antiphonref10Unit.enc) rfl h n
@[simp low] theorem Antiphonref10Unit.nthk {rows : List (List AV)} (j : Nat) (h : rows = (rows.map Antiphonref10Unit.dec).map Antiphonref10Unit.enc) : nthL rows j [.lit (.int .i64 0), .lit (.int .i64 0), .lit (.bool false), .lit (.bool false), .lit (.bool false), .lit (.string ⟨⟨[]⟩⟩), .lit (.int .i64 0)] = (nthI (rows.map Antiphonref10Unit.dec) (j : Int)).enc := nth_rowsk (f := Antiphonref10Unit.enc) rfl h j

structure FrameFrame where
  fUnits : List Antiphonref10Unit
instance : Inhabited FrameFrame := ⟨FrameFrame.mk []⟩
@[simp] def FrameFrame.enc (x : FrameFrame) : List AV := [.sl (x.fUnits.map Antiphonref10Unit.enc) .no]
@[simp] def FrameFrame.dec : List AV → FrameFrame
  | [.sl a0 _] => (FrameFrame.mk (a0.map Antiphonref10Unit.dec))
  | _ => default
@[simp] theorem FrameFrame.eta (x : FrameFrame) : FrameFrame.mk x.fUnits = x := by cases x; rfl
theorem FrameFrame.dec_enc (x : FrameFrame) : FrameFrame.dec x.enc = x := by simp
@[simp] theorem FrameFrame.comp : FrameFrame.dec ∘ FrameFrame.enc = id := funext FrameFrame.dec_enc
@[simp] theorem FrameFrame.comp2 : (FrameFrame.enc ∘ FrameFrame.dec) ∘ FrameFrame.enc = FrameFrame.enc := funext fun x => by simp [Function.comp]
@[simp] theorem FrameFrame.bel (l : List FrameFrame) (n : Nat) : belLL n (l.map FrameFrame.enc) := bel_map (fun x => by simp) l
@[simp] theorem FrameFrame.ren (σ : Nat → Nat) (l : List FrameFrame) : renLL σ (l.map FrameFrame.enc) = l.map FrameFrame.enc := ren_map (fun x => by simp) l
@[simp] theorem FrameFrame.nth {rows : List (List AV)} (n : Int) (h : rows = (rows.map FrameFrame.dec).map FrameFrame.enc) (q : InB n (lenL rows)) : nthL rows n.toNat [.sl [] .full] = (nthI (rows.map FrameFrame.dec) n).enc := nth_rows_in h q

structure FrameMaker where
  fConfig : FrameConfig
  fOpen : FrameFrame
  fWhole : Int
  fLost : Int
instance : Inhabited FrameMaker := ⟨FrameMaker.mk (FrameConfig.mk false 0 0 0) (FrameFrame.mk []) 0 0⟩
@[simp] def FrameMaker.enc (x : FrameMaker) : List AV := [.lit (.bool x.fConfig.fVideo), .lit (.int .i64 x.fConfig.fBytes), .lit (.int .i64 x.fConfig.fUnits), .lit (.int .i64 x.fConfig.fWait), .sl (x.fOpen.fUnits.map Antiphonref10Unit.enc) .no, .lit (.int .i64 x.fWhole), .lit (.int .i64 x.fLost)]
@[simp] def FrameMaker.dec : List AV → FrameMaker
  | [.lit (.bool a0), .lit (.int .i64 a1), .lit (.int .i64 a2), .lit (.int .i64 a3), .sl a4 _, .lit (.int .i64 a5), .lit (.int .i64 a6)] => (FrameMaker.mk (FrameConfig.mk a0 a1 a2 a3) (FrameFrame.mk (a4.map Antiphonref10Unit.dec)) a5 a6)
  | _ => default
@[simp] theorem FrameMaker.eta (x : FrameMaker) : FrameMaker.mk x.fConfig x.fOpen x.fWhole x.fLost = x := by cases x; rfl
theorem FrameMaker.dec_enc (x : FrameMaker) : FrameMaker.dec x.enc = x := by simp
@[simp] theorem FrameMaker.comp : FrameMaker.dec ∘ FrameMaker.enc = id := funext FrameMaker.dec_enc
@[simp] theorem FrameMaker.comp2 : (FrameMaker.enc ∘ FrameMaker.dec) ∘ FrameMaker.enc = FrameMaker.enc := funext fun x => by simp [Function.comp]
@[simp] theorem FrameMaker.bel (l : List FrameMaker) (n : Nat) : belLL n (l.map FrameMaker.enc) := bel_map (fun x => by simp) l
@[simp] theorem FrameMaker.ren (σ : Nat → Nat) (l : List FrameMaker) : renLL σ (l.map FrameMaker.enc) = l.map FrameMaker.enc := ren_map (fun x => by simp) l
@[simp] theorem FrameMaker.nth {rows : List (List AV)} (n : Int) (h : rows = (rows.map FrameMaker.dec).map FrameMaker.enc) (q : InB n (lenL rows)) : nthL rows n.toNat [.lit (.bool false), .lit (.int .i64 0), .lit (.int .i64 0), .lit (.int .i64 0), .sl [] .full, .lit (.int .i64 0), .lit (.int .i64 0)] = (nthI (rows.map FrameMaker.dec) n).enc := nth_rows_in h q

structure Antiphonref10Maker where
  fVideo : Bool
  fBytes : Int
  fUnits : Int
  fWait : Int
  fOpen : List Antiphonref10Unit
  fWhole : Int
  fLost : Int
instance : Inhabited Antiphonref10Maker := ⟨Antiphonref10Maker.mk false 0 0 0 [] 0 0⟩
@[simp] def Antiphonref10Maker.enc (x : Antiphonref10Maker) : List AV := [.lit (.bool x.fVideo), .lit (.int .i64 x.fBytes), .lit (.int .i64 x.fUnits), .lit (.int .i64 x.fWait), .sl (x.fOpen.map Antiphonref10Unit.enc) .no, .lit (.int .i64 x.fWhole), .lit (.int .i64 x.fLost)]
@[simp] def Antiphonref10Maker.dec : List AV → Antiphonref10Maker
  | [.lit (.bool a0), .lit (.int .i64 a1), .lit (.int .i64 a2), .lit (.int .i64 a3), .sl a4 _, .lit (.int .i64 a5), .lit (.int .i64 a6)] => (Antiphonref10Maker.mk a0 a1 a2 a3 (a4.map Antiphonref10Unit.dec) a5 a6)
  | _ => default
@[simp] theorem Antiphonref10Maker.eta (x : Antiphonref10Maker) : Antiphonref10Maker.mk x.fVideo x.fBytes x.fUnits x.fWait x.fOpen x.fWhole x.fLost = x := by cases x; rfl
theorem Antiphonref10Maker.dec_enc (x : Antiphonref10Maker) : Antiphonref10Maker.dec x.enc = x := by simp
@[simp] theorem Antiphonref10Maker.comp : Antiphonref10Maker.dec ∘ Antiphonref10Maker.enc = id := funext Antiphonref10Maker.dec_enc
@[simp] theorem Antiphonref10Maker.comp2 : (Antiphonref10Maker.enc ∘ Antiphonref10Maker.dec) ∘ Antiphonref10Maker.enc = Antiphonref10Maker.enc := funext fun x => by simp [Function.comp]
@[simp] theorem Antiphonref10Maker.bel (l : List Antiphonref10Maker) (n : Nat) : belLL n (l.map Antiphonref10Maker.enc) := bel_map (fun x => by simp) l
@[simp] theorem Antiphonref10Maker.ren (σ : Nat → Nat) (l : List Antiphonref10Maker) : renLL σ (l.map Antiphonref10Maker.enc) = l.map Antiphonref10Maker.enc := ren_map (fun x => by simp) l
@[simp] theorem Antiphonref10Maker.nth {rows : List (List AV)} (n : Int) (h : rows = (rows.map Antiphonref10Maker.dec).map Antiphonref10Maker.enc) (q : InB n (lenL rows)) : nthL rows n.toNat [.lit (.bool false), .lit (.int .i64 0), .lit (.int .i64 0), .lit (.int .i64 0), .sl [] .full, .lit (.int .i64 0), .lit (.int .i64 0)] = (nthI (rows.map Antiphonref10Maker.dec) n).enc := nth_rows_in h q

structure Antiphonlaw10State where
  fM : FrameMaker
  fX : Antiphonref10Maker
  fAt : Int
  fTime : Int
  fNow : Int
instance : Inhabited Antiphonlaw10State := ⟨Antiphonlaw10State.mk (FrameMaker.mk (FrameConfig.mk false 0 0 0) (FrameFrame.mk []) 0 0) (Antiphonref10Maker.mk false 0 0 0 [] 0 0) 0 0 0⟩
@[simp] def Antiphonlaw10State.enc (x : Antiphonlaw10State) (i0 : Nat) : List AV := [.ptr i0 0, .lit (.bool x.fX.fVideo), .lit (.int .i64 x.fX.fBytes), .lit (.int .i64 x.fX.fUnits), .lit (.int .i64 x.fX.fWait), .sl (x.fX.fOpen.map Antiphonref10Unit.enc) .no, .lit (.int .i64 x.fX.fWhole), .lit (.int .i64 x.fX.fLost), .lit (.int .i64 x.fAt), .lit (.int .i64 x.fTime), .lit (.int .i64 x.fNow)]
@[simp] def Antiphonlaw10State.dec : List AV → FrameMaker → Antiphonlaw10State
  | [.ptr _ _, .lit (.bool a1), .lit (.int .i64 a2), .lit (.int .i64 a3), .lit (.int .i64 a4), .sl a5 _, .lit (.int .i64 a6), .lit (.int .i64 a7), .lit (.int .i64 a8), .lit (.int .i64 a9), .lit (.int .i64 a10)], a0 => (Antiphonlaw10State.mk a0 (Antiphonref10Maker.mk a1 a2 a3 a4 (a5.map Antiphonref10Unit.dec) a6 a7) a8 a9 a10)
  | _, _ => default
@[simp] theorem Antiphonlaw10State.eta (x : Antiphonlaw10State) : Antiphonlaw10State.mk x.fM x.fX x.fAt x.fTime x.fNow = x := by cases x; rfl

structure Antiphonlaw10Act where
  fKind : Int
  fBy : Int
  fLater : Int
  fMarker : Bool
  fStart : Bool
  fKey : Bool
  fS : ByteArray
instance : Inhabited Antiphonlaw10Act := ⟨Antiphonlaw10Act.mk 0 0 0 false false false ⟨⟨[]⟩⟩⟩
@[simp] def Antiphonlaw10Act.enc (x : Antiphonlaw10Act) : List AV := [.lit (.int .i64 x.fKind), .lit (.int .i64 x.fBy), .lit (.int .i64 x.fLater), .lit (.bool x.fMarker), .lit (.bool x.fStart), .lit (.bool x.fKey), .lit (.string x.fS)]
@[simp] def Antiphonlaw10Act.dec : List AV → Antiphonlaw10Act
  | [.lit (.int .i64 a0), .lit (.int .i64 a1), .lit (.int .i64 a2), .lit (.bool a3), .lit (.bool a4), .lit (.bool a5), .lit (.string a6)] => (Antiphonlaw10Act.mk a0 a1 a2 a3 a4 a5 a6)
  | _ => default
@[simp] theorem Antiphonlaw10Act.eta (x : Antiphonlaw10Act) : Antiphonlaw10Act.mk x.fKind x.fBy x.fLater x.fMarker x.fStart x.fKey x.fS = x := by cases x; rfl
theorem Antiphonlaw10Act.dec_enc (x : Antiphonlaw10Act) : Antiphonlaw10Act.dec x.enc = x := by simp
@[simp] theorem Antiphonlaw10Act.comp : Antiphonlaw10Act.dec ∘ Antiphonlaw10Act.enc = id := funext Antiphonlaw10Act.dec_enc
@[simp] theorem Antiphonlaw10Act.comp2 : (Antiphonlaw10Act.enc ∘ Antiphonlaw10Act.dec) ∘ Antiphonlaw10Act.enc = Antiphonlaw10Act.enc := funext fun x => by simp [Function.comp]
@[simp] theorem Antiphonlaw10Act.bel (l : List Antiphonlaw10Act) (n : Nat) : belLL n (l.map Antiphonlaw10Act.enc) := bel_map (fun x => by simp) l
@[simp] theorem Antiphonlaw10Act.ren (σ : Nat → Nat) (l : List Antiphonlaw10Act) : renLL σ (l.map Antiphonlaw10Act.enc) = l.map Antiphonlaw10Act.enc := ren_map (fun x => by simp) l
@[simp] theorem Antiphonlaw10Act.nth {rows : List (List AV)} (n : Int) (h : rows = (rows.map Antiphonlaw10Act.dec).map Antiphonlaw10Act.enc) : nthL rows n.toNat [.lit (.int .i64 0), .lit (.int .i64 0), .lit (.int .i64 0), .lit (.bool false), .lit (.bool false), .lit (.bool false), .lit (.string ⟨⟨[]⟩⟩)] = (nthI (rows.map Antiphonlaw10Act.dec) n).enc := nth_rows (f := Antiphonlaw10Act.enc) rfl h n
@[simp low] theorem Antiphonlaw10Act.nthk {rows : List (List AV)} (j : Nat) (h : rows = (rows.map Antiphonlaw10Act.dec).map Antiphonlaw10Act.enc) : nthL rows j [.lit (.int .i64 0), .lit (.int .i64 0), .lit (.int .i64 0), .lit (.bool false), .lit (.bool false), .lit (.bool false), .lit (.string ⟨⟨[]⟩⟩)] = (nthI (rows.map Antiphonlaw10Act.dec) (j : Int)).enc := nth_rowsk (f := Antiphonlaw10Act.enc) rfl h j
end Go.Ab
