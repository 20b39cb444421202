/- The types of these functions. No condition. -/
import Derived.Test.YtbijdlgffebenaaM07
namespace Go.Ab

structure ReorderConfig where
  fMost : Int
  fWait : Int
instance : Inhabited ReorderConfig := ⟨ReorderConfig.mk 0 0⟩
@[simp] def ReorderConfig.enc (x : ReorderConfig) : List AV := [.lit (.int .i64 x.fMost), .lit (.int .i64 x.fWait)]
@[simp] def ReorderConfig.dec : List AV → ReorderConfig
  | [.lit (.int .i64 a0), .lit (.int .i64 a1)] => (ReorderConfig.mk a0 a1)
  | _ => default
@[simp] theorem ReorderConfig.eta (x : ReorderConfig) : ReorderConfig.mk x.fMost x.fWait = x := by cases x; rfl
theorem ReorderConfig.dec_enc (x : ReorderConfig) : ReorderConfig.dec x.enc = x := by simp
@[simp] theorem ReorderConfig.comp : ReorderConfig.dec ∘ ReorderConfig.enc = id := funext ReorderConfig.dec_enc
@[simp] theorem ReorderConfig.comp2 : (ReorderConfig.enc ∘ ReorderConfig.dec) ∘ ReorderConfig.enc = ReorderConfig.enc := funext fun x => by simp [Function.comp]
@[simp low] theorem ReorderConfig.nthk {rows : List (List AV)} (j : Nat) (h : rows = (rows.map ReorderConfig.dec).map ReorderConfig.enc) : nthL rows j [.lit (.int .i64 0), .lit (.int .i64 0)] = (nthI (rows.map ReorderConfig.dec) (j : Int)).enc := nth_rowsk (f := ReorderConfig.enc) rfl h j

structure Antiphonref09Thing where
  fAt : Int
  fText : ByteArray
  fTick : Int
instance : Inhabited Antiphonref09Thing := ⟨Antiphonref09Thing.mk 0 ⟨⟨[]⟩⟩ 0⟩
@[simp] def Antiphonref09Thing.enc (x : Antiphonref09Thing) : List AV := [.lit (.int .i64 x.fAt), .lit (.string x.fText), .lit (.int .i64 x.fTick)]
@[simp] def Antiphonref09Thing.dec : List AV → Antiphonref09Thing
  | [.lit (.int .i64 a0), .lit (.string a1), .lit (.int .i64 a2)] => (Antiphonref09Thing.mk a0 a1 a2)
  | _ => default
@[simp] theorem Antiphonref09Thing.eta (x : Antiphonref09Thing) : Antiphonref09Thing.mk x.fAt x.fText x.fTick = x := by cases x; rfl
theorem Antiphonref09Thing.dec_enc (x : Antiphonref09Thing) : Antiphonref09Thing.dec x.enc = x := by simp
@[simp] theorem Antiphonref09Thing.comp : Antiphonref09Thing.dec ∘ Antiphonref09Thing.enc = id := funext Antiphonref09Thing.dec_enc
@[simp] theorem Antiphonref09Thing.comp2 : (Antiphonref09Thing.enc ∘ Antiphonref09Thing.dec) ∘ Antiphonref09Thing.enc = Antiphonref09Thing.enc := funext fun x => by simp [Function.comp]
@[simp] theorem Antiphonref09Thing.bel (l : List Antiphonref09Thing) (n : Nat) : belLL n (l.map Antiphonref09Thing.enc) := bel_map (fun x => by simp) l
@[simp] theorem Antiphonref09Thing.ren (σ : Nat → Nat) (l : List Antiphonref09Thing) : renLL σ (l.map Antiphonref09Thing.enc) = l.map Antiphonref09Thing.enc := ren_map (fun x => by simp) l
@[simp] theorem Antiphonref09Thing.vren (σ : Nat → Nat) (x : Antiphonref09Thing) : (vA Antiphonref09Thing.enc x).ren σ = vA Antiphonref09Thing.enc x := vA_ren_eq (fun x => by simp) x
@[simp] theorem Antiphonref09Thing.mrenI (σ : Nat → Nat) (k : IntKind) (m : List (Int × Antiphonref09Thing)) : (AObj.mapo (encM (kI k) (vA Antiphonref09Thing.enc) m)).ren σ = .mapo (encM (kI k) (vA Antiphonref09Thing.enc) m) := encM_ren (fun _ => rfl) (Antiphonref09Thing.vren σ) m
@[simp] theorem Antiphonref09Thing.mbelI (n : Nat) (k : IntKind) (m : List (Int × Antiphonref09Thing)) : (AObj.mapo (encM (kI k) (vA Antiphonref09Thing.enc) m)).bel n ↔ True := encM_bel (fun _ => by simp) (fun x => by simp) m
@[simp] theorem Antiphonref09Thing.mdecI (k : IntKind) (m : List (Int × Antiphonref09Thing)) : decM dkI (dvA Antiphonref09Thing.dec) (encM (kI k) (vA Antiphonref09Thing.enc) m) = m := decM_encM (fun _ => rfl) (fun x => by simp) m
@[simp] theorem Antiphonref09Thing.getVI (k : IntKind) (x : Int) (m : List (Int × Antiphonref09Thing)) : getV (.int k x) (.agg [.lit (.int .i64 0), .lit (.string ⟨⟨[]⟩⟩), .lit (.int .i64 0)]) (encM (kI k) (vA Antiphonref09Thing.enc) m) = .agg (Antiphonref09Thing.enc (getM eqI x (Antiphonref09Thing.mk 0 ⟨⟨[]⟩⟩ 0) m)) := getV_I (vE := vA Antiphonref09Thing.enc) (d := (Antiphonref09Thing.mk 0 ⟨⟨[]⟩⟩ 0)) (by simp [vA]) x m
@[simp] theorem Antiphonref09Thing.setVI (k : IntKind) (x : Int) (l : List AV) (h : l = Antiphonref09Thing.enc (Antiphonref09Thing.dec l)) (m : List (Int × Antiphonref09Thing)) : setV (.int k x) (.agg l) (encM (kI k) (vA Antiphonref09Thing.enc) m) = encM (kI k) (vA Antiphonref09Thing.enc) (setM eqI x (Antiphonref09Thing.dec l) m) := setV_I (vE := vA Antiphonref09Thing.enc) (v := Antiphonref09Thing.dec l) (congrArg AV.agg h) x m
@[simp] theorem Antiphonref09Thing.nth {rows : List (List AV)} (n : Int) (h : rows = (rows.map Antiphonref09Thing.dec).map Antiphonref09Thing.enc) : nthL rows n.toNat [.lit (.int .i64 0), .lit (.string ⟨⟨[]⟩⟩), .lit (.int .i64 0)] = (nthI (rows.map Antiphonref09Thing.dec) n).enc := nth_rows (f := Antiphonref09Thing.enc) rfl h n
@[simp low] theorem Antiphonref09Thing.nthk {rows : List (List AV)} (j : Nat) (h : rows = (rows.map Antiphonref09Thing.dec).map Antiphonref09Thing.enc) : nthL rows j [.lit (.int .i64 0), .lit (.string ⟨⟨[]⟩⟩), .lit (.int .i64 0)] = (nthI (rows.map Antiphonref09Thing.dec) (j : Int)).enc := nth_rowsk (f := Antiphonref09Thing.enc) rfl h j

structure ReorderBuffer where
  fConfig : ReorderConfig
  fBegun : Bool
  fNext : Int
  fOf : List (Int × Antiphonref09Thing)
  fLost : Int
instance : Inhabited ReorderBuffer := ⟨ReorderBuffer.mk (ReorderConfig.mk 0 0) false 0 [] 0⟩
@[simp] def ReorderBuffer.enc (x : ReorderBuffer) (i0 : Nat) : List AV := [.lit (.int .i64 x.fConfig.fMost), .lit (.int .i64 x.fConfig.fWait), .lit (.bool x.fBegun), .lit (.int .i64 x.fNext), .mp i0, .lit (.int .i64 x.fLost)]
@[simp] def ReorderBuffer.dec : List AV → (List (Int × Antiphonref09Thing)) → ReorderBuffer
  | [.lit (.int .i64 a0), .lit (.int .i64 a1), .lit (.bool a2), .lit (.int .i64 a3), .mp _, .lit (.int .i64 a5)], a4 => (ReorderBuffer.mk (ReorderConfig.mk a0 a1) a2 a3 a4 a5)
  | _, _ => default
@[simp] theorem ReorderBuffer.eta (x : ReorderBuffer) : ReorderBuffer.mk x.fConfig x.fBegun x.fNext x.fOf x.fLost = x := by cases x; rfl

structure Antiphonref09Buffer where
  fMost : Int
  fWait : Int
  fBegun : Bool
  fNext : Int
  fL : List Antiphonref09Thing
  fLost : Int
instance : Inhabited Antiphonref09Buffer := ⟨Antiphonref09Buffer.mk 0 0 false 0 [] 0⟩
@[simp] def Antiphonref09Buffer.enc (x : Antiphonref09Buffer) : List AV := [.lit (.int .i64 x.fMost), .lit (.int .i64 x.fWait), .lit (.bool x.fBegun), .lit (.int .i64 x.fNext), .sl (x.fL.map Antiphonref09Thing.enc) .no, .lit (.int .i64 x.fLost)]
@[simp] def Antiphonref09Buffer.dec : List AV → Antiphonref09Buffer
  | [.lit (.int .i64 a0), .lit (.int .i64 a1), .lit (.bool a2), .lit (.int .i64 a3), .sl a4 _, .lit (.int .i64 a5)] => (Antiphonref09Buffer.mk a0 a1 a2 a3 (a4.map Antiphonref09Thing.dec) a5)
  | _ => default
@[simp] theorem Antiphonref09Buffer.eta (x : Antiphonref09Buffer) : Antiphonref09Buffer.mk x.fMost x.fWait x.fBegun x.fNext x.fL x.fLost = x := by cases x; rfl
theorem Antiphonref09Buffer.dec_enc (x : Antiphonref09Buffer) : Antiphonref09Buffer.dec x.enc = x := by simp
@[simp] theorem Antiphonref09Buffer.comp : Antiphonref09Buffer.dec ∘ Antiphonref09Buffer.enc = id := funext Antiphonref09Buffer.dec_enc
@[simp] theorem Antiphonref09Buffer.comp2 : (Antiphonref09Buffer.enc ∘ Antiphonref09Buffer.dec) ∘ Antiphonref09Buffer.enc = Antiphonref09Buffer.enc := funext fun x => by simp [Function.comp]
@[simp low] theorem Antiphonref09Buffer.nthk {rows : List (List AV)} (j : Nat) (h : rows = (rows.map Antiphonref09Buffer.dec).map Antiphonref09Buffer.enc) : nthL rows j [.lit (.int .i64 0), .lit (.int .i64 0), .lit (.bool false), .lit (.int .i64 0), .sl [] .no, .lit (.int .i64 0)] = (nthI (rows.map Antiphonref09Buffer.dec) (j : Int)).enc := nth_rowsk (f := Antiphonref09Buffer.enc) rfl h j

structure FrameConfig where
  fVideo : Bool
  fBytes : Int
  fUnits : Int
  fWait : Int
instance : Inhabited FrameConfig := ⟨FrameConfig.mk false 0 0 0⟩
@[simp] def FrameConfig.enc (x : FrameConfig) : List AV := [.lit (.bool x.fVideo), .lit (.int .i64 x.fBytes), .lit (.int .i64 x.fUnits), .lit (.int .i64 x.fWait)]
@[simp] def FrameConfig.dec : List AV → FrameConfig
  | [.lit (.bool a0), .lit (.int .i64 a1), .lit (.int .i64 a2), .lit (.int .i64 a3)] => (FrameConfig.mk a0 a1 a2 a3)
  | _ => default
@[simp] theorem FrameConfig.eta (x : FrameConfig) : FrameConfig.mk x.fVideo x.fBytes x.fUnits x.fWait = x := by cases x; rfl
theorem FrameConfig.dec_enc (x : FrameConfig) : FrameConfig.dec x.enc = x := by simp
@[simp] theorem FrameConfig.comp : FrameConfig.dec ∘ FrameConfig.enc = id := funext FrameConfig.dec_enc
@[simp] theorem FrameConfig.comp2 : (FrameConfig.enc ∘ FrameConfig.dec) ∘ FrameConfig.enc = FrameConfig.enc := funext fun x => by simp [Function.comp]
@[simp low] theorem FrameConfig.nthk {rows : List (List AV)} (j : Nat) (h : rows = (rows.map FrameConfig.dec).map FrameConfig.enc) : nthL rows j [.lit (.bool false), .lit (.int .i64 0), .lit (.int .i64 0), .lit (.int .i64 0)] = (nthI (rows.map FrameConfig.dec) (j : Int)).enc := nth_rowsk (f := FrameConfig.enc) rfl h j

structure Antiphonref10Unit where
  fAt : Int
  fTime : Int
  fMarker : Bool
  fStart : Bool
  fKey : Bool
  fText : ByteArray
  fTick : Int
instance : Inhabited Antiphonref10Unit := ⟨Antiphonref10Unit.mk 0 0 false false false ⟨⟨[]⟩⟩ 0⟩
@[simp] def Antiphonref10Unit.enc (x : Antiphonref10Unit) : List AV := [.lit (.int .i64 x.fAt), .lit (.int .i64 x.fTime), .lit (.bool x.fMarker), .lit (.bool x.fStart), .lit (.bool x.fKey), .lit (.string x.fText), .lit (.int .i64 x.fTick)]
@[simp] def Antiphonref10Unit.dec : List AV → Antiphonref10Unit
  | [.lit (.int .i64 a0), .lit (.int .i64 a1), .lit (.bool a2), .lit (.bool a3), .lit (.bool a4), .lit (.string a5), .lit (.int .i64 a6)] => (Antiphonref10Unit.mk a0 a1 a2 a3 a4 a5 a6)
  | _ => default
@[simp] theorem Antiphonref10Unit.eta (x : Antiphonref10Unit) : Antiphonref10Unit.mk x.fAt x.fTime x.fMarker x.fStart x.fKey x.fText x.fTick = x := by cases x; rfl
theorem Antiphonref10Unit.dec_enc (x : Antiphonref10Unit) : Antiphonref10Unit.dec x.enc = x := by simp
@[simp] theorem Antiphonref10Unit.comp : Antiphonref10Unit.dec ∘ Antiphonref10Unit.enc = id := funext Antiphonref10Unit.dec_enc
@[simp] theorem Antiphonref10Unit.comp2 : (Antiphonref10Unit.enc ∘ Antiphonref10Unit.dec) ∘ Antiphonref10Unit.enc = Antiphonref10Unit.enc := funext fun x => by simp [Function.comp]
@[simp] theorem Antiphonref10Unit.bel (l : List Antiphonref10Unit) (n : Nat) : belLL n (l.map Antiphonref10Unit.enc) := bel_map (fun x => by simp) l
@[simp] theorem Antiphonref10Unit.ren (σ : Nat → Nat) (l : List Antiphonref10Unit) : renLL σ (l.map Antiphonref10Unit.enc) = l.map Antiphonref10Unit.enc := ren_map (fun x => by simp) l
@[simp] theorem Antiphonref10Unit.nth {rows : List (List AV)} (n : Int) (h : rows = (rows.map Antiphonref10Unit.dec).map Antiphonref10Unit.enc) : nthL rows n.toNat [.lit (.int .i64 0), .lit (.int .i64 0), .lit (.bool false), .lit (.bool false), .lit (.bool false), .lit (.string ⟨⟨[]⟩⟩), .lit (.int .i64 0)] = (nthI (rows.map Antiphonref10Unit.dec) n).enc := nth_rows (f := Antiphonref10Unit.enc) rfl h n
@[simp low] theorem Antiphonref10Unit.nthk {rows : List (List AV)} (j : Nat) (h : rows = (rows.map Antiphonref10Unit.dec).map Antiphonref10Unit.enc) : nthL rows j [.lit (.int .i64 0), .lit (.int .i64 0), .lit (.bool false), .lit (.bool false), .lit (.bool false), .lit (.string ⟨⟨[]⟩⟩), .lit (.int .i64 0)] = (nthI (rows.map Antiphonref10Unit.dec) (j : Int)).enc := nth_rowsk (f := Antiphonref10Unit.enc) rfl h j

structure FrameFrame where
  fUnits : List Antiphonref10Unit
instance : Inhabited FrameFrame := ⟨FrameFrame.mk []⟩
@[simp] def FrameFrame.enc (x : FrameFrame) : List AV := [.sl (x.fUnits.map Antiphonref10Unit.enc) .no]
@[simp] def FrameFrame.dec : List AV → FrameFrame
  | [.sl a0 _] => (FrameFrame.mk (a0.map Antiphonref10Unit.dec))
  | _ => default
@[simp] theorem FrameFrame.eta (x : FrameFrame) : FrameFrame.mk x.fUnits = x := by cases x; rfl
theorem FrameFrame.dec_enc (x : FrameFrame) : FrameFrame.dec x.enc = x := by simp
@[simp] theorem FrameFrame.comp : FrameFrame.dec ∘ FrameFrame.enc = id := funext FrameFrame.dec_enc
@[simp] theorem FrameFrame.comp2 : (FrameFrame.enc ∘ FrameFrame.dec) ∘ FrameFrame.enc = FrameFrame.enc := funext fun x => by simp [Function.comp]
@[simp] theorem FrameFrame.bel (l : List FrameFrame) (n : Nat) : belLL n (l.map FrameFrame.enc) := bel_map (fun x => by simp) l
@[simp] theorem FrameFrame.ren (σ : Nat → Nat) (l : List FrameFrame) : renLL σ (l.map FrameFrame.enc) = l.map FrameFrame.enc := ren_map (fun x => by simp) l
@[simp] theorem FrameFrame.nth {rows : List (List AV)} (n : Int) (h : rows = (rows.map FrameFrame.dec).map FrameFrame.enc) : nthL rows n.toNat [.sl [] .no] = (nthI (rows.map FrameFrame.dec) n).enc := nth_rows (f := FrameFrame.enc) rfl h n
@[simp low] theorem FrameFrame.nthk {rows : List (List AV)} (j : Nat) (h : rows = (rows.map FrameFrame.dec).map FrameFrame.enc) : nthL rows j [.sl [] .no] = (nthI (rows.map FrameFrame.dec) (j : Int)).enc := nth_rowsk (f := FrameFrame.enc) rfl h j

structure FrameMaker where
  fConfig : FrameConfig
  fOpen : FrameFrame
  fWhole : Int
  fLost : Int
instance : Inhabited FrameMaker := ⟨FrameMaker.mk (FrameConfig.mk false 0 0 0) (FrameFrame.mk []) 0 0⟩
@[simp] def FrameMaker.enc (x : FrameMaker) : List AV := [.lit (.bool x.fConfig.fVideo), .lit (.int .i64 x.fConfig.fBytes), .lit (.int .i64 x.fConfig.fUnits), .lit (.int .i64 x.fConfig.fWait), .sl (x.fOpen.fUnits.map Antiphonref10Unit.enc) .no, .lit (.int .i64 x.fWhole), .lit (.int .i64 x.fLost)]
@[simp] def FrameMaker.dec : List AV → FrameMaker
  | [.lit (.bool a0), .lit (.int .i64 a1), .lit (.int .i64 a2), .lit (.int .i64 a3), .sl a4 _, .lit (.int .i64 a5), .lit (.int .i64 a6)] => (FrameMaker.mk (FrameConfig.mk a0 a1 a2 a3) (FrameFrame.mk (a4.map Antiphonref10Unit.dec)) a5 a6)
  | _ => default
@[simp] theorem FrameMaker.eta (x : FrameMaker) : FrameMaker.mk x.fConfig x.fOpen x.fWhole x.fLost = x := by cases x; rfl
theorem FrameMaker.dec_enc (x : FrameMaker) : FrameMaker.dec x.enc = x := by simp
@[simp] theorem FrameMaker.comp : FrameMaker.dec ∘ FrameMaker.enc = id := funext FrameMaker.dec_enc
@[simp] theorem FrameMaker.comp2 : (FrameMaker.enc ∘ FrameMaker.dec) ∘ FrameMaker.enc = FrameMaker.enc := funext fun x => by simp [Function.comp]
@[simp low] theorem FrameMaker.nthk {rows : List (List AV)} (j : Nat) (h : rows = (rows.map FrameMaker.dec).map FrameMaker.enc) : nthL rows j [.lit (.bool false), .lit (.int .i64 0), .lit (.int .i64 0), .lit (.int .i64 0), .sl [] .no, .lit (.int .i64 0), .lit (.int .i64 0)] = (nthI (rows.map FrameMaker.dec) (j : Int)).enc := nth_rowsk (f := FrameMaker.enc) rfl h j

structure Antiphonref10Maker where
  fVideo : Bool
  fBytes : Int
  fUnits : Int
  fWait : Int
  fOpen : List Antiphonref10Unit
  fWhole : Int
  fLost : Int
instance : Inhabited Antiphonref10Maker := ⟨Antiphonref10Maker.mk false 0 0 0 [] 0 0⟩
@[simp] def Antiphonref10Maker.enc (x : Antiphonref10Maker) : List AV := [.lit (.bool x.fVideo), .lit (.int .i64 x.fBytes), .lit (.int .i64 x.fUnits), .lit (.int .i64 x.fWait), .sl (x.fOpen.map Antiphonref10Unit.enc) .no, .lit (.int .i64 x.fWhole), .lit (.int .i64 x.fLost)]
@[simp] def Antiphonref10Maker.dec : List AV → Antiphonref10Maker
  | [.lit (.bool a0), .lit (.int .i64 a1), .lit (.int .i64 a2), .lit (.int .i64 a3), .sl a4 _, .lit (.int .i64 a5), .lit (.int .i64 a6)] => (Antiphonref10Maker.mk a0 a1 a2 a3 (a4.map Antiphonref10Unit.dec) a5 a6)
  | _ => default
@[simp] theorem Antiphonref10Maker.eta (x : Antiphonref10Maker) : Antiphonref10Maker.mk x.fVideo x.fBytes x.fUnits x.fWait x.fOpen x.fWhole x.fLost = x := by cases x; rfl
theorem Antiphonref10Maker.dec_enc (x : Antiphonref10Maker) : Antiphonref10Maker.dec x.enc = x := by simp
@[simp] theorem Antiphonref10Maker.comp : Antiphonref10Maker.dec ∘ Antiphonref10Maker.enc = id := funext Antiphonref10Maker.dec_enc
@[simp] theorem Antiphonref10Maker.comp2 : (Antiphonref10Maker.enc ∘ Antiphonref10Maker.dec) ∘ Antiphonref10Maker.enc = Antiphonref10Maker.enc := funext fun x => by simp [Function.comp]
@[simp low] theorem Antiphonref10Maker.nthk {rows : List (List AV)} (j : Nat) (h : rows = (rows.map Antiphonref10Maker.dec).map Antiphonref10Maker.enc) : nthL rows j [.lit (.bool false), .lit (.int .i64 0), .lit (.int .i64 0), .lit (.int .i64 0), .sl [] .no, .lit (.int .i64 0), .lit (.int .i64 0)] = (nthI (rows.map Antiphonref10Maker.dec) (j : Int)).enc := nth_rowsk (f := Antiphonref10Maker.enc) rfl h j

structure OctetReader where
  fS : ByteArray
  fE : Int
instance : Inhabited OctetReader := ⟨OctetReader.mk ⟨⟨[]⟩⟩ 0⟩
@[simp] def OctetReader.enc (x : OctetReader) : List AV := [.lit (.string x.fS), .lit (.int .i64 x.fE)]
@[simp] def OctetReader.dec : List AV → OctetReader
  | [.lit (.string a0), .lit (.int .i64 a1)] => (OctetReader.mk a0 a1)
  | _ => default
@[simp] theorem OctetReader.eta (x : OctetReader) : OctetReader.mk x.fS x.fE = x := by cases x; rfl
theorem OctetReader.dec_enc (x : OctetReader) : OctetReader.dec x.enc = x := by simp
@[simp] theorem OctetReader.comp : OctetReader.dec ∘ OctetReader.enc = id := funext OctetReader.dec_enc
@[simp] theorem OctetReader.comp2 : (OctetReader.enc ∘ OctetReader.dec) ∘ OctetReader.enc = OctetReader.enc := funext fun x => by simp [Function.comp]
@[simp low] theorem OctetReader.nthk {rows : List (List AV)} (j : Nat) (h : rows = (rows.map OctetReader.dec).map OctetReader.enc) : nthL rows j [.lit (.string ⟨⟨[]⟩⟩), .lit (.int .i64 0)] = (nthI (rows.map OctetReader.dec) (j : Int)).enc := nth_rowsk (f := OctetReader.enc) rfl h j

structure Antiphonref04Desc where
  fNonRef : Bool
  fStart : Bool
  fPart : Int
  fPicture : Int
  fWide : Bool
  fLevel : Int
  fLayer : Int
  fSync : Bool
  fKey : Int
instance : Inhabited Antiphonref04Desc := ⟨Antiphonref04Desc.mk false false 0 0 false 0 0 false 0⟩
@[simp] def Antiphonref04Desc.enc (x : Antiphonref04Desc) : List AV := [.lit (.bool x.fNonRef), .lit (.bool x.fStart), .lit (.int .i64 x.fPart), .lit (.int .i64 x.fPicture), .lit (.bool x.fWide), .lit (.int .i64 x.fLevel), .lit (.int .i64 x.fLayer), .lit (.bool x.fSync), .lit (.int .i64 x.fKey)]
@[simp] def Antiphonref04Desc.dec : List AV → Antiphonref04Desc
  | [.lit (.bool a0), .lit (.bool a1), .lit (.int .i64 a2), .lit (.int .i64 a3), .lit (.bool a4), .lit (.int .i64 a5), .lit (.int .i64 a6), .lit (.bool a7), .lit (.int .i64 a8)] => (Antiphonref04Desc.mk a0 a1 a2 a3 a4 a5 a6 a7 a8)
  | _ => default
@[simp] theorem Antiphonref04Desc.eta (x : Antiphonref04Desc) : Antiphonref04Desc.mk x.fNonRef x.fStart x.fPart x.fPicture x.fWide x.fLevel x.fLayer x.fSync x.fKey = x := by cases x; rfl
theorem Antiphonref04Desc.dec_enc (x : Antiphonref04Desc) : Antiphonref04Desc.dec x.enc = x := by simp
@[simp] theorem Antiphonref04Desc.comp : Antiphonref04Desc.dec ∘ Antiphonref04Desc.enc = id := funext Antiphonref04Desc.dec_enc
@[simp] theorem Antiphonref04Desc.comp2 : (Antiphonref04Desc.enc ∘ Antiphonref04Desc.dec) ∘ Antiphonref04Desc.enc = Antiphonref04Desc.enc := funext fun x => by simp [Function.comp]
@[simp low] theorem Antiphonref04Desc.nthk {rows : List (List AV)} (j : Nat) (h : rows = (rows.map Antiphonref04Desc.dec).map Antiphonref04Desc.enc) : nthL rows j [.lit (.bool false), .lit (.bool false), .lit (.int .i64 0), .lit (.int .i64 0), .lit (.bool false), .lit (.int .i64 0), .lit (.int .i64 0), .lit (.bool false), .lit (.int .i64 0)] = (nthI (rows.map Antiphonref04Desc.dec) (j : Int)).enc := nth_rowsk (f := Antiphonref04Desc.enc) rfl h j

structure Antiphonref02Reader where
  fS : ByteArray
  fE : Int
instance : Inhabited Antiphonref02Reader := ⟨Antiphonref02Reader.mk ⟨⟨[]⟩⟩ 0⟩
@[simp] def Antiphonref02Reader.enc (x : Antiphonref02Reader) : List AV := [.lit (.string x.fS), .lit (.int .i64 x.fE)]
@[simp] def Antiphonref02Reader.dec : List AV → Antiphonref02Reader
  | [.lit (.string a0), .lit (.int .i64 a1)] => (Antiphonref02Reader.mk a0 a1)
  | _ => default
@[simp] theorem Antiphonref02Reader.eta (x : Antiphonref02Reader) : Antiphonref02Reader.mk x.fS x.fE = x := by cases x; rfl
theorem Antiphonref02Reader.dec_enc (x : Antiphonref02Reader) : Antiphonref02Reader.dec x.enc = x := by simp
@[simp] theorem Antiphonref02Reader.comp : Antiphonref02Reader.dec ∘ Antiphonref02Reader.enc = id := funext Antiphonref02Reader.dec_enc
@[simp] theorem Antiphonref02Reader.comp2 : (Antiphonref02Reader.enc ∘ Antiphonref02Reader.dec) ∘ Antiphonref02Reader.enc = Antiphonref02Reader.enc := funext fun x => by simp [Function.comp]
@[simp low] theorem Antiphonref02Reader.nthk {rows : List (List AV)} (j : Nat) (h : rows = (rows.map Antiphonref02Reader.dec).map Antiphonref02Reader.enc) : nthL rows j [.lit (.string ⟨⟨[]⟩⟩), .lit (.int .i64 0)] = (nthI (rows.map Antiphonref02Reader.dec) (j : Int)).enc := nth_rowsk (f := Antiphonref02Reader.enc) rfl h j

structure ExtendSeq where
  fBegun : Bool
  fMost : Int
  fOdd : Int
  fRun : Int
  fJumps : Int
instance : Inhabited ExtendSeq := ⟨ExtendSeq.mk false 0 0 0 0⟩
@[simp] def ExtendSeq.enc (x : ExtendSeq) : List AV := [.lit (.bool x.fBegun), .lit (.int .i64 x.fMost), .lit (.int .u16 x.fOdd), .lit (.int .i64 x.fRun), .lit (.int .i64 x.fJumps)]
@[simp] def ExtendSeq.dec : List AV → ExtendSeq
  | [.lit (.bool a0), .lit (.int .i64 a1), .lit (.int .u16 a2), .lit (.int .i64 a3), .lit (.int .i64 a4)] => (ExtendSeq.mk a0 a1 a2 a3 a4)
  | _ => default
@[simp] theorem ExtendSeq.eta (x : ExtendSeq) : ExtendSeq.mk x.fBegun x.fMost x.fOdd x.fRun x.fJumps = x := by cases x; rfl
theorem ExtendSeq.dec_enc (x : ExtendSeq) : ExtendSeq.dec x.enc = x := by simp
@[simp] theorem ExtendSeq.comp : ExtendSeq.dec ∘ ExtendSeq.enc = id := funext ExtendSeq.dec_enc
@[simp] theorem ExtendSeq.comp2 : (ExtendSeq.enc ∘ ExtendSeq.dec) ∘ ExtendSeq.enc = ExtendSeq.enc := funext fun x => by simp [Function.comp]
@[simp low] theorem ExtendSeq.nthk {rows : List (List AV)} (j : Nat) (h : rows = (rows.map ExtendSeq.dec).map ExtendSeq.enc) : nthL rows j [.lit (.bool false), .lit (.int .i64 0), .lit (.int .u16 0), .lit (.int .i64 0), .lit (.int .i64 0)] = (nthI (rows.map ExtendSeq.dec) (j : Int)).enc := nth_rowsk (f := ExtendSeq.enc) rfl h j

structure ExtendClock where
  fBegun : Bool
  fLast : Int
instance : Inhabited ExtendClock := ⟨ExtendClock.mk false 0⟩
@[simp] def ExtendClock.enc (x : ExtendClock) : List AV := [.lit (.bool x.fBegun), .lit (.int .i64 x.fLast)]
@[simp] def ExtendClock.dec : List AV → ExtendClock
  | [.lit (.bool a0), .lit (.int .i64 a1)] => (ExtendClock.mk a0 a1)
  | _ => default
@[simp] theorem ExtendClock.eta (x : ExtendClock) : ExtendClock.mk x.fBegun x.fLast = x := by cases x; rfl
theorem ExtendClock.dec_enc (x : ExtendClock) : ExtendClock.dec x.enc = x := by simp
@[simp] theorem ExtendClock.comp : ExtendClock.dec ∘ ExtendClock.enc = id := funext ExtendClock.dec_enc
@[simp] theorem ExtendClock.comp2 : (ExtendClock.enc ∘ ExtendClock.dec) ∘ ExtendClock.enc = ExtendClock.enc := funext fun x => by simp [Function.comp]
@[simp low] theorem ExtendClock.nthk {rows : List (List AV)} (j : Nat) (h : rows = (rows.map ExtendClock.dec).map ExtendClock.enc) : nthL rows j [.lit (.bool false), .lit (.int .i64 0)] = (nthI (rows.map ExtendClock.dec) (j : Int)).enc := nth_rowsk (f := ExtendClock.enc) rfl h j

structure Antiphonref03Packet where
  fMarker : Bool
  fType : Int
  fSeq : Int
  fTime : Int
  fSsrc : Int
  fCsrcs : List Int
  fExt : Bool
  fProfile : Int
  fData : ByteArray
  fPayload : ByteArray
  fPadding : Int
instance : Inhabited Antiphonref03Packet := ⟨Antiphonref03Packet.mk false 0 0 0 0 [] false 0 ⟨⟨[]⟩⟩ ⟨⟨[]⟩⟩ 0⟩
@[simp] def Antiphonref03Packet.enc (x : Antiphonref03Packet) : List AV := [.lit (.bool x.fMarker), .lit (.int .u8 x.fType), .lit (.int .u16 x.fSeq), .lit (.int .u32 x.fTime), .lit (.int .u32 x.fSsrc), .sl (x.fCsrcs.map (eNum .u32)) .no, .lit (.bool x.fExt), .lit (.int .u16 x.fProfile), .lit (.string x.fData), .lit (.string x.fPayload), .lit (.int .i64 x.fPadding)]
@[simp] def Antiphonref03Packet.dec : List AV → Antiphonref03Packet
  | [.lit (.bool a0), .lit (.int .u8 a1), .lit (.int .u16 a2), .lit (.int .u32 a3), .lit (.int .u32 a4), .sl a5 _, .lit (.bool a6), .lit (.int .u16 a7), .lit (.string a8), .lit (.string a9), .lit (.int .i64 a10)] => (Antiphonref03Packet.mk a0 a1 a2 a3 a4 (a5.map decI) a6 a7 a8 a9 a10)
  | _ => default
@[simp] theorem Antiphonref03Packet.eta (x : Antiphonref03Packet) : Antiphonref03Packet.mk x.fMarker x.fType x.fSeq x.fTime x.fSsrc x.fCsrcs x.fExt x.fProfile x.fData x.fPayload x.fPadding = x := by cases x; rfl
theorem Antiphonref03Packet.dec_enc (x : Antiphonref03Packet) : Antiphonref03Packet.dec x.enc = x := by simp
@[simp] theorem Antiphonref03Packet.comp : Antiphonref03Packet.dec ∘ Antiphonref03Packet.enc = id := funext Antiphonref03Packet.dec_enc
@[simp] theorem Antiphonref03Packet.comp2 : (Antiphonref03Packet.enc ∘ Antiphonref03Packet.dec) ∘ Antiphonref03Packet.enc = Antiphonref03Packet.enc := funext fun x => by simp [Function.comp]
@[simp] theorem Antiphonref03Packet.bel (l : List Antiphonref03Packet) (n : Nat) : belLL n (l.map Antiphonref03Packet.enc) := bel_map (fun x => by simp) l
@[simp] theorem Antiphonref03Packet.ren (σ : Nat → Nat) (l : List Antiphonref03Packet) : renLL σ (l.map Antiphonref03Packet.enc) = l.map Antiphonref03Packet.enc := ren_map (fun x => by simp) l
@[simp] theorem Antiphonref03Packet.vren (σ : Nat → Nat) (x : Antiphonref03Packet) : (vA Antiphonref03Packet.enc x).ren σ = vA Antiphonref03Packet.enc x := vA_ren_eq (fun x => by simp) x
@[simp] theorem Antiphonref03Packet.mrenI (σ : Nat → Nat) (k : IntKind) (m : List (Int × Antiphonref03Packet)) : (AObj.mapo (encM (kI k) (vA Antiphonref03Packet.enc) m)).ren σ = .mapo (encM (kI k) (vA Antiphonref03Packet.enc) m) := encM_ren (fun _ => rfl) (Antiphonref03Packet.vren σ) m
@[simp] theorem Antiphonref03Packet.mbelI (n : Nat) (k : IntKind) (m : List (Int × Antiphonref03Packet)) : (AObj.mapo (encM (kI k) (vA Antiphonref03Packet.enc) m)).bel n ↔ True := encM_bel (fun _ => by simp) (fun x => by simp) m
@[simp] theorem Antiphonref03Packet.mdecI (k : IntKind) (m : List (Int × Antiphonref03Packet)) : decM dkI (dvA Antiphonref03Packet.dec) (encM (kI k) (vA Antiphonref03Packet.enc) m) = m := decM_encM (fun _ => rfl) (fun x => by simp) m
@[simp] theorem Antiphonref03Packet.getVI (k : IntKind) (x : Int) (m : List (Int × Antiphonref03Packet)) : getV (.int k x) (.agg [.lit (.bool false), .lit (.int .u8 0), .lit (.int .u16 0), .lit (.int .u32 0), .lit (.int .u32 0), .sl [] .no, .lit (.bool false), .lit (.int .u16 0), .lit (.string ⟨⟨[]⟩⟩), .lit (.string ⟨⟨[]⟩⟩), .lit (.int .i64 0)]) (encM (kI k) (vA Antiphonref03Packet.enc) m) = .agg (Antiphonref03Packet.enc (getM eqI x (Antiphonref03Packet.mk false 0 0 0 0 [] false 0 ⟨⟨[]⟩⟩ ⟨⟨[]⟩⟩ 0) m)) := getV_I (vE := vA Antiphonref03Packet.enc) (d := (Antiphonref03Packet.mk false 0 0 0 0 [] false 0 ⟨⟨[]⟩⟩ ⟨⟨[]⟩⟩ 0)) (by simp [vA]) x m
@[simp] theorem Antiphonref03Packet.setVI (k : IntKind) (x : Int) (l : List AV) (h : l = Antiphonref03Packet.enc (Antiphonref03Packet.dec l)) (m : List (Int × Antiphonref03Packet)) : setV (.int k x) (.agg l) (encM (kI k) (vA Antiphonref03Packet.enc) m) = encM (kI k) (vA Antiphonref03Packet.enc) (setM eqI x (Antiphonref03Packet.dec l) m) := setV_I (vE := vA Antiphonref03Packet.enc) (v := Antiphonref03Packet.dec l) (congrArg AV.agg h) x m
@[simp] theorem Antiphonref03Packet.nth {rows : List (List AV)} (n : Int) (h : rows = (rows.map Antiphonref03Packet.dec).map Antiphonref03Packet.enc) : nthL rows n.toNat [.lit (.bool false), .lit (.int .u8 0), .lit (.int .u16 0), .lit (.int .u32 0), .lit (.int .u32 0), .sl [] .no, .lit (.bool false), .lit (.int .u16 0), .lit (.string ⟨⟨[]⟩⟩), .lit (.string ⟨⟨[]⟩⟩), .lit (.int .i64 0)] = (nthI (rows.map Antiphonref03Packet.dec) n).enc := nth_rows (f := Antiphonref03Packet.enc) rfl h n
@[simp low] theorem Antiphonref03Packet.nthk {rows : List (List AV)} (j : Nat) (h : rows = (rows.map Antiphonref03Packet.dec).map Antiphonref03Packet.enc) : nthL rows j [.lit (.bool false), .lit (.int .u8 0), .lit (.int .u16 0), .lit (.int .u32 0), .lit (.int .u32 0), .sl [] .no, .lit (.bool false), .lit (.int .u16 0), .lit (.string ⟨⟨[]⟩⟩), .lit (.string ⟨⟨[]⟩⟩), .lit (.int .i64 0)] = (nthI (rows.map Antiphonref03Packet.dec) (j : Int)).enc := nth_rowsk (f := Antiphonref03Packet.enc) rfl h j

structure IngressSource where
  fBuffer : ReorderBuffer
  fMaker : FrameMaker
  fSeq : ExtendSeq
  fClock : ExtendClock
  fOf : List (Int × Antiphonref03Packet)
  fBad : Int
  fKeys : Int
instance : Inhabited IngressSource := ⟨IngressSource.mk (ReorderBuffer.mk (ReorderConfig.mk 0 0) false 0 [] 0) (FrameMaker.mk (FrameConfig.mk false 0 0 0) (FrameFrame.mk []) 0 0) (ExtendSeq.mk false 0 0 0 0) (ExtendClock.mk false 0) [] 0 0⟩
@[simp] def IngressSource.enc (x : IngressSource) (i0 : Nat) (i1 : Nat) (i2 : Nat) : List AV := [.ptr i0 0, .ptr i1 0, .lit (.bool x.fSeq.fBegun), .lit (.int .i64 x.fSeq.fMost), .lit (.int .u16 x.fSeq.fOdd), .lit (.int .i64 x.fSeq.fRun), .lit (.int .i64 x.fSeq.fJumps), .lit (.bool x.fClock.fBegun), .lit (.int .i64 x.fClock.fLast), .mp i2, .lit (.int .i64 x.fBad), .lit (.int .i64 x.fKeys)]
@[simp] def IngressSource.dec : List AV → ReorderBuffer → FrameMaker → (List (Int × Antiphonref03Packet)) → IngressSource
  | [.ptr _ _, .ptr _ _, .lit (.bool a2), .lit (.int .i64 a3), .lit (.int .u16 a4), .lit (.int .i64 a5), .lit (.int .i64 a6), .lit (.bool a7), .lit (.int .i64 a8), .mp _, .lit (.int .i64 a10), .lit (.int .i64 a11)], a0, a1, a9 => (IngressSource.mk a0 a1 (ExtendSeq.mk a2 a3 a4 a5 a6) (ExtendClock.mk a7 a8) a9 a10 a11)
  | _, _, _, _ => default
@[simp] theorem IngressSource.eta (x : IngressSource) : IngressSource.mk x.fBuffer x.fMaker x.fSeq x.fClock x.fOf x.fBad x.fKeys = x := by cases x; rfl

structure Antiphonref08Seq where
  fBegun : Bool
  fMost : Int
  fAwait : Int
  fRun : Int
  fJumps : Int
instance : Inhabited Antiphonref08Seq := ⟨Antiphonref08Seq.mk false 0 0 0 0⟩
@[simp] def Antiphonref08Seq.enc (x : Antiphonref08Seq) : List AV := [.lit (.bool x.fBegun), .lit (.int .i64 x.fMost), .lit (.int .i64 x.fAwait), .lit (.int .i64 x.fRun), .lit (.int .i64 x.fJumps)]
@[simp] def Antiphonref08Seq.dec : List AV → Antiphonref08Seq
  | [.lit (.bool a0), .lit (.int .i64 a1), .lit (.int .i64 a2), .lit (.int .i64 a3), .lit (.int .i64 a4)] => (Antiphonref08Seq.mk a0 a1 a2 a3 a4)
  | _ => default
@[simp] theorem Antiphonref08Seq.eta (x : Antiphonref08Seq) : Antiphonref08Seq.mk x.fBegun x.fMost x.fAwait x.fRun x.fJumps = x := by cases x; rfl
theorem Antiphonref08Seq.dec_enc (x : Antiphonref08Seq) : Antiphonref08Seq.dec x.enc = x := by simp
@[simp] theorem Antiphonref08Seq.comp : Antiphonref08Seq.dec ∘ Antiphonref08Seq.enc = id := funext Antiphonref08Seq.dec_enc
@[simp] theorem Antiphonref08Seq.comp2 : (Antiphonref08Seq.enc ∘ Antiphonref08Seq.dec) ∘ Antiphonref08Seq.enc = Antiphonref08Seq.enc := funext fun x => by simp [Function.comp]
@[simp low] theorem Antiphonref08Seq.nthk {rows : List (List AV)} (j : Nat) (h : rows = (rows.map Antiphonref08Seq.dec).map Antiphonref08Seq.enc) : nthL rows j [.lit (.bool false), .lit (.int .i64 0), .lit (.int .i64 0), .lit (.int .i64 0), .lit (.int .i64 0)] = (nthI (rows.map Antiphonref08Seq.dec) (j : Int)).enc := nth_rowsk (f := Antiphonref08Seq.enc) rfl h j

structure IngressConfig where
  fOrder : ReorderConfig
  fFrame : FrameConfig
instance : Inhabited IngressConfig := ⟨IngressConfig.mk (ReorderConfig.mk 0 0) (FrameConfig.mk false 0 0 0)⟩
@[simp] def IngressConfig.enc (x : IngressConfig) : List AV := [.lit (.int .i64 x.fOrder.fMost), .lit (.int .i64 x.fOrder.fWait), .lit (.bool x.fFrame.fVideo), .lit (.int .i64 x.fFrame.fBytes), .lit (.int .i64 x.fFrame.fUnits), .lit (.int .i64 x.fFrame.fWait)]
@[simp] def IngressConfig.dec : List AV → IngressConfig
  | [.lit (.int .i64 a0), .lit (.int .i64 a1), .lit (.bool a2), .lit (.int .i64 a3), .lit (.int .i64 a4), .lit (.int .i64 a5)] => (IngressConfig.mk (ReorderConfig.mk a0 a1) (FrameConfig.mk a2 a3 a4 a5))
  | _ => default
@[simp] theorem IngressConfig.eta (x : IngressConfig) : IngressConfig.mk x.fOrder x.fFrame = x := by cases x; rfl
theorem IngressConfig.dec_enc (x : IngressConfig) : IngressConfig.dec x.enc = x := by simp
@[simp] theorem IngressConfig.comp : IngressConfig.dec ∘ IngressConfig.enc = id := funext IngressConfig.dec_enc
@[simp] theorem IngressConfig.comp2 : (IngressConfig.enc ∘ IngressConfig.dec) ∘ IngressConfig.enc = IngressConfig.enc := funext fun x => by simp [Function.comp]
@[simp low] theorem IngressConfig.nthk {rows : List (List AV)} (j : Nat) (h : rows = (rows.map IngressConfig.dec).map IngressConfig.enc) : nthL rows j [.lit (.int .i64 0), .lit (.int .i64 0), .lit (.bool false), .lit (.int .i64 0), .lit (.int .i64 0), .lit (.int .i64 0)] = (nthI (rows.map IngressConfig.dec) (j : Int)).enc := nth_rowsk (f := IngressConfig.enc) rfl h j

structure Antiphonref11Came where
  fAt : Int
  fP : Antiphonref03Packet
instance : Inhabited Antiphonref11Came := ⟨Antiphonref11Came.mk 0 (Antiphonref03Packet.mk false 0 0 0 0 [] false 0 ⟨⟨[]⟩⟩ ⟨⟨[]⟩⟩ 0)⟩
@[simp] def Antiphonref11Came.enc (x : Antiphonref11Came) : List AV := [.lit (.int .i64 x.fAt), .lit (.bool x.fP.fMarker), .lit (.int .u8 x.fP.fType), .lit (.int .u16 x.fP.fSeq), .lit (.int .u32 x.fP.fTime), .lit (.int .u32 x.fP.fSsrc), .sl (x.fP.fCsrcs.map (eNum .u32)) .no, .lit (.bool x.fP.fExt), .lit (.int .u16 x.fP.fProfile), .lit (.string x.fP.fData), .lit (.string x.fP.fPayload), .lit (.int .i64 x.fP.fPadding)]
@[simp] def Antiphonref11Came.dec : List AV → Antiphonref11Came
  | [.lit (.int .i64 a0), .lit (.bool a1), .lit (.int .u8 a2), .lit (.int .u16 a3), .lit (.int .u32 a4), .lit (.int .u32 a5), .sl a6 _, .lit (.bool a7), .lit (.int .u16 a8), .lit (.string a9), .lit (.string a10), .lit (.int .i64 a11)] => (Antiphonref11Came.mk a0 (Antiphonref03Packet.mk a1 a2 a3 a4 a5 (a6.map decI) a7 a8 a9 a10 a11))
  | _ => default
@[simp] theorem Antiphonref11Came.eta (x : Antiphonref11Came) : Antiphonref11Came.mk x.fAt x.fP = x := by cases x; rfl
theorem Antiphonref11Came.dec_enc (x : Antiphonref11Came) : Antiphonref11Came.dec x.enc = x := by simp
@[simp] theorem Antiphonref11Came.comp : Antiphonref11Came.dec ∘ Antiphonref11Came.enc = id := funext Antiphonref11Came.dec_enc
@[simp] theorem Antiphonref11Came.comp2 : (Antiphonref11Came.enc ∘ Antiphonref11Came.dec) ∘ Antiphonref11Came.enc = Antiphonref11Came.enc := funext fun x => by simp [Function.comp]
@[simp] theorem Antiphonref11Came.bel (l : List Antiphonref11Came) (n : Nat) : belLL n (l.map Antiphonref11Came.enc) := bel_map (fun x => by simp) l
@[simp] theorem Antiphonref11Came.ren (σ : Nat → Nat) (l : List Antiphonref11Came) : renLL σ (l.map Antiphonref11Came.enc) = l.map Antiphonref11Came.enc := ren_map (fun x => by simp) l
@[simp low] theorem Antiphonref11Came.nthk {rows : List (List AV)} (j : Nat) (h : rows = (rows.map Antiphonref11Came.dec).map Antiphonref11Came.enc) : nthL rows j [.lit (.int .i64 0), .lit (.bool false), .lit (.int .u8 0), .lit (.int .u16 0), .lit (.int .u32 0), .lit (.int .u32 0), .sl [] .no, .lit (.bool false), .lit (.int .u16 0), .lit (.string ⟨⟨[]⟩⟩), .lit (.string ⟨⟨[]⟩⟩), .lit (.int .i64 0)] = (nthI (rows.map Antiphonref11Came.dec) (j : Int)).enc := nth_rowsk (f := Antiphonref11Came.enc) rfl h j

structure Antiphonref11Source where
  fSeq : Antiphonref08Seq
  fClock : Int
  fOrder : Antiphonref09Buffer
  fMaker : Antiphonref10Maker
  fL : List Antiphonref11Came
  fBad : Int
  fKeys : Int
instance : Inhabited Antiphonref11Source := ⟨Antiphonref11Source.mk (Antiphonref08Seq.mk false 0 0 0 0) 0 (Antiphonref09Buffer.mk 0 0 false 0 [] 0) (Antiphonref10Maker.mk false 0 0 0 [] 0 0) [] 0 0⟩
@[simp] def Antiphonref11Source.enc (x : Antiphonref11Source) : List AV := [.lit (.bool x.fSeq.fBegun), .lit (.int .i64 x.fSeq.fMost), .lit (.int .i64 x.fSeq.fAwait), .lit (.int .i64 x.fSeq.fRun), .lit (.int .i64 x.fSeq.fJumps), .lit (.int .i64 x.fClock), .lit (.int .i64 x.fOrder.fMost), .lit (.int .i64 x.fOrder.fWait), .lit (.bool x.fOrder.fBegun), .lit (.int .i64 x.fOrder.fNext), .sl (x.fOrder.fL.map Antiphonref09Thing.enc) .no, .lit (.int .i64 x.fOrder.fLost), .lit (.bool x.fMaker.fVideo), .lit (.int .i64 x.fMaker.fBytes), .lit (.int .i64 x.fMaker.fUnits), .lit (.int .i64 x.fMaker.fWait), .sl (x.fMaker.fOpen.map Antiphonref10Unit.enc) .no, .lit (.int .i64 x.fMaker.fWhole), .lit (.int .i64 x.fMaker.fLost), .sl (x.fL.map Antiphonref11Came.enc) .no, .lit (.int .i64 x.fBad), .lit (.int .i64 x.fKeys)]
@[simp] def Antiphonref11Source.dec : List AV → Antiphonref11Source
  | [.lit (.bool a0), .lit (.int .i64 a1), .lit (.int .i64 a2), .lit (.int .i64 a3), .lit (.int .i64 a4), .lit (.int .i64 a5), .lit (.int .i64 a6), .lit (.int .i64 a7), .lit (.bool a8), .lit (.int .i64 a9), .sl a10 _, .lit (.int .i64 a11), .lit (.bool a12), .lit (.int .i64 a13), .lit (.int .i64 a14), .lit (.int .i64 a15), .sl a16 _, .lit (.int .i64 a17), .lit (.int .i64 a18), .sl a19 _, .lit (.int .i64 a20), .lit (.int .i64 a21)] => (Antiphonref11Source.mk (Antiphonref08Seq.mk a0 a1 a2 a3 a4) a5 (Antiphonref09Buffer.mk a6 a7 a8 a9 (a10.map Antiphonref09Thing.dec) a11) (Antiphonref10Maker.mk a12 a13 a14 a15 (a16.map Antiphonref10Unit.dec) a17 a18) (a19.map Antiphonref11Came.dec) a20 a21)
  | _ => default
@[simp] theorem Antiphonref11Source.eta (x : Antiphonref11Source) : Antiphonref11Source.mk x.fSeq x.fClock x.fOrder x.fMaker x.fL x.fBad x.fKeys = x := by cases x; rfl
theorem Antiphonref11Source.dec_enc (x : Antiphonref11Source) : Antiphonref11Source.dec x.enc = x := by simp
@[simp] theorem Antiphonref11Source.comp : Antiphonref11Source.dec ∘ Antiphonref11Source.enc = id := funext Antiphonref11Source.dec_enc
@[simp] theorem Antiphonref11Source.comp2 : (Antiphonref11Source.enc ∘ Antiphonref11Source.dec) ∘ Antiphonref11Source.enc = Antiphonref11Source.enc := funext fun x => by simp [Function.comp]
@[simp low] theorem Antiphonref11Source.nthk {rows : List (List AV)} (j : Nat) (h : rows = (rows.map Antiphonref11Source.dec).map Antiphonref11Source.enc) : nthL rows j [.lit (.bool false), .lit (.int .i64 0), .lit (.int .i64 0), .lit (.int .i64 0), .lit (.int .i64 0), .lit (.int .i64 0), .lit (.int .i64 0), .lit (.int .i64 0), .lit (.bool false), .lit (.int .i64 0), .sl [] .no, .lit (.int .i64 0), .lit (.bool false), .lit (.int .i64 0), .lit (.int .i64 0), .lit (.int .i64 0), .sl [] .no, .lit (.int .i64 0), .lit (.int .i64 0), .sl [] .no, .lit (.int .i64 0), .lit (.int .i64 0)] = (nthI (rows.map Antiphonref11Source.dec) (j : Int)).enc := nth_rowsk (f := Antiphonref11Source.enc) rfl h j
end Go.Ab
