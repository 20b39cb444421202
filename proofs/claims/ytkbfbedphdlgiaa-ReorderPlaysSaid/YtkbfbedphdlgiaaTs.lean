/- The types of these functions. No condition. -/
import Derived.Test.YtkbfbedphdlgiaaAb9
namespace Go.Ab

structure ReorderConfig where
  fMost : Int
  fWait : Int
instance : Inhabited ReorderConfig := ⟨ReorderConfig.mk 0 0⟩
@[simp] def ReorderConfig.enc (x : ReorderConfig) : List AV := [.lit (.int .i64 x.fMost), .lit (.int .i64 x.fWait)]
@[simp] def ReorderConfig.dec : List AV → ReorderConfig
  | [.lit (.int .i64 a0), .lit (.int .i64 a1)] => (ReorderConfig.mk a0 a1)
  | _ => default
@[simp] theorem ReorderConfig.eta (x : ReorderConfig) : ReorderConfig.mk x.fMost x.fWait = x := by cases x; rfl
theorem ReorderConfig.dec_enc (x : ReorderConfig) : ReorderConfig.dec x.enc = x := by simp
@[simp] theorem ReorderConfig.comp : ReorderConfig.dec ∘ ReorderConfig.enc = id := funext ReorderConfig.dec_enc
@[simp] theorem ReorderConfig.comp2 : (ReorderConfig.enc ∘ ReorderConfig.dec) ∘ ReorderConfig.enc = ReorderConfig.enc := funext fun x => by simp [Function.comp]
@[simp] theorem ReorderConfig.bel (l : List ReorderConfig) (n : Nat) : belLL n (l.map ReorderConfig.enc) := bel_map (fun x => by simp) l
@[simp] theorem ReorderConfig.ren (σ : Nat → Nat) (l : List ReorderConfig) : renLL σ (l.map ReorderConfig.enc) = l.map ReorderConfig.enc := ren_map (fun x => by simp) l
@[simp] theorem ReorderConfig.vren (σ : Nat → Nat) (x : ReorderConfig) : (vA ReorderConfig.enc x).ren σ = vA ReorderConfig.enc x := vA_ren_eq (fun x => by simp) x
@[simp] theorem ReorderConfig.mrenI (σ : Nat → Nat) (k : IntKind) (m : List (Int × ReorderConfig)) : (AObj.mapo (encM (kI k) (vA ReorderConfig.enc) m)).ren σ = .mapo (encM (kI k) (vA ReorderConfig.enc) m) := encM_ren (fun _ => rfl) (ReorderConfig.vren σ) m
@[simp] theorem ReorderConfig.mbelI (n : Nat) (k : IntKind) (m : List (Int × ReorderConfig)) : (AObj.mapo (encM (kI k) (vA ReorderConfig.enc) m)).bel n ↔ True := encM_bel (fun _ => by simp) (fun x => by simp) m
@[simp] theorem ReorderConfig.mdecI (k : IntKind) (m : List (Int × ReorderConfig)) : decM dkI (dvA ReorderConfig.dec) (encM (kI k) (vA ReorderConfig.enc) m) = m := decM_encM (fun _ => rfl) (fun x => by simp) m
@[simp] theorem ReorderConfig.mrenS (σ : Nat → Nat) (m : List (ByteArray × ReorderConfig)) : (AObj.mapo (encM kS (vA ReorderConfig.enc) m)).ren σ = .mapo (encM kS (vA ReorderConfig.enc) m) := encM_ren (fun _ => rfl) (ReorderConfig.vren σ) m
@[simp] theorem ReorderConfig.mbelS (n : Nat) (m : List (ByteArray × ReorderConfig)) : (AObj.mapo (encM kS (vA ReorderConfig.enc) m)).bel n ↔ True := encM_bel (fun _ => by simp) (fun x => by simp) m
@[simp] theorem ReorderConfig.mdecS (m : List (ByteArray × ReorderConfig)) : decM dkS (dvA ReorderConfig.dec) (encM kS (vA ReorderConfig.enc) m) = m := decM_encM (fun _ => rfl) (fun x => by simp) m
@[simp] theorem ReorderConfig.getVI (k : IntKind) (x : Int) (m : List (Int × ReorderConfig)) : getV (.int k x) (.agg [.lit (.int .i64 0), .lit (.int .i64 0)]) (encM (kI k) (vA ReorderConfig.enc) m) = .agg (ReorderConfig.enc (getM eqI x (ReorderConfig.mk 0 0) m)) := getV_I (vE := vA ReorderConfig.enc) (d := (ReorderConfig.mk 0 0)) (by simp [vA]) x m
@[simp] theorem ReorderConfig.setVI (k : IntKind) (x : Int) (l : List AV) (h : l = ReorderConfig.enc (ReorderConfig.dec l)) (m : List (Int × ReorderConfig)) : setV (.int k x) (.agg l) (encM (kI k) (vA ReorderConfig.enc) m) = encM (kI k) (vA ReorderConfig.enc) (setM eqI x (ReorderConfig.dec l) m) := setV_I (vE := vA ReorderConfig.enc) (v := ReorderConfig.dec l) (congrArg AV.agg h) x m
@[simp] theorem ReorderConfig.getVS (x : ByteArray) (m : List (ByteArray × ReorderConfig)) : getV (.string x) (.agg [.lit (.int .i64 0), .lit (.int .i64 0)]) (encM kS (vA ReorderConfig.enc) m) = .agg (ReorderConfig.enc (getM eqS x (ReorderConfig.mk 0 0) m)) := getV_S (vE := vA ReorderConfig.enc) (d := (ReorderConfig.mk 0 0)) (by simp [vA]) x m
@[simp] theorem ReorderConfig.setVS (x : ByteArray) (l : List AV) (h : l = ReorderConfig.enc (ReorderConfig.dec l)) (m : List (ByteArray × ReorderConfig)) : setV (.string x) (.agg l) (encM kS (vA ReorderConfig.enc) m) = encM kS (vA ReorderConfig.enc) (setM eqS x (ReorderConfig.dec l) m) := setV_S (vE := vA ReorderConfig.enc) (v := ReorderConfig.dec l) (congrArg AV.agg h) x m
@[simp] theorem ReorderConfig.nth {rows : List (List AV)} (n : Int) (h : rows = (rows.map ReorderConfig.dec).map ReorderConfig.enc) : nthL rows n.toNat [.lit (.int .i64 0), .lit (.int .i64 0)] = (nthI (rows.map ReorderConfig.dec) n).enc := nth_rows (f := ReorderConfig.enc) rfl h n
@[simp low] theorem ReorderConfig.nthk {rows : List (List AV)} (j : Nat) (h : rows = (rows.map ReorderConfig.dec).map ReorderConfig.enc) : nthL rows j [.lit (.int .i64 0), .lit (.int .i64 0)] = (nthI (rows.map ReorderConfig.dec) (j : Int)).enc := nth_rowsk (f := ReorderConfig.enc) rfl h j

structure Antiphonref09Thing where
  fAt : Int
  fText : ByteArray
  fTick : Int
instance : Inhabited Antiphonref09Thing := ⟨Antiphonref09Thing.mk 0 ⟨⟨[]⟩⟩ 0⟩
@[simp] def Antiphonref09Thing.enc (x : Antiphonref09Thing) : List AV := [.lit (.int .i64 x.fAt), .lit (.string x.fText), .lit (.int .i64 x.fTick)]
@[simp] def Antiphonref09Thing.dec : List AV → Antiphonref09Thing
  | [.lit (.int .i64 a0), .lit (.string a1), .lit (.int .i64 a2)] => (Antiphonref09Thing.mk a0 a1 a2)
  | _ => default
@[simp] theorem Antiphonref09Thing.eta (x : Antiphonref09Thing) : Antiphonref09Thing.mk x.fAt x.fText x.fTick = x := by cases x; rfl
theorem Antiphonref09Thing.dec_enc (x : Antiphonref09Thing) : Antiphonref09Thing.dec x.enc = x := by simp
@[simp] theorem Antiphonref09Thing.comp : Antiphonref09Thing.dec ∘ Antiphonref09Thing.enc = id := funext Antiphonref09Thing.dec_enc
@[simp] theorem Antiphonref09Thing.comp2 : (Antiphonref09Thing.enc ∘ Antiphonref09Thing.dec) ∘ Antiphonref09Thing.enc = Antiphonref09Thing.enc := funext fun x => by simp [Function.comp]
@[simp] theorem Antiphonref09Thing.bel (l : List Antiphonref09Thing) (n : Nat) : belLL n (l.map Antiphonref09Thing.enc) := bel_map (fun x => by simp) l
@[simp] theorem Antiphonref09Thing.ren (σ : Nat → Nat) (l : List Antiphonref09Thing) : renLL σ (l.map Antiphonref09Thing.enc) = l.map Antiphonref09Thing.enc := ren_map (fun x => by simp) l
@[simp] theorem Antiphonref09Thing.vren (σ : Nat → Nat) (x : Antiphonref09Thing) : (vA Antiphonref09Thing.enc x).ren σ = vA Antiphonref09Thing.enc x := vA_ren_eq (fun x => by simp) x
@[simp] theorem Antiphonref09Thing.mrenI (σ : Nat → Nat) (k : IntKind) (m : List (Int × Antiphonref09Thing)) : (AObj.mapo (encM (kI k) (vA Antiphonref09Thing.enc) m)).ren σ = .mapo (encM (kI k) (vA Antiphonref09Thing.enc) m) := encM_ren (fun _ => rfl) (Antiphonref09Thing.vren σ) m
@[simp] theorem Antiphonref09Thing.mbelI (n : Nat) (k : IntKind) (m : List (Int × Antiphonref09Thing)) : (AObj.mapo (encM (kI k) (vA Antiphonref09Thing.enc) m)).bel n ↔ True := encM_bel (fun _ => by simp) (fun x => by simp) m
@[simp] theorem Antiphonref09Thing.mdecI (k : IntKind) (m : List (Int × Antiphonref09Thing)) : decM dkI (dvA Antiphonref09Thing.dec) (encM (kI k) (vA Antiphonref09Thing.enc) m) = m := decM_encM (fun _ => rfl) (fun x => by simp) m
@[simp] theorem Antiphonref09Thing.mrenS (σ : Nat → Nat) (m : List (ByteArray × Antiphonref09Thing)) : (AObj.mapo (encM kS (vA Antiphonref09Thing.enc) m)).ren σ = .mapo (encM kS (vA Antiphonref09Thing.enc) m) := encM_ren (fun _ => rfl) (Antiphonref09Thing.vren σ) m
@[simp] theorem Antiphonref09Thing.mbelS (n : Nat) (m : List (ByteArray × Antiphonref09Thing)) : (AObj.mapo (encM kS (vA Antiphonref09Thing.enc) m)).bel n ↔ True := encM_bel (fun _ => by simp) (fun x => by simp) m
@[simp] theorem Antiphonref09Thing.mdecS (m : List (ByteArray × Antiphonref09Thing)) : decM dkS (dvA Antiphonref09Thing.dec) (encM kS (vA Antiphonref09Thing.enc) m) = m := decM_encM (fun _ => rfl) (fun x => by simp) m
@[simp] theorem Antiphonref09Thing.getVI (k : IntKind) (x : Int) (m : List (Int × Antiphonref09Thing)) : getV (.int k x) (.agg [.lit (.int .i64 0), .lit (.string ⟨⟨[]⟩⟩), .lit (.int .i64 0)]) (encM (kI k) (vA Antiphonref09Thing.enc) m) = .agg (Antiphonref09Thing.enc (getM eqI x (Antiphonref09Thing.mk 0 ⟨⟨[]⟩⟩ 0) m)) := getV_I (vE := vA Antiphonref09Thing.enc) (d := (Antiphonref09Thing.mk 0 ⟨⟨[]⟩⟩ 0)) (by simp [vA]) x m
@[simp] theorem Antiphonref09Thing.setVI (k : IntKind) (x : Int) (l : List AV) (h : l = Antiphonref09Thing.enc (Antiphonref09Thing.dec l)) (m : List (Int × Antiphonref09Thing)) : setV (.int k x) (.agg l) (encM (kI k) (vA Antiphonref09Thing.enc) m) = encM (kI k) (vA Antiphonref09Thing.enc) (setM eqI x (Antiphonref09Thing.dec l) m) := setV_I (vE := vA Antiphonref09Thing.enc) (v := Antiphonref09Thing.dec l) (congrArg AV.agg h) x m
@[simp] theorem Antiphonref09Thing.getVS (x : ByteArray) (m : List (ByteArray × Antiphonref09Thing)) : getV (.string x) (.agg [.lit (.int .i64 0), .lit (.string ⟨⟨[]⟩⟩), .lit (.int .i64 0)]) (encM kS (vA Antiphonref09Thing.enc) m) = .agg (Antiphonref09Thing.enc (getM eqS x (Antiphonref09Thing.mk 0 ⟨⟨[]⟩⟩ 0) m)) := getV_S (vE := vA Antiphonref09Thing.enc) (d := (Antiphonref09Thing.mk 0 ⟨⟨[]⟩⟩ 0)) (by simp [vA]) x m
@[simp] theorem Antiphonref09Thing.setVS (x : ByteArray) (l : List AV) (h : l = Antiphonref09Thing.enc (Antiphonref09Thing.dec l)) (m : List (ByteArray × Antiphonref09Thing)) : setV (.string x) (.agg l) (encM kS (vA Antiphonref09Thing.enc) m) = encM kS (vA Antiphonref09Thing.enc) (setM eqS x (Antiphonref09Thing.dec l) m) := setV_S (vE := vA Antiphonref09Thing.enc) (v := Antiphonref09Thing.dec l) (congrArg AV.agg h) x m
@[simp] theorem Antiphonref09Thing.nth {rows : List (List AV)} (n : Int) (h : rows = (rows.map Antiphonref09Thing.dec).map Antiphonref09Thing.enc) : nthL rows n.toNat [.lit (.int .i64 0), .lit (.string ⟨⟨[]⟩⟩), .lit (.int .i64 0)] = (nthI (rows.map Antiphonref09Thing.dec) n).enc := nth_rows (f := Antiphonref09Thing.enc) rfl h n
@[simp low] theorem Antiphonref09Thing.nthk {rows : List (List AV)} (j : Nat) (h : rows = (rows.map Antiphonref09Thing.dec).map Antiphonref09Thing.enc) : nthL rows j [.lit (.int .i64 0), .lit (.string ⟨⟨[]⟩⟩), .lit (.int .i64 0)] = (nthI (rows.map Antiphonref09Thing.dec) (j : Int)).enc := nth_rowsk (f := Antiphonref09Thing.enc) rfl h j

structure ReorderBuffer where
  fConfig : ReorderConfig
  fBegun : Bool
  fNext : Int
  fOf : List (Int × Antiphonref09Thing)
  fLost : Int
instance : Inhabited ReorderBuffer := ⟨ReorderBuffer.mk (ReorderConfig.mk 0 0) false 0 [] 0⟩
@[simp] def ReorderBuffer.enc (x : ReorderBuffer) (i0 : Nat) : List AV := [.lit (.int .i64 x.fConfig.fMost), .lit (.int .i64 x.fConfig.fWait), .lit (.bool x.fBegun), .lit (.int .i64 x.fNext), .mp i0, .lit (.int .i64 x.fLost)]
@[simp] def ReorderBuffer.dec : List AV → (List (Int × Antiphonref09Thing)) → ReorderBuffer
  | [.lit (.int .i64 a0), .lit (.int .i64 a1), .lit (.bool a2), .lit (.int .i64 a3), .mp _, .lit (.int .i64 a5)], a4 => (ReorderBuffer.mk (ReorderConfig.mk a0 a1) a2 a3 a4 a5)
  | _, _ => default
@[simp] theorem ReorderBuffer.eta (x : ReorderBuffer) : ReorderBuffer.mk x.fConfig x.fBegun x.fNext x.fOf x.fLost = x := by cases x; rfl

structure Antiphonref09Buffer where
  fMost : Int
  fWait : Int
  fBegun : Bool
  fNext : Int
  fL : List Antiphonref09Thing
  fLost : Int
instance : Inhabited Antiphonref09Buffer := ⟨Antiphonref09Buffer.mk 0 0 false 0 [] 0⟩
@[simp] def Antiphonref09Buffer.enc (x : Antiphonref09Buffer) : List AV := [.lit (.int .i64 x.fMost), .lit (.int .i64 x.fWait), .lit (.bool x.fBegun), .lit (.int .i64 x.fNext), .sl (x.fL.map Antiphonref09Thing.enc) .no, .lit (.int .i64 x.fLost)]
@[simp] def Antiphonref09Buffer.dec : List AV → Antiphonref09Buffer
  | [.lit (.int .i64 a0), .lit (.int .i64 a1), .lit (.bool a2), .lit (.int .i64 a3), .sl a4 _, .lit (.int .i64 a5)] => (Antiphonref09Buffer.mk a0 a1 a2 a3 (a4.map Antiphonref09Thing.dec) a5)
  | _ => default
@[simp] theorem Antiphonref09Buffer.eta (x : Antiphonref09Buffer) : Antiphonref09Buffer.mk x.fMost x.fWait x.fBegun x.fNext x.fL x.fLost = x := by cases x; rfl
theorem Antiphonref09Buffer.dec_enc (x : Antiphonref09Buffer) : Antiphonref09Buffer.dec x.enc = x := by simp
@[simp] theorem Antiphonref09Buffer.comp : Antiphonref09Buffer.dec ∘ Antiphonref09Buffer.enc = id := funext Antiphonref09Buffer.dec_enc
@[simp] theorem Antiphonref09Buffer.comp2 : (Antiphonref09Buffer.enc ∘ Antiphonref09Buffer.dec) ∘ Antiphonref09Buffer.enc = Antiphonref09Buffer.enc := funext fun x => by simp [Function.comp]
@[simp] theorem Antiphonref09Buffer.bel (l : List Antiphonref09Buffer) (n : Nat) : belLL n (l.map Antiphonref09Buffer.enc) := bel_map (fun x => by simp) l
@[simp] theorem Antiphonref09Buffer.ren (σ : Nat → Nat) (l : List Antiphonref09Buffer) : renLL σ (l.map Antiphonref09Buffer.enc) = l.map Antiphonref09Buffer.enc := ren_map (fun x => by simp) l
@[simp] theorem Antiphonref09Buffer.vren (σ : Nat → Nat) (x : Antiphonref09Buffer) : (vA Antiphonref09Buffer.enc x).ren σ = vA Antiphonref09Buffer.enc x := vA_ren_eq (fun x => by simp) x
@[simp] theorem Antiphonref09Buffer.mrenI (σ : Nat → Nat) (k : IntKind) (m : List (Int × Antiphonref09Buffer)) : (AObj.mapo (encM (kI k) (vA Antiphonref09Buffer.enc) m)).ren σ = .mapo (encM (kI k) (vA Antiphonref09Buffer.enc) m) := encM_ren (fun _ => rfl) (Antiphonref09Buffer.vren σ) m
@[simp] theorem Antiphonref09Buffer.mbelI (n : Nat) (k : IntKind) (m : List (Int × Antiphonref09Buffer)) : (AObj.mapo (encM (kI k) (vA Antiphonref09Buffer.enc) m)).bel n ↔ True := encM_bel (fun _ => by simp) (fun x => by simp) m
@[simp] theorem Antiphonref09Buffer.mdecI (k : IntKind) (m : List (Int × Antiphonref09Buffer)) : decM dkI (dvA Antiphonref09Buffer.dec) (encM (kI k) (vA Antiphonref09Buffer.enc) m) = m := decM_encM (fun _ => rfl) (fun x => by simp) m
@[simp] theorem Antiphonref09Buffer.mrenS (σ : Nat → Nat) (m : List (ByteArray × Antiphonref09Buffer)) : (AObj.mapo (encM kS (vA Antiphonref09Buffer.enc) m)).ren σ = .mapo (encM kS (vA Antiphonref09Buffer.enc) m) := encM_ren (fun _ => rfl) (Antiphonref09Buffer.vren σ) m
@[simp] theorem Antiphonref09Buffer.mbelS (n : Nat) (m : List (ByteArray × Antiphonref09Buffer)) : (AObj.mapo (encM kS (vA Antiphonref09Buffer.enc) m)).bel n ↔ True := encM_bel (fun _ => by simp) (fun x => by simp) m
@[simp] theorem Antiphonref09Buffer.mdecS (m : List (ByteArray × Antiphonref09Buffer)) : decM dkS (dvA Antiphonref09Buffer.dec) (encM kS (vA Antiphonref09Buffer.enc) m) = m := decM_encM (fun _ => rfl) (fun x => by simp) m
@[simp] theorem Antiphonref09Buffer.getVI (k : IntKind) (x : Int) (m : List (Int × Antiphonref09Buffer)) : getV (.int k x) (.agg [.lit (.int .i64 0), .lit (.int .i64 0), .lit (.bool false), .lit (.int .i64 0), .sl [] .no, .lit (.int .i64 0)]) (encM (kI k) (vA Antiphonref09Buffer.enc) m) = .agg (Antiphonref09Buffer.enc (getM eqI x (Antiphonref09Buffer.mk 0 0 false 0 [] 0) m)) := getV_I (vE := vA Antiphonref09Buffer.enc) (d := (Antiphonref09Buffer.mk 0 0 false 0 [] 0)) (by simp [vA]) x m
@[simp] theorem Antiphonref09Buffer.setVI (k : IntKind) (x : Int) (l : List AV) (h : l = Antiphonref09Buffer.enc (Antiphonref09Buffer.dec l)) (m : List (Int × Antiphonref09Buffer)) : setV (.int k x) (.agg l) (encM (kI k) (vA Antiphonref09Buffer.enc) m) = encM (kI k) (vA Antiphonref09Buffer.enc) (setM eqI x (Antiphonref09Buffer.dec l) m) := setV_I (vE := vA Antiphonref09Buffer.enc) (v := Antiphonref09Buffer.dec l) (congrArg AV.agg h) x m
@[simp] theorem Antiphonref09Buffer.getVS (x : ByteArray) (m : List (ByteArray × Antiphonref09Buffer)) : getV (.string x) (.agg [.lit (.int .i64 0), .lit (.int .i64 0), .lit (.bool false), .lit (.int .i64 0), .sl [] .no, .lit (.int .i64 0)]) (encM kS (vA Antiphonref09Buffer.enc) m) = .agg (Antiphonref09Buffer.enc (getM eqS x (Antiphonref09Buffer.mk 0 0 false 0 [] 0) m)) := getV_S (vE := vA Antiphonref09Buffer.enc) (d := (Antiphonref09Buffer.mk 0 0 false 0 [] 0)) (by simp [vA]) x m
@[simp] theorem Antiphonref09Buffer.setVS (x : ByteArray) (l : List AV) (h : l = Antiphonref09Buffer.enc (Antiphonref09Buffer.dec l)) (m : List (ByteArray × Antiphonref09Buffer)) : setV (.string x) (.agg l) (encM kS (vA Antiphonref09Buffer.enc) m) = encM kS (vA Antiphonref09Buffer.enc) (setM eqS x (Antiphonref09Buffer.dec l) m) := setV_S (vE := vA Antiphonref09Buffer.enc) (v := Antiphonref09Buffer.dec l) (congrArg AV.agg h) x m
@[simp] theorem Antiphonref09Buffer.nth {rows : List (List AV)} (n : Int) (h : rows = (rows.map Antiphonref09Buffer.dec).map Antiphonref09Buffer.enc) (q : InB n (lenL rows)) : nthL rows n.toNat [.lit (.int .i64 0), .lit (.int .i64 0), .lit (.bool false), .lit (.int .i64 0), .sl [] .full, .lit (.int .i64 0)] = (nthI (rows.map Antiphonref09Buffer.dec) n).enc := nth_rows_in h q

structure Antiphonlaw09State where
  fB : ReorderBuffer
  fX : Antiphonref09Buffer
  fNow : Int
instance : Inhabited Antiphonlaw09State := ⟨Antiphonlaw09State.mk (ReorderBuffer.mk (ReorderConfig.mk 0 0) false 0 [] 0) (Antiphonref09Buffer.mk 0 0 false 0 [] 0) 0⟩
@[simp] def Antiphonlaw09State.enc (x : Antiphonlaw09State) (i0 : Nat) : List AV := [.ptr i0 0, .lit (.int .i64 x.fX.fMost), .lit (.int .i64 x.fX.fWait), .lit (.bool x.fX.fBegun), .lit (.int .i64 x.fX.fNext), .sl (x.fX.fL.map Antiphonref09Thing.enc) .no, .lit (.int .i64 x.fX.fLost), .lit (.int .i64 x.fNow)]
@[simp] def Antiphonlaw09State.dec : List AV → ReorderBuffer → Antiphonlaw09State
  | [.ptr _ _, .lit (.int .i64 a1), .lit (.int .i64 a2), .lit (.bool a3), .lit (.int .i64 a4), .sl a5 _, .lit (.int .i64 a6), .lit (.int .i64 a7)], a0 => (Antiphonlaw09State.mk a0 (Antiphonref09Buffer.mk a1 a2 a3 a4 (a5.map Antiphonref09Thing.dec) a6) a7)
  | _, _ => default
@[simp] theorem Antiphonlaw09State.eta (x : Antiphonlaw09State) : Antiphonlaw09State.mk x.fB x.fX x.fNow = x := by cases x; rfl

structure Antiphonlaw09Act where
  fKind : Int
  fBy : Int
  fS : ByteArray
instance : Inhabited Antiphonlaw09Act := ⟨Antiphonlaw09Act.mk 0 0 ⟨⟨[]⟩⟩⟩
@[simp] def Antiphonlaw09Act.enc (x : Antiphonlaw09Act) : List AV := [.lit (.int .i64 x.fKind), .lit (.int .i64 x.fBy), .lit (.string x.fS)]
@[simp] def Antiphonlaw09Act.dec : List AV → Antiphonlaw09Act
  | [.lit (.int .i64 a0), .lit (.int .i64 a1), .lit (.string a2)] => (Antiphonlaw09Act.mk a0 a1 a2)
  | _ => default
@[simp] theorem Antiphonlaw09Act.eta (x : Antiphonlaw09Act) : Antiphonlaw09Act.mk x.fKind x.fBy x.fS = x := by cases x; rfl
theorem Antiphonlaw09Act.dec_enc (x : Antiphonlaw09Act) : Antiphonlaw09Act.dec x.enc = x := by simp
@[simp] theorem Antiphonlaw09Act.comp : Antiphonlaw09Act.dec ∘ Antiphonlaw09Act.enc = id := funext Antiphonlaw09Act.dec_enc
@[simp] theorem Antiphonlaw09Act.comp2 : (Antiphonlaw09Act.enc ∘ Antiphonlaw09Act.dec) ∘ Antiphonlaw09Act.enc = Antiphonlaw09Act.enc := funext fun x => by simp [Function.comp]
@[simp] theorem Antiphonlaw09Act.bel (l : List Antiphonlaw09Act) (n : Nat) : belLL n (l.map Antiphonlaw09Act.enc) := bel_map (fun x => by simp) l
@[simp] theorem Antiphonlaw09Act.ren (σ : Nat → Nat) (l : List Antiphonlaw09Act) : renLL σ (l.map Antiphonlaw09Act.enc) = l.map Antiphonlaw09Act.enc := ren_map (fun x => by simp) l
@[simp] theorem Antiphonlaw09Act.vren (σ : Nat → Nat) (x : Antiphonlaw09Act) : (vA Antiphonlaw09Act.enc x).ren σ = vA Antiphonlaw09Act.enc x := vA_ren_eq (fun x => by simp) x
@[simp] theorem Antiphonlaw09Act.mrenI (σ : Nat → Nat) (k : IntKind) (m : List (Int × Antiphonlaw09Act)) : (AObj.mapo (encM (kI k) (vA Antiphonlaw09Act.enc) m)).ren σ = .mapo (encM (kI k) (vA Antiphonlaw09Act.enc) m) := encM_ren (fun _ => rfl) (Antiphonlaw09Act.vren σ) m
@[simp] theorem Antiphonlaw09Act.mbelI (n : Nat) (k : IntKind) (m : List (Int × Antiphonlaw09Act)) : (AObj.mapo (encM (kI k) (vA Antiphonlaw09Act.enc) m)).bel n ↔ True := encM_bel (fun _ => by simp) (fun x => by simp) m
@[simp] theorem Antiphonlaw09Act.mdecI (k : IntKind) (m : List (Int × Antiphonlaw09Act)) : decM dkI (dvA Antiphonlaw09Act.dec) (encM (kI k) (vA Antiphonlaw09Act.enc) m) = m := decM_encM (fun _ => rfl) (fun x => by simp) m
@[simp] theorem Antiphonlaw09Act.mrenS (σ : Nat → Nat) (m : List (ByteArray × Antiphonlaw09Act)) : (AObj.mapo (encM kS (vA Antiphonlaw09Act.enc) m)).ren σ = .mapo (encM kS (vA Antiphonlaw09Act.enc) m) := encM_ren (fun _ => rfl) (Antiphonlaw09Act.vren σ) m
@[simp] theorem Antiphonlaw09Act.mbelS (n : Nat) (m : List (ByteArray × Antiphonlaw09Act)) : (AObj.mapo (encM kS (vA Antiphonlaw09Act.enc) m)).bel n ↔ True := encM_bel (fun _ => by simp) (fun x => by simp) m
@[simp] theorem Antiphonlaw09Act.mdecS (m : List (ByteArray × Antiphonlaw09Act)) : decM dkS (dvA Antiphonlaw09Act.dec) (encM kS (vA Antiphonlaw09Act.enc) m) = m := decM_encM (fun _ => rfl) (fun x => by simp) m
@[simp] theorem Antiphonlaw09Act.getVI (k : IntKind) (x : Int) (m : List (Int × Antiphonlaw09Act)) : getV (.int k x) (.agg [.lit (.int .i64 0), .lit (.int .i64 0), .lit (.string ⟨⟨[]⟩⟩)]) (encM (kI k) (vA Antiphonlaw09Act.enc) m) = .agg (Antiphonlaw09Act.enc (getM eqI x (Antiphonlaw09Act.mk 0 0 ⟨⟨[]⟩⟩) m)) := getV_I (vE := vA Antiphonlaw09Act.enc) (d := (Antiphonlaw09Act.mk 0 0 ⟨⟨[]⟩⟩)) (by simp [vA]) x m
@[simp] theorem Antiphonlaw09Act.setVI (k : IntKind) (x : Int) (l : List AV) (h : l = Antiphonlaw09Act.enc (Antiphonlaw09Act.dec l)) (m : List (Int × Antiphonlaw09Act)) : setV (.int k x) (.agg l) (encM (kI k) (vA Antiphonlaw09Act.enc) m) = encM (kI k) (vA Antiphonlaw09Act.enc) (setM eqI x (Antiphonlaw09Act.dec l) m) := setV_I (vE := vA Antiphonlaw09Act.enc) (v := Antiphonlaw09Act.dec l) (congrArg AV.agg h) x m
@[simp] theorem Antiphonlaw09Act.getVS (x : ByteArray) (m : List (ByteArray × Antiphonlaw09Act)) : getV (.string x) (.agg [.lit (.int .i64 0), .lit (.int .i64 0), .lit (.string ⟨⟨[]⟩⟩)]) (encM kS (vA Antiphonlaw09Act.enc) m) = .agg (Antiphonlaw09Act.enc (getM eqS x (Antiphonlaw09Act.mk 0 0 ⟨⟨[]⟩⟩) m)) := getV_S (vE := vA Antiphonlaw09Act.enc) (d := (Antiphonlaw09Act.mk 0 0 ⟨⟨[]⟩⟩)) (by simp [vA]) x m
@[simp] theorem Antiphonlaw09Act.setVS (x : ByteArray) (l : List AV) (h : l = Antiphonlaw09Act.enc (Antiphonlaw09Act.dec l)) (m : List (ByteArray × Antiphonlaw09Act)) : setV (.string x) (.agg l) (encM kS (vA Antiphonlaw09Act.enc) m) = encM kS (vA Antiphonlaw09Act.enc) (setM eqS x (Antiphonlaw09Act.dec l) m) := setV_S (vE := vA Antiphonlaw09Act.enc) (v := Antiphonlaw09Act.dec l) (congrArg AV.agg h) x m
@[simp] theorem Antiphonlaw09Act.nth {rows : List (List AV)} (n : Int) (h : rows = (rows.map Antiphonlaw09Act.dec).map Antiphonlaw09Act.enc) : nthL rows n.toNat [.lit (.int .i64 0), .lit (.int .i64 0), .lit (.string ⟨⟨[]⟩⟩)] = (nthI (rows.map Antiphonlaw09Act.dec) n).enc := nth_rows (f := Antiphonlaw09Act.enc) rfl h n
@[simp low] theorem Antiphonlaw09Act.nthk {rows : List (List AV)} (j : Nat) (h : rows = (rows.map Antiphonlaw09Act.dec).map Antiphonlaw09Act.enc) : nthL rows j [.lit (.int .i64 0), .lit (.int .i64 0), .lit (.string ⟨⟨[]⟩⟩)] = (nthI (rows.map Antiphonlaw09Act.dec) (j : Int)).enc := nth_rowsk (f := Antiphonlaw09Act.enc) rfl h j
end Go.Ab
