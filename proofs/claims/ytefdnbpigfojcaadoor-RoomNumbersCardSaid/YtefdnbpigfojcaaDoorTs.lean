/- The types of these functions. No condition. -/
import Derived.Test.YtefdnbpigfojcaaDoorNx
namespace Go.Ab

structure Antiphonref12Peer where
  fN : Int
  fName : ByteArray
  fRoom : ByteArray
instance : Inhabited Antiphonref12Peer := ⟨Antiphonref12Peer.mk 0 ⟨⟨[]⟩⟩ ⟨⟨[]⟩⟩⟩
@[simp] def Antiphonref12Peer.enc (x : Antiphonref12Peer) : List AV := [.lit (.int .i64 x.fN), .lit (.string x.fName), .lit (.string x.fRoom)]
@[simp] def Antiphonref12Peer.dec : List AV → Antiphonref12Peer
  | [.lit (.int .i64 a0), .lit (.string a1), .lit (.string a2)] => (Antiphonref12Peer.mk a0 a1 a2)
  | _ => default
@[simp] theorem Antiphonref12Peer.eta (x : Antiphonref12Peer) : Antiphonref12Peer.mk x.fN x.fName x.fRoom = x := by cases x; rfl
theorem Antiphonref12Peer.dec_enc (x : Antiphonref12Peer) : Antiphonref12Peer.dec x.enc = x := by simp
@[simp] theorem Antiphonref12Peer.comp : Antiphonref12Peer.dec ∘ Antiphonref12Peer.enc = id := funext Antiphonref12Peer.dec_enc
@[simp] theorem Antiphonref12Peer.comp2 : (Antiphonref12Peer.enc ∘ Antiphonref12Peer.dec) ∘ Antiphonref12Peer.enc = Antiphonref12Peer.enc := funext fun x => by simp [Function.comp]
@[simp] theorem Antiphonref12Peer.bel (l : List Antiphonref12Peer) (n : Nat) : belLL n (l.map Antiphonref12Peer.enc) := bel_map (fun x => by simp) l
@[simp] theorem Antiphonref12Peer.ren (σ : Nat → Nat) (l : List Antiphonref12Peer) : renLL σ (l.map Antiphonref12Peer.enc) = l.map Antiphonref12Peer.enc := ren_map (fun x => by simp) l
@[simp] theorem Antiphonref12Peer.vren (σ : Nat → Nat) (x : Antiphonref12Peer) : (vA Antiphonref12Peer.enc x).ren σ = vA Antiphonref12Peer.enc x := vA_ren_eq (fun x => by simp) x
@[simp] theorem Antiphonref12Peer.mrenI (σ : Nat → Nat) (k : IntKind) (m : List (Int × Antiphonref12Peer)) : (AObj.mapo (encM (kI k) (vA Antiphonref12Peer.enc) m)).ren σ = .mapo (encM (kI k) (vA Antiphonref12Peer.enc) m) := encM_ren (fun _ => rfl) (Antiphonref12Peer.vren σ) m
@[simp] theorem Antiphonref12Peer.mbelI (n : Nat) (k : IntKind) (m : List (Int × Antiphonref12Peer)) : (AObj.mapo (encM (kI k) (vA Antiphonref12Peer.enc) m)).bel n ↔ True := encM_bel (fun _ => by simp) (fun x => by simp) m
@[simp] theorem Antiphonref12Peer.mdecI (k : IntKind) (m : List (Int × Antiphonref12Peer)) : decM dkI (dvA Antiphonref12Peer.dec) (encM (kI k) (vA Antiphonref12Peer.enc) m) = m := decM_encM (fun _ => rfl) (fun x => by simp) m
@[simp] theorem Antiphonref12Peer.mrenS (σ : Nat → Nat) (m : List (ByteArray × Antiphonref12Peer)) : (AObj.mapo (encM kS (vA Antiphonref12Peer.enc) m)).ren σ = .mapo (encM kS (vA Antiphonref12Peer.enc) m) := encM_ren (fun _ => rfl) (Antiphonref12Peer.vren σ) m
@[simp] theorem Antiphonref12Peer.mbelS (n : Nat) (m : List (ByteArray × Antiphonref12Peer)) : (AObj.mapo (encM kS (vA Antiphonref12Peer.enc) m)).bel n ↔ True := encM_bel (fun _ => by simp) (fun x => by simp) m
@[simp] theorem Antiphonref12Peer.mdecS (m : List (ByteArray × Antiphonref12Peer)) : decM dkS (dvA Antiphonref12Peer.dec) (encM kS (vA Antiphonref12Peer.enc) m) = m := decM_encM (fun _ => rfl) (fun x => by simp) m
@[simp] theorem Antiphonref12Peer.getVI (k : IntKind) (x : Int) (m : List (Int × Antiphonref12Peer)) : getV (.int k x) (.agg [.lit (.int .i64 0), .lit (.string ⟨⟨[]⟩⟩), .lit (.string ⟨⟨[]⟩⟩)]) (encM (kI k) (vA Antiphonref12Peer.enc) m) = .agg (Antiphonref12Peer.enc (getM eqI x (Antiphonref12Peer.mk 0 ⟨⟨[]⟩⟩ ⟨⟨[]⟩⟩) m)) := getV_I (vE := vA Antiphonref12Peer.enc) (d := (Antiphonref12Peer.mk 0 ⟨⟨[]⟩⟩ ⟨⟨[]⟩⟩)) (by simp [vA]) x m
@[simp] theorem Antiphonref12Peer.setVI (k : IntKind) (x : Int) (l : List AV) (h : l = Antiphonref12Peer.enc (Antiphonref12Peer.dec l)) (m : List (Int × Antiphonref12Peer)) : setV (.int k x) (.agg l) (encM (kI k) (vA Antiphonref12Peer.enc) m) = encM (kI k) (vA Antiphonref12Peer.enc) (setM eqI x (Antiphonref12Peer.dec l) m) := setV_I (vE := vA Antiphonref12Peer.enc) (v := Antiphonref12Peer.dec l) (congrArg AV.agg h) x m
@[simp] theorem Antiphonref12Peer.getVS (x : ByteArray) (m : List (ByteArray × Antiphonref12Peer)) : getV (.string x) (.agg [.lit (.int .i64 0), .lit (.string ⟨⟨[]⟩⟩), .lit (.string ⟨⟨[]⟩⟩)]) (encM kS (vA Antiphonref12Peer.enc) m) = .agg (Antiphonref12Peer.enc (getM eqS x (Antiphonref12Peer.mk 0 ⟨⟨[]⟩⟩ ⟨⟨[]⟩⟩) m)) := getV_S (vE := vA Antiphonref12Peer.enc) (d := (Antiphonref12Peer.mk 0 ⟨⟨[]⟩⟩ ⟨⟨[]⟩⟩)) (by simp [vA]) x m
@[simp] theorem Antiphonref12Peer.setVS (x : ByteArray) (l : List AV) (h : l = Antiphonref12Peer.enc (Antiphonref12Peer.dec l)) (m : List (ByteArray × Antiphonref12Peer)) : setV (.string x) (.agg l) (encM kS (vA Antiphonref12Peer.enc) m) = encM kS (vA Antiphonref12Peer.enc) (setM eqS x (Antiphonref12Peer.dec l) m) := setV_S (vE := vA Antiphonref12Peer.enc) (v := Antiphonref12Peer.dec l) (congrArg AV.agg h) x m
@[simp] theorem Antiphonref12Peer.nth {rows : List (List AV)} (n : Int) (h : rows = (rows.map Antiphonref12Peer.dec).map Antiphonref12Peer.enc) : nthL rows n.toNat [.lit (.int .i64 0), .lit (.string ⟨⟨[]⟩⟩), .lit (.string ⟨⟨[]⟩⟩)] = (nthI (rows.map Antiphonref12Peer.dec) n).enc := nth_rows (f := Antiphonref12Peer.enc) rfl h n
@[simp low] theorem Antiphonref12Peer.nthk {rows : List (List AV)} (j : Nat) (h : rows = (rows.map Antiphonref12Peer.dec).map Antiphonref12Peer.enc) : nthL rows j [.lit (.int .i64 0), .lit (.string ⟨⟨[]⟩⟩), .lit (.string ⟨⟨[]⟩⟩)] = (nthI (rows.map Antiphonref12Peer.dec) (j : Int)).enc := nth_rowsk (f := Antiphonref12Peer.enc) rfl h j

structure RoomTable where
  fPeers : List (Int × Antiphonref12Peer)
  fNext : Int
instance : Inhabited RoomTable := ⟨RoomTable.mk [] 0⟩
@[simp] def RoomTable.enc (x : RoomTable) (i0 : Nat) : List AV := [.mp i0, .lit (.int .i64 x.fNext)]
@[simp] def RoomTable.dec : List AV → (List (Int × Antiphonref12Peer)) → RoomTable
  | [.mp _, .lit (.int .i64 a1)], a0 => (RoomTable.mk a0 a1)
  | _, _ => default
@[simp] theorem RoomTable.eta (x : RoomTable) : RoomTable.mk x.fPeers x.fNext = x := by cases x; rfl

structure Antiphonref12Table where
  fL : List Antiphonref12Peer
  fNext : Int
instance : Inhabited Antiphonref12Table := ⟨Antiphonref12Table.mk [] 0⟩
@[simp] def Antiphonref12Table.enc (x : Antiphonref12Table) : List AV := [.sl (x.fL.map Antiphonref12Peer.enc) .no, .lit (.int .i64 x.fNext)]
@[simp] def Antiphonref12Table.dec : List AV → Antiphonref12Table
  | [.sl a0 _, .lit (.int .i64 a1)] => (Antiphonref12Table.mk (a0.map Antiphonref12Peer.dec) a1)
  | _ => default
@[simp] theorem Antiphonref12Table.eta (x : Antiphonref12Table) : Antiphonref12Table.mk x.fL x.fNext = x := by cases x; rfl
theorem Antiphonref12Table.dec_enc (x : Antiphonref12Table) : Antiphonref12Table.dec x.enc = x := by simp
@[simp] theorem Antiphonref12Table.comp : Antiphonref12Table.dec ∘ Antiphonref12Table.enc = id := funext Antiphonref12Table.dec_enc
@[simp] theorem Antiphonref12Table.comp2 : (Antiphonref12Table.enc ∘ Antiphonref12Table.dec) ∘ Antiphonref12Table.enc = Antiphonref12Table.enc := funext fun x => by simp [Function.comp]
@[simp] theorem Antiphonref12Table.bel (l : List Antiphonref12Table) (n : Nat) : belLL n (l.map Antiphonref12Table.enc) := bel_map (fun x => by simp) l
@[simp] theorem Antiphonref12Table.ren (σ : Nat → Nat) (l : List Antiphonref12Table) : renLL σ (l.map Antiphonref12Table.enc) = l.map Antiphonref12Table.enc := ren_map (fun x => by simp) l
@[simp] theorem Antiphonref12Table.nth {rows : List (List AV)} (n : Int) (h : rows = (rows.map Antiphonref12Table.dec).map Antiphonref12Table.enc) : nthL rows n.toNat [.sl [] .no, .lit (.int .i64 0)] = (nthI (rows.map Antiphonref12Table.dec) n).enc := nth_rows (f := Antiphonref12Table.enc) rfl h n
@[simp low] theorem Antiphonref12Table.nthk {rows : List (List AV)} (j : Nat) (h : rows = (rows.map Antiphonref12Table.dec).map Antiphonref12Table.enc) : nthL rows j [.sl [] .no, .lit (.int .i64 0)] = (nthI (rows.map Antiphonref12Table.dec) (j : Int)).enc := nth_rowsk (f := Antiphonref12Table.enc) rfl h j

structure Antiphonlaw12Act where
  fKind : Int
  fN : Int
  fRoom : ByteArray
  fName : ByteArray
instance : Inhabited Antiphonlaw12Act := ⟨Antiphonlaw12Act.mk 0 0 ⟨⟨[]⟩⟩ ⟨⟨[]⟩⟩⟩
@[simp] def Antiphonlaw12Act.enc (x : Antiphonlaw12Act) : List AV := [.lit (.int .i64 x.fKind), .lit (.int .i64 x.fN), .lit (.string x.fRoom), .lit (.string x.fName)]
@[simp] def Antiphonlaw12Act.dec : List AV → Antiphonlaw12Act
  | [.lit (.int .i64 a0), .lit (.int .i64 a1), .lit (.string a2), .lit (.string a3)] => (Antiphonlaw12Act.mk a0 a1 a2 a3)
  | _ => default
@[simp] theorem Antiphonlaw12Act.eta (x : Antiphonlaw12Act) : Antiphonlaw12Act.mk x.fKind x.fN x.fRoom x.fName = x := by cases x; rfl
theorem Antiphonlaw12Act.dec_enc (x : Antiphonlaw12Act) : Antiphonlaw12Act.dec x.enc = x := by simp
@[simp] theorem Antiphonlaw12Act.comp : Antiphonlaw12Act.dec ∘ Antiphonlaw12Act.enc = id := funext Antiphonlaw12Act.dec_enc
@[simp] theorem Antiphonlaw12Act.comp2 : (Antiphonlaw12Act.enc ∘ Antiphonlaw12Act.dec) ∘ Antiphonlaw12Act.enc = Antiphonlaw12Act.enc := funext fun x => by simp [Function.comp]
@[simp] theorem Antiphonlaw12Act.bel (l : List Antiphonlaw12Act) (n : Nat) : belLL n (l.map Antiphonlaw12Act.enc) := bel_map (fun x => by simp) l
@[simp] theorem Antiphonlaw12Act.ren (σ : Nat → Nat) (l : List Antiphonlaw12Act) : renLL σ (l.map Antiphonlaw12Act.enc) = l.map Antiphonlaw12Act.enc := ren_map (fun x => by simp) l
@[simp] theorem Antiphonlaw12Act.nth {rows : List (List AV)} (n : Int) (h : rows = (rows.map Antiphonlaw12Act.dec).map Antiphonlaw12Act.enc) : nthL rows n.toNat [.lit (.int .i64 0), .lit (.int .i64 0), .lit (.string ⟨⟨[]⟩⟩), .lit (.string ⟨⟨[]⟩⟩)] = (nthI (rows.map Antiphonlaw12Act.dec) n).enc := nth_rows (f := Antiphonlaw12Act.enc) rfl h n
@[simp low] theorem Antiphonlaw12Act.nthk {rows : List (List AV)} (j : Nat) (h : rows = (rows.map Antiphonlaw12Act.dec).map Antiphonlaw12Act.enc) : nthL rows j [.lit (.int .i64 0), .lit (.int .i64 0), .lit (.string ⟨⟨[]⟩⟩), .lit (.string ⟨⟨[]⟩⟩)] = (nthI (rows.map Antiphonlaw12Act.dec) (j : Int)).enc := nth_rowsk (f := Antiphonlaw12Act.enc) rfl h j
end Go.Ab
