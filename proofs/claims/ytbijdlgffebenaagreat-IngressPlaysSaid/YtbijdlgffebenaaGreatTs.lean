/- The types of these functions. No condition. -/
import Derived.Test.YtbijdlgffebenaaGreatM03
namespace Go.Ab

structure Tt where
 fk : Int
 fp : Int
instance : Inhabited Tt := ⟨Tt.mk 0 0⟩
@[simp] def Tt.enc (x : Tt) : List AV := [.lit (.int .i64 x.fk), .lit (.int .i64 x.fp)]
@[simp] def Tt.dec : List AV → Tt
 | [.lit (.int .i64 a0), .lit (.int .i64 a1)] => (Tt.mk a0 a1)
 | _ => default
@[simp] theorem Tt.eta (x : Tt) : Tt.mk x.fk x.fp = x := by cases x; rfl
theorem Tt.dec_enc (x : Tt) : Tt.dec x.enc = x := by simp
@[simp] theorem Tt.comp : Tt.dec ∘ Tt.enc = id := funext Tt.dec_enc
@[simp] theorem Tt.comp2 : (Tt.enc ∘ Tt.dec) ∘ Tt.enc = Tt.enc := funext fun x => by simp [Function.comp]
@[simp low] theorem Tt.nthk {rows : List (List AV)} (j : Nat) (h : rows = (rows.map Tt.dec).map Tt.enc) : nthL rows j [.lit (.int .i64 0), .lit (.int .i64 0)] = (nthI (rows.map Tt.dec) (j : Int)).enc := nth_rowsk (f := Tt.enc) rfl h j

structure Ta where
 fAt : Int
 fU : ByteArray
 fO : Int
instance : Inhabited Ta := ⟨Ta.mk 0 ⟨⟨[]⟩⟩ 0⟩
@[simp] def Ta.enc (x : Ta) : List AV := [.lit (.int .i64 x.fAt), .lit (.string x.fU), .lit (.int .i64 x.fO)]
@[simp] def Ta.dec : List AV → Ta
 | [.lit (.int .i64 a0), .lit (.string a1), .lit (.int .i64 a2)] => (Ta.mk a0 a1 a2)
 | _ => default
@[simp] theorem Ta.eta (x : Ta) : Ta.mk x.fAt x.fU x.fO = x := by cases x; rfl
theorem Ta.dec_enc (x : Ta) : Ta.dec x.enc = x := by simp
@[simp] theorem Ta.comp : Ta.dec ∘ Ta.enc = id := funext Ta.dec_enc
@[simp] theorem Ta.comp2 : (Ta.enc ∘ Ta.dec) ∘ Ta.enc = Ta.enc := funext fun x => by simp [Function.comp]
@[simp] theorem Ta.bel (l : List Ta) (n : Nat) : belLL n (l.map Ta.enc) := bel_map (fun x => by simp) l
@[simp] theorem Ta.ren (σ : Nat → Nat) (l : List Ta) : renLL σ (l.map Ta.enc) = l.map Ta.enc := ren_map (fun x => by simp) l
@[simp] theorem Ta.vren (σ : Nat → Nat) (x : Ta) : (vA Ta.enc x).ren σ = vA Ta.enc x := vA_ren_eq (fun x => by simp) x
@[simp] theorem Ta.mrenI (σ : Nat → Nat) (k : IntKind) (m : List (Int × Ta)) : (AObj.mapo (encM (kI k) (vA Ta.enc) m)).ren σ = .mapo (encM (kI k) (vA Ta.enc) m) := encM_ren (fun _ => rfl) (Ta.vren σ) m
@[simp] theorem Ta.mbelI (n : Nat) (k : IntKind) (m : List (Int × Ta)) : (AObj.mapo (encM (kI k) (vA Ta.enc) m)).bel n ↔ True := encM_bel (fun _ => by simp) (fun x => by simp) m
@[simp] theorem Ta.mdecI (k : IntKind) (m : List (Int × Ta)) : decM dkI (dvA Ta.dec) (encM (kI k) (vA Ta.enc) m) = m := decM_encM (fun _ => rfl) (fun x => by simp) m
@[simp] theorem Ta.getVI (k : IntKind) (x : Int) (m : List (Int × Ta)) : getV (.int k x) (.agg [.lit (.int .i64 0), .lit (.string ⟨⟨[]⟩⟩), .lit (.int .i64 0)]) (encM (kI k) (vA Ta.enc) m) = .agg (Ta.enc (getM eqI x (Ta.mk 0 ⟨⟨[]⟩⟩ 0) m)) := getV_I (vE := vA Ta.enc) (d := (Ta.mk 0 ⟨⟨[]⟩⟩ 0)) (by simp [vA]) x m
@[simp] theorem Ta.setVI (k : IntKind) (x : Int) (l : List AV) (h : l = Ta.enc (Ta.dec l)) (m : List (Int × Ta)) : setV (.int k x) (.agg l) (encM (kI k) (vA Ta.enc) m) = encM (kI k) (vA Ta.enc) (setM eqI x (Ta.dec l) m) := setV_I (vE := vA Ta.enc) (v := Ta.dec l) (congrArg AV.agg h) x m
@[simp] theorem Ta.nth {rows : List (List AV)} (n : Int) (h : rows = (rows.map Ta.dec).map Ta.enc) : nthL rows n.toNat [.lit (.int .i64 0), .lit (.string ⟨⟨[]⟩⟩), .lit (.int .i64 0)] = (nthI (rows.map Ta.dec) n).enc := nth_rows (f := Ta.enc) rfl h n
@[simp low] theorem Ta.nthk {rows : List (List AV)} (j : Nat) (h : rows = (rows.map Ta.dec).map Ta.enc) : nthL rows j [.lit (.int .i64 0), .lit (.string ⟨⟨[]⟩⟩), .lit (.int .i64 0)] = (nthI (rows.map Ta.dec) (j : Int)).enc := nth_rowsk (f := Ta.enc) rfl h j

structure Th where
 fb : Tt
 fd : Bool
 fg : Int
 fOf : List (Int × Ta)
 fe : Int
instance : Inhabited Th := ⟨Th.mk (Tt.mk 0 0) false 0 [] 0⟩
@[simp] def Th.enc (x : Th) (i0 : Nat) : List AV := [.lit (.int .i64 x.fb.fk), .lit (.int .i64 x.fb.fp), .lit (.bool x.fd), .lit (.int .i64 x.fg), .mp i0, .lit (.int .i64 x.fe)]
@[simp] def Th.dec : List AV → (List (Int × Ta)) → Th
 | [.lit (.int .i64 a0), .lit (.int .i64 a1), .lit (.bool a2), .lit (.int .i64 a3), .mp _, .lit (.int .i64 a5)], a4 => (Th.mk (Tt.mk a0 a1) a2 a3 a4 a5)
 | _, _ => default
@[simp] theorem Th.eta (x : Th) : Th.mk x.fb x.fd x.fg x.fOf x.fe = x := by cases x; rfl

structure Tg where
 fk : Int
 fp : Int
 fd : Bool
 fg : Int
 fL : List Ta
 fe : Int
instance : Inhabited Tg := ⟨Tg.mk 0 0 false 0 [] 0⟩
@[simp] def Tg.enc (x : Tg) : List AV := [.lit (.int .i64 x.fk), .lit (.int .i64 x.fp), .lit (.bool x.fd), .lit (.int .i64 x.fg), .sl (x.fL.map Ta.enc) .no, .lit (.int .i64 x.fe)]
@[simp] def Tg.dec : List AV → Tg
 | [.lit (.int .i64 a0), .lit (.int .i64 a1), .lit (.bool a2), .lit (.int .i64 a3), .sl a4 _, .lit (.int .i64 a5)] => (Tg.mk a0 a1 a2 a3 (a4.map Ta.dec) a5)
 | _ => default
@[simp] theorem Tg.eta (x : Tg) : Tg.mk x.fk x.fp x.fd x.fg x.fL x.fe = x := by cases x; rfl
theorem Tg.dec_enc (x : Tg) : Tg.dec x.enc = x := by simp
@[simp] theorem Tg.comp : Tg.dec ∘ Tg.enc = id := funext Tg.dec_enc
@[simp] theorem Tg.comp2 : (Tg.enc ∘ Tg.dec) ∘ Tg.enc = Tg.enc := funext fun x => by simp [Function.comp]
@[simp low] theorem Tg.nthk {rows : List (List AV)} (j : Nat) (h : rows = (rows.map Tg.dec).map Tg.enc) : nthL rows j [.lit (.int .i64 0), .lit (.int .i64 0), .lit (.bool false), .lit (.int .i64 0), .sl [] .no, .lit (.int .i64 0)] = (nthI (rows.map Tg.dec) (j : Int)).enc := nth_rowsk (f := Tg.enc) rfl h j

structure Tu where
 fu : Bool
 fw : Int
 fj : Int
 fp : Int
instance : Inhabited Tu := ⟨Tu.mk false 0 0 0⟩
@[simp] def Tu.enc (x : Tu) : List AV := [.lit (.bool x.fu), .lit (.int .i64 x.fw), .lit (.int .i64 x.fj), .lit (.int .i64 x.fp)]
@[simp] def Tu.dec : List AV → Tu
 | [.lit (.bool a0), .lit (.int .i64 a1), .lit (.int .i64 a2), .lit (.int .i64 a3)] => (Tu.mk a0 a1 a2 a3)
 | _ => default
@[simp] theorem Tu.eta (x : Tu) : Tu.mk x.fu x.fw x.fj x.fp = x := by cases x; rfl
theorem Tu.dec_enc (x : Tu) : Tu.dec x.enc = x := by simp
@[simp] theorem Tu.comp : Tu.dec ∘ Tu.enc = id := funext Tu.dec_enc
@[simp] theorem Tu.comp2 : (Tu.enc ∘ Tu.dec) ∘ Tu.enc = Tu.enc := funext fun x => by simp [Function.comp]
@[simp low] theorem Tu.nthk {rows : List (List AV)} (j : Nat) (h : rows = (rows.map Tu.dec).map Tu.enc) : nthL rows j [.lit (.bool false), .lit (.int .i64 0), .lit (.int .i64 0), .lit (.int .i64 0)] = (nthI (rows.map Tu.dec) (j : Int)).enc := nth_rowsk (f := Tu.enc) rfl h j

structure Tc where
 fAt : Int
 fT : Int
 fC : Bool
 fz : Bool
 fJ : Bool
 fU : ByteArray
 fO : Int
instance : Inhabited Tc := ⟨Tc.mk 0 0 false false false ⟨⟨[]⟩⟩ 0⟩
@[simp] def Tc.enc (x : Tc) : List AV := [.lit (.int .i64 x.fAt), .lit (.int .i64 x.fT), .lit (.bool x.fC), .lit (.bool x.fz), .lit (.bool x.fJ), .lit (.string x.fU), .lit (.int .i64 x.fO)]
@[simp] def Tc.dec : List AV → Tc
 | [.lit (.int .i64 a0), .lit (.int .i64 a1), .lit (.bool a2), .lit (.bool a3), .lit (.bool a4), .lit (.string a5), .lit (.int .i64 a6)] => (Tc.mk a0 a1 a2 a3 a4 a5 a6)
 | _ => default
@[simp] theorem Tc.eta (x : Tc) : Tc.mk x.fAt x.fT x.fC x.fz x.fJ x.fU x.fO = x := by cases x; rfl
theorem Tc.dec_enc (x : Tc) : Tc.dec x.enc = x := by simp
@[simp] theorem Tc.comp : Tc.dec ∘ Tc.enc = id := funext Tc.dec_enc
@[simp] theorem Tc.comp2 : (Tc.enc ∘ Tc.dec) ∘ Tc.enc = Tc.enc := funext fun x => by simp [Function.comp]
@[simp] theorem Tc.bel (l : List Tc) (n : Nat) : belLL n (l.map Tc.enc) := bel_map (fun x => by simp) l
@[simp] theorem Tc.ren (σ : Nat → Nat) (l : List Tc) : renLL σ (l.map Tc.enc) = l.map Tc.enc := ren_map (fun x => by simp) l
@[simp] theorem Tc.nth {rows : List (List AV)} (n : Int) (h : rows = (rows.map Tc.dec).map Tc.enc) : nthL rows n.toNat [.lit (.int .i64 0), .lit (.int .i64 0), .lit (.bool false), .lit (.bool false), .lit (.bool false), .lit (.string ⟨⟨[]⟩⟩), .lit (.int .i64 0)] = (nthI (rows.map Tc.dec) n).enc := nth_rows (f := Tc.enc) rfl h n
@[simp low] theorem Tc.nthk {rows : List (List AV)} (j : Nat) (h : rows = (rows.map Tc.dec).map Tc.enc) : nthL rows j [.lit (.int .i64 0), .lit (.int .i64 0), .lit (.bool false), .lit (.bool false), .lit (.bool false), .lit (.string ⟨⟨[]⟩⟩), .lit (.int .i64 0)] = (nthI (rows.map Tc.dec) (j : Int)).enc := nth_rowsk (f := Tc.enc) rfl h j

structure Tl where
 fj : List Tc
instance : Inhabited Tl := ⟨Tl.mk []⟩
@[simp] def Tl.enc (x : Tl) : List AV := [.sl (x.fj.map Tc.enc) .no]
@[simp] def Tl.dec : List AV → Tl
 | [.sl a0 _] => (Tl.mk (a0.map Tc.dec))
 | _ => default
@[simp] theorem Tl.eta (x : Tl) : Tl.mk x.fj = x := by cases x; rfl
theorem Tl.dec_enc (x : Tl) : Tl.dec x.enc = x := by simp
@[simp] theorem Tl.comp : Tl.dec ∘ Tl.enc = id := funext Tl.dec_enc
@[simp] theorem Tl.comp2 : (Tl.enc ∘ Tl.dec) ∘ Tl.enc = Tl.enc := funext fun x => by simp [Function.comp]
@[simp] theorem Tl.bel (l : List Tl) (n : Nat) : belLL n (l.map Tl.enc) := bel_map (fun x => by simp) l
@[simp] theorem Tl.ren (σ : Nat → Nat) (l : List Tl) : renLL σ (l.map Tl.enc) = l.map Tl.enc := ren_map (fun x => by simp) l
@[simp] theorem Tl.nth {rows : List (List AV)} (n : Int) (h : rows = (rows.map Tl.dec).map Tl.enc) : nthL rows n.toNat [.sl [] .no] = (nthI (rows.map Tl.dec) n).enc := nth_rows (f := Tl.enc) rfl h n
@[simp low] theorem Tl.nthk {rows : List (List AV)} (j : Nat) (h : rows = (rows.map Tl.dec).map Tl.enc) : nthL rows j [.sl [] .no] = (nthI (rows.map Tl.dec) (j : Int)).enc := nth_rowsk (f := Tl.enc) rfl h j

structure Tn where
 fb : Tu
 fv : Tl
 fy : Int
 fe : Int
instance : Inhabited Tn := ⟨Tn.mk (Tu.mk false 0 0 0) (Tl.mk []) 0 0⟩
@[simp] def Tn.enc (x : Tn) : List AV := [.lit (.bool x.fb.fu), .lit (.int .i64 x.fb.fw), .lit (.int .i64 x.fb.fj), .lit (.int .i64 x.fb.fp), .sl (x.fv.fj.map Tc.enc) .no, .lit (.int .i64 x.fy), .lit (.int .i64 x.fe)]
@[simp] def Tn.dec : List AV → Tn
 | [.lit (.bool a0), .lit (.int .i64 a1), .lit (.int .i64 a2), .lit (.int .i64 a3), .sl a4 _, .lit (.int .i64 a5), .lit (.int .i64 a6)] => (Tn.mk (Tu.mk a0 a1 a2 a3) (Tl.mk (a4.map Tc.dec)) a5 a6)
 | _ => default
@[simp] theorem Tn.eta (x : Tn) : Tn.mk x.fb x.fv x.fy x.fe = x := by cases x; rfl
theorem Tn.dec_enc (x : Tn) : Tn.dec x.enc = x := by simp
@[simp] theorem Tn.comp : Tn.dec ∘ Tn.enc = id := funext Tn.dec_enc
@[simp] theorem Tn.comp2 : (Tn.enc ∘ Tn.dec) ∘ Tn.enc = Tn.enc := funext fun x => by simp [Function.comp]
@[simp low] theorem Tn.nthk {rows : List (List AV)} (j : Nat) (h : rows = (rows.map Tn.dec).map Tn.enc) : nthL rows j [.lit (.bool false), .lit (.int .i64 0), .lit (.int .i64 0), .lit (.int .i64 0), .sl [] .no, .lit (.int .i64 0), .lit (.int .i64 0)] = (nthI (rows.map Tn.dec) (j : Int)).enc := nth_rowsk (f := Tn.enc) rfl h j

structure Ts where
 fu : Bool
 fw : Int
 fj : Int
 fp : Int
 fv : List Tc
 fy : Int
 fe : Int
instance : Inhabited Ts := ⟨Ts.mk false 0 0 0 [] 0 0⟩
@[simp] def Ts.enc (x : Ts) : List AV := [.lit (.bool x.fu), .lit (.int .i64 x.fw), .lit (.int .i64 x.fj), .lit (.int .i64 x.fp), .sl (x.fv.map Tc.enc) .no, .lit (.int .i64 x.fy), .lit (.int .i64 x.fe)]
@[simp] def Ts.dec : List AV → Ts
 | [.lit (.bool a0), .lit (.int .i64 a1), .lit (.int .i64 a2), .lit (.int .i64 a3), .sl a4 _, .lit (.int .i64 a5), .lit (.int .i64 a6)] => (Ts.mk a0 a1 a2 a3 (a4.map Tc.dec) a5 a6)
 | _ => default
@[simp] theorem Ts.eta (x : Ts) : Ts.mk x.fu x.fw x.fj x.fp x.fv x.fy x.fe = x := by cases x; rfl
theorem Ts.dec_enc (x : Ts) : Ts.dec x.enc = x := by simp
@[simp] theorem Ts.comp : Ts.dec ∘ Ts.enc = id := funext Ts.dec_enc
@[simp] theorem Ts.comp2 : (Ts.enc ∘ Ts.dec) ∘ Ts.enc = Ts.enc := funext fun x => by simp [Function.comp]
@[simp low] theorem Ts.nthk {rows : List (List AV)} (j : Nat) (h : rows = (rows.map Ts.dec).map Ts.enc) : nthL rows j [.lit (.bool false), .lit (.int .i64 0), .lit (.int .i64 0), .lit (.int .i64 0), .sl [] .no, .lit (.int .i64 0), .lit (.int .i64 0)] = (nthI (rows.map Ts.dec) (j : Int)).enc := nth_rowsk (f := Ts.enc) rfl h j

structure Tq where
 fS : ByteArray
 fE : Int
instance : Inhabited Tq := ⟨Tq.mk ⟨⟨[]⟩⟩ 0⟩
@[simp] def Tq.enc (x : Tq) : List AV := [.lit (.string x.fS), .lit (.int .i64 x.fE)]
@[simp] def Tq.dec : List AV → Tq
 | [.lit (.string a0), .lit (.int .i64 a1)] => (Tq.mk a0 a1)
 | _ => default
@[simp] theorem Tq.eta (x : Tq) : Tq.mk x.fS x.fE = x := by cases x; rfl
theorem Tq.dec_enc (x : Tq) : Tq.dec x.enc = x := by simp
@[simp] theorem Tq.comp : Tq.dec ∘ Tq.enc = id := funext Tq.dec_enc
@[simp] theorem Tq.comp2 : (Tq.enc ∘ Tq.dec) ∘ Tq.enc = Tq.enc := funext fun x => by simp [Function.comp]
@[simp low] theorem Tq.nthk {rows : List (List AV)} (j : Nat) (h : rows = (rows.map Tq.dec).map Tq.enc) : nthL rows j [.lit (.string ⟨⟨[]⟩⟩), .lit (.int .i64 0)] = (nthI (rows.map Tq.dec) (j : Int)).enc := nth_rowsk (f := Tq.enc) rfl h j

structure Te where
 fI : Bool
 fz : Bool
 fD : Int
 fB : Int
 fR : Bool
 fG : Int
 fH : Int
 fQ : Bool
 fJ : Int
instance : Inhabited Te := ⟨Te.mk false false 0 0 false 0 0 false 0⟩
@[simp] def Te.enc (x : Te) : List AV := [.lit (.bool x.fI), .lit (.bool x.fz), .lit (.int .i64 x.fD), .lit (.int .i64 x.fB), .lit (.bool x.fR), .lit (.int .i64 x.fG), .lit (.int .i64 x.fH), .lit (.bool x.fQ), .lit (.int .i64 x.fJ)]
@[simp] def Te.dec : List AV → Te
 | [.lit (.bool a0), .lit (.bool a1), .lit (.int .i64 a2), .lit (.int .i64 a3), .lit (.bool a4), .lit (.int .i64 a5), .lit (.int .i64 a6), .lit (.bool a7), .lit (.int .i64 a8)] => (Te.mk a0 a1 a2 a3 a4 a5 a6 a7 a8)
 | _ => default
@[simp] theorem Te.eta (x : Te) : Te.mk x.fI x.fz x.fD x.fB x.fR x.fG x.fH x.fQ x.fJ = x := by cases x; rfl
theorem Te.dec_enc (x : Te) : Te.dec x.enc = x := by simp
@[simp] theorem Te.comp : Te.dec ∘ Te.enc = id := funext Te.dec_enc
@[simp] theorem Te.comp2 : (Te.enc ∘ Te.dec) ∘ Te.enc = Te.enc := funext fun x => by simp [Function.comp]
@[simp low] theorem Te.nthk {rows : List (List AV)} (j : Nat) (h : rows = (rows.map Te.dec).map Te.enc) : nthL rows j [.lit (.bool false), .lit (.bool false), .lit (.int .i64 0), .lit (.int .i64 0), .lit (.bool false), .lit (.int .i64 0), .lit (.int .i64 0), .lit (.bool false), .lit (.int .i64 0)] = (nthI (rows.map Te.dec) (j : Int)).enc := nth_rowsk (f := Te.enc) rfl h j

structure Tk where
 fS : ByteArray
 fE : Int
instance : Inhabited Tk := ⟨Tk.mk ⟨⟨[]⟩⟩ 0⟩
@[simp] def Tk.enc (x : Tk) : List AV := [.lit (.string x.fS), .lit (.int .i64 x.fE)]
@[simp] def Tk.dec : List AV → Tk
 | [.lit (.string a0), .lit (.int .i64 a1)] => (Tk.mk a0 a1)
 | _ => default
@[simp] theorem Tk.eta (x : Tk) : Tk.mk x.fS x.fE = x := by cases x; rfl
theorem Tk.dec_enc (x : Tk) : Tk.dec x.enc = x := by simp
@[simp] theorem Tk.comp : Tk.dec ∘ Tk.enc = id := funext Tk.dec_enc
@[simp] theorem Tk.comp2 : (Tk.enc ∘ Tk.dec) ∘ Tk.enc = Tk.enc := funext fun x => by simp [Function.comp]
@[simp low] theorem Tk.nthk {rows : List (List AV)} (j : Nat) (h : rows = (rows.map Tk.dec).map Tk.enc) : nthL rows j [.lit (.string ⟨⟨[]⟩⟩), .lit (.int .i64 0)] = (nthI (rows.map Tk.dec) (j : Int)).enc := nth_rowsk (f := Tk.enc) rfl h j

structure Tx where
 fd : Bool
 fk : Int
 fW : Int
 fK : Int
 fA : Int
instance : Inhabited Tx := ⟨Tx.mk false 0 0 0 0⟩
@[simp] def Tx.enc (x : Tx) : List AV := [.lit (.bool x.fd), .lit (.int .i64 x.fk), .lit (.int .u16 x.fW), .lit (.int .i64 x.fK), .lit (.int .i64 x.fA)]
@[simp] def Tx.dec : List AV → Tx
 | [.lit (.bool a0), .lit (.int .i64 a1), .lit (.int .u16 a2), .lit (.int .i64 a3), .lit (.int .i64 a4)] => (Tx.mk a0 a1 a2 a3 a4)
 | _ => default
@[simp] theorem Tx.eta (x : Tx) : Tx.mk x.fd x.fk x.fW x.fK x.fA = x := by cases x; rfl
theorem Tx.dec_enc (x : Tx) : Tx.dec x.enc = x := by simp
@[simp] theorem Tx.comp : Tx.dec ∘ Tx.enc = id := funext Tx.dec_enc
@[simp] theorem Tx.comp2 : (Tx.enc ∘ Tx.dec) ∘ Tx.enc = Tx.enc := funext fun x => by simp [Function.comp]
@[simp low] theorem Tx.nthk {rows : List (List AV)} (j : Nat) (h : rows = (rows.map Tx.dec).map Tx.enc) : nthL rows j [.lit (.bool false), .lit (.int .i64 0), .lit (.int .u16 0), .lit (.int .i64 0), .lit (.int .i64 0)] = (nthI (rows.map Tx.dec) (j : Int)).enc := nth_rowsk (f := Tx.enc) rfl h j

structure Tw where
 fd : Bool
 fX : Int
instance : Inhabited Tw := ⟨Tw.mk false 0⟩
@[simp] def Tw.enc (x : Tw) : List AV := [.lit (.bool x.fd), .lit (.int .i64 x.fX)]
@[simp] def Tw.dec : List AV → Tw
 | [.lit (.bool a0), .lit (.int .i64 a1)] => (Tw.mk a0 a1)
 | _ => default
@[simp] theorem Tw.eta (x : Tw) : Tw.mk x.fd x.fX = x := by cases x; rfl
theorem Tw.dec_enc (x : Tw) : Tw.dec x.enc = x := by simp
@[simp] theorem Tw.comp : Tw.dec ∘ Tw.enc = id := funext Tw.dec_enc
@[simp] theorem Tw.comp2 : (Tw.enc ∘ Tw.dec) ∘ Tw.enc = Tw.enc := funext fun x => by simp [Function.comp]
@[simp low] theorem Tw.nthk {rows : List (List AV)} (j : Nat) (h : rows = (rows.map Tw.dec).map Tw.enc) : nthL rows j [.lit (.bool false), .lit (.int .i64 0)] = (nthI (rows.map Tw.dec) (j : Int)).enc := nth_rowsk (f := Tw.enc) rfl h j

structure Tb where
 fC : Bool
 fac : Int
 ff : Int
 fT : Int
 fad : Int
 fab : List Int
 faf : Bool
 fZ : Int
 fae : ByteArray
 fF : ByteArray
 faa : Int
instance : Inhabited Tb := ⟨Tb.mk false 0 0 0 0 [] false 0 ⟨⟨[]⟩⟩ ⟨⟨[]⟩⟩ 0⟩
@[simp] def Tb.enc (x : Tb) : List AV := [.lit (.bool x.fC), .lit (.int .u8 x.fac), .lit (.int .u16 x.ff), .lit (.int .u32 x.fT), .lit (.int .u32 x.fad), .sl (x.fab.map (eNum .u32)) .no, .lit (.bool x.faf), .lit (.int .u16 x.fZ), .lit (.string x.fae), .lit (.string x.fF), .lit (.int .i64 x.faa)]
@[simp] def Tb.dec : List AV → Tb
 | [.lit (.bool a0), .lit (.int .u8 a1), .lit (.int .u16 a2), .lit (.int .u32 a3), .lit (.int .u32 a4), .sl a5 _, .lit (.bool a6), .lit (.int .u16 a7), .lit (.string a8), .lit (.string a9), .lit (.int .i64 a10)] => (Tb.mk a0 a1 a2 a3 a4 (a5.map decI) a6 a7 a8 a9 a10)
 | _ => default
@[simp] theorem Tb.eta (x : Tb) : Tb.mk x.fC x.fac x.ff x.fT x.fad x.fab x.faf x.fZ x.fae x.fF x.faa = x := by cases x; rfl
theorem Tb.dec_enc (x : Tb) : Tb.dec x.enc = x := by simp
@[simp] theorem Tb.comp : Tb.dec ∘ Tb.enc = id := funext Tb.dec_enc
@[simp] theorem Tb.comp2 : (Tb.enc ∘ Tb.dec) ∘ Tb.enc = Tb.enc := funext fun x => by simp [Function.comp]
@[simp] theorem Tb.bel (l : List Tb) (n : Nat) : belLL n (l.map Tb.enc) := bel_map (fun x => by simp) l
@[simp] theorem Tb.ren (σ : Nat → Nat) (l : List Tb) : renLL σ (l.map Tb.enc) = l.map Tb.enc := ren_map (fun x => by simp) l
@[simp] theorem Tb.vren (σ : Nat → Nat) (x : Tb) : (vA Tb.enc x).ren σ = vA Tb.enc x := vA_ren_eq (fun x => by simp) x
@[simp] theorem Tb.mrenI (σ : Nat → Nat) (k : IntKind) (m : List (Int × Tb)) : (AObj.mapo (encM (kI k) (vA Tb.enc) m)).ren σ = .mapo (encM (kI k) (vA Tb.enc) m) := encM_ren (fun _ => rfl) (Tb.vren σ) m
@[simp] theorem Tb.mbelI (n : Nat) (k : IntKind) (m : List (Int × Tb)) : (AObj.mapo (encM (kI k) (vA Tb.enc) m)).bel n ↔ True := encM_bel (fun _ => by simp) (fun x => by simp) m
@[simp] theorem Tb.mdecI (k : IntKind) (m : List (Int × Tb)) : decM dkI (dvA Tb.dec) (encM (kI k) (vA Tb.enc) m) = m := decM_encM (fun _ => rfl) (fun x => by simp) m
@[simp] theorem Tb.getVI (k : IntKind) (x : Int) (m : List (Int × Tb)) : getV (.int k x) (.agg [.lit (.bool false), .lit (.int .u8 0), .lit (.int .u16 0), .lit (.int .u32 0), .lit (.int .u32 0), .sl [] .no, .lit (.bool false), .lit (.int .u16 0), .lit (.string ⟨⟨[]⟩⟩), .lit (.string ⟨⟨[]⟩⟩), .lit (.int .i64 0)]) (encM (kI k) (vA Tb.enc) m) = .agg (Tb.enc (getM eqI x (Tb.mk false 0 0 0 0 [] false 0 ⟨⟨[]⟩⟩ ⟨⟨[]⟩⟩ 0) m)) := getV_I (vE := vA Tb.enc) (d := (Tb.mk false 0 0 0 0 [] false 0 ⟨⟨[]⟩⟩ ⟨⟨[]⟩⟩ 0)) (by simp [vA]) x m
@[simp] theorem Tb.setVI (k : IntKind) (x : Int) (l : List AV) (h : l = Tb.enc (Tb.dec l)) (m : List (Int × Tb)) : setV (.int k x) (.agg l) (encM (kI k) (vA Tb.enc) m) = encM (kI k) (vA Tb.enc) (setM eqI x (Tb.dec l) m) := setV_I (vE := vA Tb.enc) (v := Tb.dec l) (congrArg AV.agg h) x m
@[simp] theorem Tb.nth {rows : List (List AV)} (n : Int) (h : rows = (rows.map Tb.dec).map Tb.enc) : nthL rows n.toNat [.lit (.bool false), .lit (.int .u8 0), .lit (.int .u16 0), .lit (.int .u32 0), .lit (.int .u32 0), .sl [] .no, .lit (.bool false), .lit (.int .u16 0), .lit (.string ⟨⟨[]⟩⟩), .lit (.string ⟨⟨[]⟩⟩), .lit (.int .i64 0)] = (nthI (rows.map Tb.dec) n).enc := nth_rows (f := Tb.enc) rfl h n
@[simp low] theorem Tb.nthk {rows : List (List AV)} (j : Nat) (h : rows = (rows.map Tb.dec).map Tb.enc) : nthL rows j [.lit (.bool false), .lit (.int .u8 0), .lit (.int .u16 0), .lit (.int .u32 0), .lit (.int .u32 0), .sl [] .no, .lit (.bool false), .lit (.int .u16 0), .lit (.string ⟨⟨[]⟩⟩), .lit (.string ⟨⟨[]⟩⟩), .lit (.int .i64 0)] = (nthI (rows.map Tb.dec) (j : Int)).enc := nth_rowsk (f := Tb.enc) rfl h j

structure Tf where
 fa : Th
 fc : Tn
 ff : Tx
 fh : Tw
 fOf : List (Int × Tb)
 fq : Int
 fo : Int
instance : Inhabited Tf := ⟨Tf.mk (Th.mk (Tt.mk 0 0) false 0 [] 0) (Tn.mk (Tu.mk false 0 0 0) (Tl.mk []) 0 0) (Tx.mk false 0 0 0 0) (Tw.mk false 0) [] 0 0⟩
@[simp] def Tf.enc (x : Tf) (i0 : Nat) (i1 : Nat) (i2 : Nat) : List AV := [.ptr i0 0, .ptr i1 0, .lit (.bool x.ff.fd), .lit (.int .i64 x.ff.fk), .lit (.int .u16 x.ff.fW), .lit (.int .i64 x.ff.fK), .lit (.int .i64 x.ff.fA), .lit (.bool x.fh.fd), .lit (.int .i64 x.fh.fX), .mp i2, .lit (.int .i64 x.fq), .lit (.int .i64 x.fo)]
@[simp] def Tf.dec : List AV → Th → Tn → (List (Int × Tb)) → Tf
 | [.ptr _ _, .ptr _ _, .lit (.bool a2), .lit (.int .i64 a3), .lit (.int .u16 a4), .lit (.int .i64 a5), .lit (.int .i64 a6), .lit (.bool a7), .lit (.int .i64 a8), .mp _, .lit (.int .i64 a10), .lit (.int .i64 a11)], a0, a1, a9 => (Tf.mk a0 a1 (Tx.mk a2 a3 a4 a5 a6) (Tw.mk a7 a8) a9 a10 a11)
 | _, _, _, _ => default
@[simp] theorem Tf.eta (x : Tf) : Tf.mk x.fa x.fc x.ff x.fh x.fOf x.fq x.fo = x := by cases x; rfl

structure Tv where
 fd : Bool
 fk : Int
 fV : Int
 fK : Int
 fA : Int
instance : Inhabited Tv := ⟨Tv.mk false 0 0 0 0⟩
@[simp] def Tv.enc (x : Tv) : List AV := [.lit (.bool x.fd), .lit (.int .i64 x.fk), .lit (.int .i64 x.fV), .lit (.int .i64 x.fK), .lit (.int .i64 x.fA)]
@[simp] def Tv.dec : List AV → Tv
 | [.lit (.bool a0), .lit (.int .i64 a1), .lit (.int .i64 a2), .lit (.int .i64 a3), .lit (.int .i64 a4)] => (Tv.mk a0 a1 a2 a3 a4)
 | _ => default
@[simp] theorem Tv.eta (x : Tv) : Tv.mk x.fd x.fk x.fV x.fK x.fA = x := by cases x; rfl
theorem Tv.dec_enc (x : Tv) : Tv.dec x.enc = x := by simp
@[simp] theorem Tv.comp : Tv.dec ∘ Tv.enc = id := funext Tv.dec_enc
@[simp] theorem Tv.comp2 : (Tv.enc ∘ Tv.dec) ∘ Tv.enc = Tv.enc := funext fun x => by simp [Function.comp]
@[simp low] theorem Tv.nthk {rows : List (List AV)} (j : Nat) (h : rows = (rows.map Tv.dec).map Tv.enc) : nthL rows j [.lit (.bool false), .lit (.int .i64 0), .lit (.int .i64 0), .lit (.int .i64 0), .lit (.int .i64 0)] = (nthI (rows.map Tv.dec) (j : Int)).enc := nth_rowsk (f := Tv.enc) rfl h j

structure Ty where
 fm : Tt
 fM : Tu
instance : Inhabited Ty := ⟨Ty.mk (Tt.mk 0 0) (Tu.mk false 0 0 0)⟩
@[simp] def Ty.enc (x : Ty) : List AV := [.lit (.int .i64 x.fm.fk), .lit (.int .i64 x.fm.fp), .lit (.bool x.fM.fu), .lit (.int .i64 x.fM.fw), .lit (.int .i64 x.fM.fj), .lit (.int .i64 x.fM.fp)]
@[simp] def Ty.dec : List AV → Ty
 | [.lit (.int .i64 a0), .lit (.int .i64 a1), .lit (.bool a2), .lit (.int .i64 a3), .lit (.int .i64 a4), .lit (.int .i64 a5)] => (Ty.mk (Tt.mk a0 a1) (Tu.mk a2 a3 a4 a5))
 | _ => default
@[simp] theorem Ty.eta (x : Ty) : Ty.mk x.fm x.fM = x := by cases x; rfl
theorem Ty.dec_enc (x : Ty) : Ty.dec x.enc = x := by simp
@[simp] theorem Ty.comp : Ty.dec ∘ Ty.enc = id := funext Ty.dec_enc
@[simp] theorem Ty.comp2 : (Ty.enc ∘ Ty.dec) ∘ Ty.enc = Ty.enc := funext fun x => by simp [Function.comp]
@[simp low] theorem Ty.nthk {rows : List (List AV)} (j : Nat) (h : rows = (rows.map Ty.dec).map Ty.enc) : nthL rows j [.lit (.int .i64 0), .lit (.int .i64 0), .lit (.bool false), .lit (.int .i64 0), .lit (.int .i64 0), .lit (.int .i64 0)] = (nthI (rows.map Ty.dec) (j : Int)).enc := nth_rowsk (f := Ty.enc) rfl h j

structure Tj where
 fAt : Int
 fP : Tb
instance : Inhabited Tj := ⟨Tj.mk 0 (Tb.mk false 0 0 0 0 [] false 0 ⟨⟨[]⟩⟩ ⟨⟨[]⟩⟩ 0)⟩
@[simp] def Tj.enc (x : Tj) : List AV := [.lit (.int .i64 x.fAt), .lit (.bool x.fP.fC), .lit (.int .u8 x.fP.fac), .lit (.int .u16 x.fP.ff), .lit (.int .u32 x.fP.fT), .lit (.int .u32 x.fP.fad), .sl (x.fP.fab.map (eNum .u32)) .no, .lit (.bool x.fP.faf), .lit (.int .u16 x.fP.fZ), .lit (.string x.fP.fae), .lit (.string x.fP.fF), .lit (.int .i64 x.fP.faa)]
@[simp] def Tj.dec : List AV → Tj
 | [.lit (.int .i64 a0), .lit (.bool a1), .lit (.int .u8 a2), .lit (.int .u16 a3), .lit (.int .u32 a4), .lit (.int .u32 a5), .sl a6 _, .lit (.bool a7), .lit (.int .u16 a8), .lit (.string a9), .lit (.string a10), .lit (.int .i64 a11)] => (Tj.mk a0 (Tb.mk a1 a2 a3 a4 a5 (a6.map decI) a7 a8 a9 a10 a11))
 | _ => default
@[simp] theorem Tj.eta (x : Tj) : Tj.mk x.fAt x.fP = x := by cases x; rfl
theorem Tj.dec_enc (x : Tj) : Tj.dec x.enc = x := by simp
@[simp] theorem Tj.comp : Tj.dec ∘ Tj.enc = id := funext Tj.dec_enc
@[simp] theorem Tj.comp2 : (Tj.enc ∘ Tj.dec) ∘ Tj.enc = Tj.enc := funext fun x => by simp [Function.comp]
@[simp] theorem Tj.bel (l : List Tj) (n : Nat) : belLL n (l.map Tj.enc) := bel_map (fun x => by simp) l
@[simp] theorem Tj.ren (σ : Nat → Nat) (l : List Tj) : renLL σ (l.map Tj.enc) = l.map Tj.enc := ren_map (fun x => by simp) l
@[simp] theorem Tj.nth {rows : List (List AV)} (n : Int) (h : rows = (rows.map Tj.dec).map Tj.enc) : nthL rows n.toNat [.lit (.int .i64 0), .lit (.bool false), .lit (.int .u8 0), .lit (.int .u16 0), .lit (.int .u32 0), .lit (.int .u32 0), .sl [] .no, .lit (.bool false), .lit (.int .u16 0), .lit (.string ⟨⟨[]⟩⟩), .lit (.string ⟨⟨[]⟩⟩), .lit (.int .i64 0)] = (nthI (rows.map Tj.dec) n).enc := nth_rows (f := Tj.enc) rfl h n
@[simp low] theorem Tj.nthk {rows : List (List AV)} (j : Nat) (h : rows = (rows.map Tj.dec).map Tj.enc) : nthL rows j [.lit (.int .i64 0), .lit (.bool false), .lit (.int .u8 0), .lit (.int .u16 0), .lit (.int .u32 0), .lit (.int .u32 0), .sl [] .no, .lit (.bool false), .lit (.int .u16 0), .lit (.string ⟨⟨[]⟩⟩), .lit (.string ⟨⟨[]⟩⟩), .lit (.int .i64 0)] = (nthI (rows.map Tj.dec) (j : Int)).enc := nth_rowsk (f := Tj.enc) rfl h j

structure Td where
 ff : Tv
 fh : Int
 fm : Tg
 fc : Ts
 fL : List Tj
 fq : Int
 fo : Int
instance : Inhabited Td := ⟨Td.mk (Tv.mk false 0 0 0 0) 0 (Tg.mk 0 0 false 0 [] 0) (Ts.mk false 0 0 0 [] 0 0) [] 0 0⟩
@[simp] def Td.enc (x : Td) : List AV := [.lit (.bool x.ff.fd), .lit (.int .i64 x.ff.fk), .lit (.int .i64 x.ff.fV), .lit (.int .i64 x.ff.fK), .lit (.int .i64 x.ff.fA), .lit (.int .i64 x.fh), .lit (.int .i64 x.fm.fk), .lit (.int .i64 x.fm.fp), .lit (.bool x.fm.fd), .lit (.int .i64 x.fm.fg), .sl (x.fm.fL.map Ta.enc) .no, .lit (.int .i64 x.fm.fe), .lit (.bool x.fc.fu), .lit (.int .i64 x.fc.fw), .lit (.int .i64 x.fc.fj), .lit (.int .i64 x.fc.fp), .sl (x.fc.fv.map Tc.enc) .no, .lit (.int .i64 x.fc.fy), .lit (.int .i64 x.fc.fe), .sl (x.fL.map Tj.enc) .no, .lit (.int .i64 x.fq), .lit (.int .i64 x.fo)]
@[simp] def Td.dec : List AV → Td
 | [.lit (.bool a0), .lit (.int .i64 a1), .lit (.int .i64 a2), .lit (.int .i64 a3), .lit (.int .i64 a4), .lit (.int .i64 a5), .lit (.int .i64 a6), .lit (.int .i64 a7), .lit (.bool a8), .lit (.int .i64 a9), .sl a10 _, .lit (.int .i64 a11), .lit (.bool a12), .lit (.int .i64 a13), .lit (.int .i64 a14), .lit (.int .i64 a15), .sl a16 _, .lit (.int .i64 a17), .lit (.int .i64 a18), .sl a19 _, .lit (.int .i64 a20), .lit (.int .i64 a21)] => (Td.mk (Tv.mk a0 a1 a2 a3 a4) a5 (Tg.mk a6 a7 a8 a9 (a10.map Ta.dec) a11) (Ts.mk a12 a13 a14 a15 (a16.map Tc.dec) a17 a18) (a19.map Tj.dec) a20 a21)
 | _ => default
@[simp] theorem Td.eta (x : Td) : Td.mk x.ff x.fh x.fm x.fc x.fL x.fq x.fo = x := by cases x; rfl
theorem Td.dec_enc (x : Td) : Td.dec x.enc = x := by simp
@[simp] theorem Td.comp : Td.dec ∘ Td.enc = id := funext Td.dec_enc
@[simp] theorem Td.comp2 : (Td.enc ∘ Td.dec) ∘ Td.enc = Td.enc := funext fun x => by simp [Function.comp]
@[simp low] theorem Td.nthk {rows : List (List AV)} (j : Nat) (h : rows = (rows.map Td.dec).map Td.enc) : nthL rows j [.lit (.bool false), .lit (.int .i64 0), .lit (.int .i64 0), .lit (.int .i64 0), .lit (.int .i64 0), .lit (.int .i64 0), .lit (.int .i64 0), .lit (.int .i64 0), .lit (.bool false), .lit (.int .i64 0), .sl [] .no, .lit (.int .i64 0), .lit (.bool false), .lit (.int .i64 0), .lit (.int .i64 0), .lit (.int .i64 0), .sl [] .no, .lit (.int .i64 0), .lit (.int .i64 0), .sl [] .no, .lit (.int .i64 0), .lit (.int .i64 0)] = (nthI (rows.map Td.dec) (j : Int)).enc := nth_rowsk (f := Td.enc) rfl h j

structure Tp where
 fY : Int
 fN : Int
 fS : ByteArray
instance : Inhabited Tp := ⟨Tp.mk 0 0 ⟨⟨[]⟩⟩⟩
@[simp] def Tp.enc (x : Tp) : List AV := [.lit (.int .i64 x.fY), .lit (.int .i64 x.fN), .lit (.string x.fS)]
@[simp] def Tp.dec : List AV → Tp
 | [.lit (.int .i64 a0), .lit (.int .i64 a1), .lit (.string a2)] => (Tp.mk a0 a1 a2)
 | _ => default
@[simp] theorem Tp.eta (x : Tp) : Tp.mk x.fY x.fN x.fS = x := by cases x; rfl
theorem Tp.dec_enc (x : Tp) : Tp.dec x.enc = x := by simp
@[simp] theorem Tp.comp : Tp.dec ∘ Tp.enc = id := funext Tp.dec_enc
@[simp] theorem Tp.comp2 : (Tp.enc ∘ Tp.dec) ∘ Tp.enc = Tp.enc := funext fun x => by simp [Function.comp]
@[simp] theorem Tp.bel (l : List Tp) (n : Nat) : belLL n (l.map Tp.enc) := bel_map (fun x => by simp) l
@[simp] theorem Tp.nth {rows : List (List AV)} (n : Int) (h : rows = (rows.map Tp.dec).map Tp.enc) : nthL rows n.toNat [.lit (.int .i64 0), .lit (.int .i64 0), .lit (.string ⟨⟨[]⟩⟩)] = (nthI (rows.map Tp.dec) n).enc := nth_rows (f := Tp.enc) rfl h n
@[simp low] theorem Tp.nthk {rows : List (List AV)} (j : Nat) (h : rows = (rows.map Tp.dec).map Tp.enc) : nthL rows j [.lit (.int .i64 0), .lit (.int .i64 0), .lit (.string ⟨⟨[]⟩⟩)] = (nthI (rows.map Tp.dec) (j : Int)).enc := nth_rowsk (f := Tp.enc) rfl h j
end Go.Ab
