/- The types of these functions. No condition. -/
import Derived.Test.YtbijdlgffebenaaNx
namespace Go.Ab

structure Tk where
 fk : Int
 fq : Int
instance : Inhabited Tk := ⟨Tk.mk 0 0⟩
@[simp] def Tk.enc (x : Tk) : List AV := [.lit (.int .i64 x.fk), .lit (.int .i64 x.fq)]
@[simp] def Tk.dec : List AV → Tk
 | [.lit (.int .i64 a0), .lit (.int .i64 a1)] => (Tk.mk a0 a1)
 | _ => default
@[simp] theorem Tk.eta (x : Tk) : Tk.mk x.fk x.fq = x := by cases x; rfl
theorem Tk.dec_enc (x : Tk) : Tk.dec x.enc = x := by simp
@[simp] theorem Tk.comp : Tk.dec ∘ Tk.enc = id := funext Tk.dec_enc
@[simp] theorem Tk.comp2 : (Tk.enc ∘ Tk.dec) ∘ Tk.enc = Tk.enc := funext fun x => by simp [Function.comp]
@[simp] theorem Tk.bel (l : List Tk) (n : Nat) : belLL n (l.map Tk.enc) := bel_map (fun x => by simp) l
@[simp] theorem Tk.ren (σ : Nat → Nat) (l : List Tk) : renLL σ (l.map Tk.enc) = l.map Tk.enc := ren_map (fun x => by simp) l
@[simp] theorem Tk.nth {rows : List (List AV)} (n : Int) (h : rows = (rows.map Tk.dec).map Tk.enc) : nthL rows n.toNat [.lit (.int .i64 0), .lit (.int .i64 0)] = (nthI (rows.map Tk.dec) n).enc := nth_rows (f := Tk.enc) rfl h n
@[simp low] theorem Tk.nthk {rows : List (List AV)} (j : Nat) (h : rows = (rows.map Tk.dec).map Tk.enc) : nthL rows j [.lit (.int .i64 0), .lit (.int .i64 0)] = (nthI (rows.map Tk.dec) (j : Int)).enc := Ls (f := Tk.enc) rfl h j

structure Ta where
 fAt : Int
 fT : ByteArray
 fO : Int
instance : Inhabited Ta := ⟨Ta.mk 0 ⟨⟨[]⟩⟩ 0⟩
@[simp] def Ta.enc (x : Ta) : List AV := [.lit (.int .i64 x.fAt), .lit (.string x.fT), .lit (.int .i64 x.fO)]
@[simp] def Ta.dec : List AV → Ta
 | [.lit (.int .i64 a0), .lit (.string a1), .lit (.int .i64 a2)] => (Ta.mk a0 a1 a2)
 | _ => default
@[simp] theorem Ta.eta (x : Ta) : Ta.mk x.fAt x.fT x.fO = x := by cases x; rfl
theorem Ta.dec_enc (x : Ta) : Ta.dec x.enc = x := by simp
@[simp] theorem Ta.comp : Ta.dec ∘ Ta.enc = id := funext Ta.dec_enc
@[simp] theorem Ta.comp2 : (Ta.enc ∘ Ta.dec) ∘ Ta.enc = Ta.enc := funext fun x => by simp [Function.comp]
@[simp] theorem Ta.bel (l : List Ta) (n : Nat) : belLL n (l.map Ta.enc) := bel_map (fun x => by simp) l
@[simp] theorem Ta.ren (σ : Nat → Nat) (l : List Ta) : renLL σ (l.map Ta.enc) = l.map Ta.enc := ren_map (fun x => by simp) l
@[simp] theorem Ta.vren (σ : Nat → Nat) (x : Ta) : (vA Ta.enc x).ren σ = vA Ta.enc x := vA_ren_eq (fun x => by simp) x
@[simp] theorem Ta.mrenI (σ : Nat → Nat) (k : IntKind) (m : List (Int × Ta)) : (AObj.mapo (encM (kI k) (vA Ta.enc) m)).ren σ = .mapo (encM (kI k) (vA Ta.enc) m) := encM_ren (fun _ => rfl) (Ta.vren σ) m
@[simp] theorem Ta.mbelI (n : Nat) (k : IntKind) (m : List (Int × Ta)) : (AObj.mapo (encM (kI k) (vA Ta.enc) m)).bel n ↔ True := encM_bel (fun _ => by simp) (fun x => by simp) m
@[simp] theorem Ta.mdecI (k : IntKind) (m : List (Int × Ta)) : decM dkI (dvA Ta.dec) (encM (kI k) (vA Ta.enc) m) = m := decM_encM (fun _ => rfl) (fun x => by simp) m
@[simp] theorem Ta.mrenS (σ : Nat → Nat) (m : List (ByteArray × Ta)) : (AObj.mapo (encM kS (vA Ta.enc) m)).ren σ = .mapo (encM kS (vA Ta.enc) m) := encM_ren (fun _ => rfl) (Ta.vren σ) m
@[simp] theorem Ta.mbelS (n : Nat) (m : List (ByteArray × Ta)) : (AObj.mapo (encM kS (vA Ta.enc) m)).bel n ↔ True := encM_bel (fun _ => by simp) (fun x => by simp) m
@[simp] theorem Ta.mdecS (m : List (ByteArray × Ta)) : decM dkS (dvA Ta.dec) (encM kS (vA Ta.enc) m) = m := decM_encM (fun _ => rfl) (fun x => by simp) m
@[simp] theorem Ta.getVI (k : IntKind) (x : Int) (m : List (Int × Ta)) : getV (.int k x) (.agg [.lit (.int .i64 0), .lit (.string ⟨⟨[]⟩⟩), .lit (.int .i64 0)]) (encM (kI k) (vA Ta.enc) m) = .agg (Ta.enc (getM eqI x (Ta.mk 0 ⟨⟨[]⟩⟩ 0) m)) := getV_I (vE := vA Ta.enc) (d := (Ta.mk 0 ⟨⟨[]⟩⟩ 0)) (by simp [vA]) x m
@[simp] theorem Ta.setVI (k : IntKind) (x : Int) (l : List AV) (h : l = Ta.enc (Ta.dec l)) (m : List (Int × Ta)) : setV (.int k x) (.agg l) (encM (kI k) (vA Ta.enc) m) = encM (kI k) (vA Ta.enc) (setM eqI x (Ta.dec l) m) := setV_I (vE := vA Ta.enc) (v := Ta.dec l) (congrArg AV.agg h) x m
@[simp] theorem Ta.getVS (x : ByteArray) (m : List (ByteArray × Ta)) : getV (.string x) (.agg [.lit (.int .i64 0), .lit (.string ⟨⟨[]⟩⟩), .lit (.int .i64 0)]) (encM kS (vA Ta.enc) m) = .agg (Ta.enc (getM eqS x (Ta.mk 0 ⟨⟨[]⟩⟩ 0) m)) := getV_S (vE := vA Ta.enc) (d := (Ta.mk 0 ⟨⟨[]⟩⟩ 0)) (by simp [vA]) x m
@[simp] theorem Ta.setVS (x : ByteArray) (l : List AV) (h : l = Ta.enc (Ta.dec l)) (m : List (ByteArray × Ta)) : setV (.string x) (.agg l) (encM kS (vA Ta.enc) m) = encM kS (vA Ta.enc) (setM eqS x (Ta.dec l) m) := setV_S (vE := vA Ta.enc) (v := Ta.dec l) (congrArg AV.agg h) x m
@[simp] theorem Ta.nth {rows : List (List AV)} (n : Int) (h : rows = (rows.map Ta.dec).map Ta.enc) : nthL rows n.toNat [.lit (.int .i64 0), .lit (.string ⟨⟨[]⟩⟩), .lit (.int .i64 0)] = (nthI (rows.map Ta.dec) n).enc := nth_rows (f := Ta.enc) rfl h n
@[simp low] theorem Ta.nthk {rows : List (List AV)} (j : Nat) (h : rows = (rows.map Ta.dec).map Ta.enc) : nthL rows j [.lit (.int .i64 0), .lit (.string ⟨⟨[]⟩⟩), .lit (.int .i64 0)] = (nthI (rows.map Ta.dec) (j : Int)).enc := Ls (f := Ta.enc) rfl h j

structure Tg where
 fb : Tk
 fd : Bool
 fg : Int
 fOf : List (Int × Ta)
 fe : Int
instance : Inhabited Tg := ⟨Tg.mk (Tk.mk 0 0) false 0 [] 0⟩
@[simp] def Tg.enc (x : Tg) (i0 : Nat) : List AV := [.lit (.int .i64 x.fb.fk), .lit (.int .i64 x.fb.fq), .lit (.bool x.fd), .lit (.int .i64 x.fg), .mp i0, .lit (.int .i64 x.fe)]
@[simp] def Tg.dec : List AV → (List (Int × Ta)) → Tg
 | [.lit (.int .i64 a0), .lit (.int .i64 a1), .lit (.bool a2), .lit (.int .i64 a3), .mp _, .lit (.int .i64 a5)], a4 => (Tg.mk (Tk.mk a0 a1) a2 a3 a4 a5)
 | _, _ => default
@[simp] theorem Tg.eta (x : Tg) : Tg.mk x.fb x.fd x.fg x.fOf x.fe = x := by cases x; rfl

structure Tn where
 fk : Int
 fq : Int
 fd : Bool
 fg : Int
 fL : List Ta
 fe : Int
instance : Inhabited Tn := ⟨Tn.mk 0 0 false 0 [] 0⟩
@[simp] def Tn.enc (x : Tn) : List AV := [.lit (.int .i64 x.fk), .lit (.int .i64 x.fq), .lit (.bool x.fd), .lit (.int .i64 x.fg), .sl (x.fL.map Ta.enc) .no, .lit (.int .i64 x.fe)]
@[simp] def Tn.dec : List AV → Tn
 | [.lit (.int .i64 a0), .lit (.int .i64 a1), .lit (.bool a2), .lit (.int .i64 a3), .sl a4 _, .lit (.int .i64 a5)] => (Tn.mk a0 a1 a2 a3 (a4.map Ta.dec) a5)
 | _ => default
@[simp] theorem Tn.eta (x : Tn) : Tn.mk x.fk x.fq x.fd x.fg x.fL x.fe = x := by cases x; rfl
theorem Tn.dec_enc (x : Tn) : Tn.dec x.enc = x := by simp
@[simp] theorem Tn.comp : Tn.dec ∘ Tn.enc = id := funext Tn.dec_enc
@[simp] theorem Tn.comp2 : (Tn.enc ∘ Tn.dec) ∘ Tn.enc = Tn.enc := funext fun x => by simp [Function.comp]
@[simp] theorem Tn.bel (l : List Tn) (n : Nat) : belLL n (l.map Tn.enc) := bel_map (fun x => by simp) l
@[simp] theorem Tn.ren (σ : Nat → Nat) (l : List Tn) : renLL σ (l.map Tn.enc) = l.map Tn.enc := ren_map (fun x => by simp) l
@[simp] theorem Tn.nth {rows : List (List AV)} (n : Int) (h : rows = (rows.map Tn.dec).map Tn.enc) : nthL rows n.toNat [.lit (.int .i64 0), .lit (.int .i64 0), .lit (.bool false), .lit (.int .i64 0), .sl [] .no, .lit (.int .i64 0)] = (nthI (rows.map Tn.dec) n).enc := nth_rows (f := Tn.enc) rfl h n
@[simp low] theorem Tn.nthk {rows : List (List AV)} (j : Nat) (h : rows = (rows.map Tn.dec).map Tn.enc) : nthL rows j [.lit (.int .i64 0), .lit (.int .i64 0), .lit (.bool false), .lit (.int .i64 0), .sl [] .no, .lit (.int .i64 0)] = (nthI (rows.map Tn.dec) (j : Int)).enc := Ls (f := Tn.enc) rfl h j

structure Tp where
 fu : Bool
 fv : Int
 fj : Int
 fq : Int
instance : Inhabited Tp := ⟨Tp.mk false 0 0 0⟩
@[simp] def Tp.enc (x : Tp) : List AV := [.lit (.bool x.fu), .lit (.int .i64 x.fv), .lit (.int .i64 x.fj), .lit (.int .i64 x.fq)]
@[simp] def Tp.dec : List AV → Tp
 | [.lit (.bool a0), .lit (.int .i64 a1), .lit (.int .i64 a2), .lit (.int .i64 a3)] => (Tp.mk a0 a1 a2 a3)
 | _ => default
@[simp] theorem Tp.eta (x : Tp) : Tp.mk x.fu x.fv x.fj x.fq = x := by cases x; rfl
theorem Tp.dec_enc (x : Tp) : Tp.dec x.enc = x := by simp
@[simp] theorem Tp.comp : Tp.dec ∘ Tp.enc = id := funext Tp.dec_enc
@[simp] theorem Tp.comp2 : (Tp.enc ∘ Tp.dec) ∘ Tp.enc = Tp.enc := funext fun x => by simp [Function.comp]
@[simp] theorem Tp.bel (l : List Tp) (n : Nat) : belLL n (l.map Tp.enc) := bel_map (fun x => by simp) l
@[simp] theorem Tp.ren (σ : Nat → Nat) (l : List Tp) : renLL σ (l.map Tp.enc) = l.map Tp.enc := ren_map (fun x => by simp) l
@[simp] theorem Tp.nth {rows : List (List AV)} (n : Int) (h : rows = (rows.map Tp.dec).map Tp.enc) : nthL rows n.toNat [.lit (.bool false), .lit (.int .i64 0), .lit (.int .i64 0), .lit (.int .i64 0)] = (nthI (rows.map Tp.dec) n).enc := nth_rows (f := Tp.enc) rfl h n
@[simp low] theorem Tp.nthk {rows : List (List AV)} (j : Nat) (h : rows = (rows.map Tp.dec).map Tp.enc) : nthL rows j [.lit (.bool false), .lit (.int .i64 0), .lit (.int .i64 0), .lit (.int .i64 0)] = (nthI (rows.map Tp.dec) (j : Int)).enc := Ls (f := Tp.enc) rfl h j

structure Tc where
 fAt : Int
 fQ : Int
 fA : Bool
 fy : Bool
 fJ : Bool
 fT : ByteArray
 fO : Int
instance : Inhabited Tc := ⟨Tc.mk 0 0 false false false ⟨⟨[]⟩⟩ 0⟩
@[simp] def Tc.enc (x : Tc) : List AV := [.lit (.int .i64 x.fAt), .lit (.int .i64 x.fQ), .lit (.bool x.fA), .lit (.bool x.fy), .lit (.bool x.fJ), .lit (.string x.fT), .lit (.int .i64 x.fO)]
@[simp] def Tc.dec : List AV → Tc
 | [.lit (.int .i64 a0), .lit (.int .i64 a1), .lit (.bool a2), .lit (.bool a3), .lit (.bool a4), .lit (.string a5), .lit (.int .i64 a6)] => (Tc.mk a0 a1 a2 a3 a4 a5 a6)
 | _ => default
@[simp] theorem Tc.eta (x : Tc) : Tc.mk x.fAt x.fQ x.fA x.fy x.fJ x.fT x.fO = x := by cases x; rfl
theorem Tc.dec_enc (x : Tc) : Tc.dec x.enc = x := by simp
@[simp] theorem Tc.comp : Tc.dec ∘ Tc.enc = id := funext Tc.dec_enc
@[simp] theorem Tc.comp2 : (Tc.enc ∘ Tc.dec) ∘ Tc.enc = Tc.enc := funext fun x => by simp [Function.comp]
@[simp] theorem Tc.bel (l : List Tc) (n : Nat) : belLL n (l.map Tc.enc) := bel_map (fun x => by simp) l
@[simp] theorem Tc.ren (σ : Nat → Nat) (l : List Tc) : renLL σ (l.map Tc.enc) = l.map Tc.enc := ren_map (fun x => by simp) l
@[simp] theorem Tc.nth {rows : List (List AV)} (n : Int) (h : rows = (rows.map Tc.dec).map Tc.enc) : nthL rows n.toNat [.lit (.int .i64 0), .lit (.int .i64 0), .lit (.bool false), .lit (.bool false), .lit (.bool false), .lit (.string ⟨⟨[]⟩⟩), .lit (.int .i64 0)] = (nthI (rows.map Tc.dec) n).enc := nth_rows (f := Tc.enc) rfl h n
@[simp low] theorem Tc.nthk {rows : List (List AV)} (j : Nat) (h : rows = (rows.map Tc.dec).map Tc.enc) : nthL rows j [.lit (.int .i64 0), .lit (.int .i64 0), .lit (.bool false), .lit (.bool false), .lit (.bool false), .lit (.string ⟨⟨[]⟩⟩), .lit (.int .i64 0)] = (nthI (rows.map Tc.dec) (j : Int)).enc := Ls (f := Tc.enc) rfl h j

structure Tl where
 fj : List Tc
instance : Inhabited Tl := ⟨Tl.mk []⟩
@[simp] def Tl.enc (x : Tl) : List AV := [.sl (x.fj.map Tc.enc) .no]
@[simp] def Tl.dec : List AV → Tl
 | [.sl a0 _] => (Tl.mk (a0.map Tc.dec))
 | _ => default
@[simp] theorem Tl.eta (x : Tl) : Tl.mk x.fj = x := by cases x; rfl
theorem Tl.dec_enc (x : Tl) : Tl.dec x.enc = x := by simp
@[simp] theorem Tl.comp : Tl.dec ∘ Tl.enc = id := funext Tl.dec_enc
@[simp] theorem Tl.comp2 : (Tl.enc ∘ Tl.dec) ∘ Tl.enc = Tl.enc := funext fun x => by simp [Function.comp]
@[simp] theorem Tl.bel (l : List Tl) (n : Nat) : belLL n (l.map Tl.enc) := bel_map (fun x => by simp) l
@[simp] theorem Tl.ren (σ : Nat → Nat) (l : List Tl) : renLL σ (l.map Tl.enc) = l.map Tl.enc := ren_map (fun x => by simp) l
@[simp] theorem Tl.nth {rows : List (List AV)} (n : Int) (h : rows = (rows.map Tl.dec).map Tl.enc) : nthL rows n.toNat [.sl [] .no] = (nthI (rows.map Tl.dec) n).enc := nth_rows (f := Tl.enc) rfl h n
@[simp low] theorem Tl.nthk {rows : List (List AV)} (j : Nat) (h : rows = (rows.map Tl.dec).map Tl.enc) : nthL rows j [.sl [] .no] = (nthI (rows.map Tl.dec) (j : Int)).enc := Ls (f := Tl.enc) rfl h j

structure Th where
 fb : Tp
 fw : Tl
 fz : Int
 fe : Int
instance : Inhabited Th := ⟨Th.mk (Tp.mk false 0 0 0) (Tl.mk []) 0 0⟩
@[simp] def Th.enc (x : Th) : List AV := [.lit (.bool x.fb.fu), .lit (.int .i64 x.fb.fv), .lit (.int .i64 x.fb.fj), .lit (.int .i64 x.fb.fq), .sl (x.fw.fj.map Tc.enc) .no, .lit (.int .i64 x.fz), .lit (.int .i64 x.fe)]
@[simp] def Th.dec : List AV → Th
 | [.lit (.bool a0), .lit (.int .i64 a1), .lit (.int .i64 a2), .lit (.int .i64 a3), .sl a4 _, .lit (.int .i64 a5), .lit (.int .i64 a6)] => (Th.mk (Tp.mk a0 a1 a2 a3) (Tl.mk (a4.map Tc.dec)) a5 a6)
 | _ => default
@[simp] theorem Th.eta (x : Th) : Th.mk x.fb x.fw x.fz x.fe = x := by cases x; rfl
theorem Th.dec_enc (x : Th) : Th.dec x.enc = x := by simp
@[simp] theorem Th.comp : Th.dec ∘ Th.enc = id := funext Th.dec_enc
@[simp] theorem Th.comp2 : (Th.enc ∘ Th.dec) ∘ Th.enc = Th.enc := funext fun x => by simp [Function.comp]
@[simp] theorem Th.bel (l : List Th) (n : Nat) : belLL n (l.map Th.enc) := bel_map (fun x => by simp) l
@[simp] theorem Th.ren (σ : Nat → Nat) (l : List Th) : renLL σ (l.map Th.enc) = l.map Th.enc := ren_map (fun x => by simp) l
@[simp] theorem Th.nth {rows : List (List AV)} (n : Int) (h : rows = (rows.map Th.dec).map Th.enc) : nthL rows n.toNat [.lit (.bool false), .lit (.int .i64 0), .lit (.int .i64 0), .lit (.int .i64 0), .sl [] .no, .lit (.int .i64 0), .lit (.int .i64 0)] = (nthI (rows.map Th.dec) n).enc := nth_rows (f := Th.enc) rfl h n
@[simp low] theorem Th.nthk {rows : List (List AV)} (j : Nat) (h : rows = (rows.map Th.dec).map Th.enc) : nthL rows j [.lit (.bool false), .lit (.int .i64 0), .lit (.int .i64 0), .lit (.int .i64 0), .sl [] .no, .lit (.int .i64 0), .lit (.int .i64 0)] = (nthI (rows.map Th.dec) (j : Int)).enc := Ls (f := Th.enc) rfl h j

structure Tq where
 fu : Bool
 fv : Int
 fj : Int
 fq : Int
 fw : List Tc
 fz : Int
 fe : Int
instance : Inhabited Tq := ⟨Tq.mk false 0 0 0 [] 0 0⟩
@[simp] def Tq.enc (x : Tq) : List AV := [.lit (.bool x.fu), .lit (.int .i64 x.fv), .lit (.int .i64 x.fj), .lit (.int .i64 x.fq), .sl (x.fw.map Tc.enc) .no, .lit (.int .i64 x.fz), .lit (.int .i64 x.fe)]
@[simp] def Tq.dec : List AV → Tq
 | [.lit (.bool a0), .lit (.int .i64 a1), .lit (.int .i64 a2), .lit (.int .i64 a3), .sl a4 _, .lit (.int .i64 a5), .lit (.int .i64 a6)] => (Tq.mk a0 a1 a2 a3 (a4.map Tc.dec) a5 a6)
 | _ => default
@[simp] theorem Tq.eta (x : Tq) : Tq.mk x.fu x.fv x.fj x.fq x.fw x.fz x.fe = x := by cases x; rfl
theorem Tq.dec_enc (x : Tq) : Tq.dec x.enc = x := by simp
@[simp] theorem Tq.comp : Tq.dec ∘ Tq.enc = id := funext Tq.dec_enc
@[simp] theorem Tq.comp2 : (Tq.enc ∘ Tq.dec) ∘ Tq.enc = Tq.enc := funext fun x => by simp [Function.comp]
@[simp] theorem Tq.bel (l : List Tq) (n : Nat) : belLL n (l.map Tq.enc) := bel_map (fun x => by simp) l
@[simp] theorem Tq.ren (σ : Nat → Nat) (l : List Tq) : renLL σ (l.map Tq.enc) = l.map Tq.enc := ren_map (fun x => by simp) l
@[simp] theorem Tq.nth {rows : List (List AV)} (n : Int) (h : rows = (rows.map Tq.dec).map Tq.enc) : nthL rows n.toNat [.lit (.bool false), .lit (.int .i64 0), .lit (.int .i64 0), .lit (.int .i64 0), .sl [] .no, .lit (.int .i64 0), .lit (.int .i64 0)] = (nthI (rows.map Tq.dec) n).enc := nth_rows (f := Tq.enc) rfl h n
@[simp low] theorem Tq.nthk {rows : List (List AV)} (j : Nat) (h : rows = (rows.map Tq.dec).map Tq.enc) : nthL rows j [.lit (.bool false), .lit (.int .i64 0), .lit (.int .i64 0), .lit (.int .i64 0), .sl [] .no, .lit (.int .i64 0), .lit (.int .i64 0)] = (nthI (rows.map Tq.dec) (j : Int)).enc := Ls (f := Tq.enc) rfl h j

structure Tj where
 fS : ByteArray
 fE : Int
instance : Inhabited Tj := ⟨Tj.mk ⟨⟨[]⟩⟩ 0⟩
@[simp] def Tj.enc (x : Tj) : List AV := [.lit (.string x.fS), .lit (.int .i64 x.fE)]
@[simp] def Tj.dec : List AV → Tj
 | [.lit (.string a0), .lit (.int .i64 a1)] => (Tj.mk a0 a1)
 | _ => default
@[simp] theorem Tj.eta (x : Tj) : Tj.mk x.fS x.fE = x := by cases x; rfl
theorem Tj.dec_enc (x : Tj) : Tj.dec x.enc = x := by simp
@[simp] theorem Tj.comp : Tj.dec ∘ Tj.enc = id := funext Tj.dec_enc
@[simp] theorem Tj.comp2 : (Tj.enc ∘ Tj.dec) ∘ Tj.enc = Tj.enc := funext fun x => by simp [Function.comp]
@[simp] theorem Tj.bel (l : List Tj) (n : Nat) : belLL n (l.map Tj.enc) := bel_map (fun x => by simp) l
@[simp] theorem Tj.ren (σ : Nat → Nat) (l : List Tj) : renLL σ (l.map Tj.enc) = l.map Tj.enc := ren_map (fun x => by simp) l
@[simp] theorem Tj.nth {rows : List (List AV)} (n : Int) (h : rows = (rows.map Tj.dec).map Tj.enc) : nthL rows n.toNat [.lit (.string ⟨⟨[]⟩⟩), .lit (.int .i64 0)] = (nthI (rows.map Tj.dec) n).enc := nth_rows (f := Tj.enc) rfl h n
@[simp low] theorem Tj.nthk {rows : List (List AV)} (j : Nat) (h : rows = (rows.map Tj.dec).map Tj.enc) : nthL rows j [.lit (.string ⟨⟨[]⟩⟩), .lit (.int .i64 0)] = (nthI (rows.map Tj.dec) (j : Int)).enc := Ls (f := Tj.enc) rfl h j

structure Td where
 fK : Bool
 fy : Bool
 fG : Int
 fB : Int
 fU : Bool
 fH : Int
 fI : Int
 fR : Bool
 fJ : Int
instance : Inhabited Td := ⟨Td.mk false false 0 0 false 0 0 false 0⟩
@[simp] def Td.enc (x : Td) : List AV := [.lit (.bool x.fK), .lit (.bool x.fy), .lit (.int .i64 x.fG), .lit (.int .i64 x.fB), .lit (.bool x.fU), .lit (.int .i64 x.fH), .lit (.int .i64 x.fI), .lit (.bool x.fR), .lit (.int .i64 x.fJ)]
@[simp] def Td.dec : List AV → Td
 | [.lit (.bool a0), .lit (.bool a1), .lit (.int .i64 a2), .lit (.int .i64 a3), .lit (.bool a4), .lit (.int .i64 a5), .lit (.int .i64 a6), .lit (.bool a7), .lit (.int .i64 a8)] => (Td.mk a0 a1 a2 a3 a4 a5 a6 a7 a8)
 | _ => default
@[simp] theorem Td.eta (x : Td) : Td.mk x.fK x.fy x.fG x.fB x.fU x.fH x.fI x.fR x.fJ = x := by cases x; rfl
theorem Td.dec_enc (x : Td) : Td.dec x.enc = x := by simp
@[simp] theorem Td.comp : Td.dec ∘ Td.enc = id := funext Td.dec_enc
@[simp] theorem Td.comp2 : (Td.enc ∘ Td.dec) ∘ Td.enc = Td.enc := funext fun x => by simp [Function.comp]
@[simp] theorem Td.bel (l : List Td) (n : Nat) : belLL n (l.map Td.enc) := bel_map (fun x => by simp) l
@[simp] theorem Td.ren (σ : Nat → Nat) (l : List Td) : renLL σ (l.map Td.enc) = l.map Td.enc := ren_map (fun x => by simp) l
@[simp] theorem Td.nth {rows : List (List AV)} (n : Int) (h : rows = (rows.map Td.dec).map Td.enc) : nthL rows n.toNat [.lit (.bool false), .lit (.bool false), .lit (.int .i64 0), .lit (.int .i64 0), .lit (.bool false), .lit (.int .i64 0), .lit (.int .i64 0), .lit (.bool false), .lit (.int .i64 0)] = (nthI (rows.map Td.dec) n).enc := nth_rows (f := Td.enc) rfl h n
@[simp low] theorem Td.nthk {rows : List (List AV)} (j : Nat) (h : rows = (rows.map Td.dec).map Td.enc) : nthL rows j [.lit (.bool false), .lit (.bool false), .lit (.int .i64 0), .lit (.int .i64 0), .lit (.bool false), .lit (.int .i64 0), .lit (.int .i64 0), .lit (.bool false), .lit (.int .i64 0)] = (nthI (rows.map Td.dec) (j : Int)).enc := Ls (f := Td.enc) rfl h j

structure Ts where
 fS : ByteArray
 fE : Int
instance : Inhabited Ts := ⟨Ts.mk ⟨⟨[]⟩⟩ 0⟩
@[simp] def Ts.enc (x : Ts) : List AV := [.lit (.string x.fS), .lit (.int .i64 x.fE)]
@[simp] def Ts.dec : List AV → Ts
 | [.lit (.string a0), .lit (.int .i64 a1)] => (Ts.mk a0 a1)
 | _ => default
@[simp] theorem Ts.eta (x : Ts) : Ts.mk x.fS x.fE = x := by cases x; rfl
theorem Ts.dec_enc (x : Ts) : Ts.dec x.enc = x := by simp
@[simp] theorem Ts.comp : Ts.dec ∘ Ts.enc = id := funext Ts.dec_enc
@[simp] theorem Ts.comp2 : (Ts.enc ∘ Ts.dec) ∘ Ts.enc = Ts.enc := funext fun x => by simp [Function.comp]
@[simp] theorem Ts.bel (l : List Ts) (n : Nat) : belLL n (l.map Ts.enc) := bel_map (fun x => by simp) l
@[simp] theorem Ts.ren (σ : Nat → Nat) (l : List Ts) : renLL σ (l.map Ts.enc) = l.map Ts.enc := ren_map (fun x => by simp) l
@[simp] theorem Ts.nth {rows : List (List AV)} (n : Int) (h : rows = (rows.map Ts.dec).map Ts.enc) : nthL rows n.toNat [.lit (.string ⟨⟨[]⟩⟩), .lit (.int .i64 0)] = (nthI (rows.map Ts.dec) n).enc := nth_rows (f := Ts.enc) rfl h n
@[simp low] theorem Ts.nthk {rows : List (List AV)} (j : Nat) (h : rows = (rows.map Ts.dec).map Ts.enc) : nthL rows j [.lit (.string ⟨⟨[]⟩⟩), .lit (.int .i64 0)] = (nthI (rows.map Ts.dec) (j : Int)).enc := Ls (f := Ts.enc) rfl h j

structure Tv where
 fd : Bool
 fk : Int
 fV : Int
 fM : Int
 fC : Int
instance : Inhabited Tv := ⟨Tv.mk false 0 0 0 0⟩
@[simp] def Tv.enc (x : Tv) : List AV := [.lit (.bool x.fd), .lit (.int .i64 x.fk), .lit (.int .u16 x.fV), .lit (.int .i64 x.fM), .lit (.int .i64 x.fC)]
@[simp] def Tv.dec : List AV → Tv
 | [.lit (.bool a0), .lit (.int .i64 a1), .lit (.int .u16 a2), .lit (.int .i64 a3), .lit (.int .i64 a4)] => (Tv.mk a0 a1 a2 a3 a4)
 | _ => default
@[simp] theorem Tv.eta (x : Tv) : Tv.mk x.fd x.fk x.fV x.fM x.fC = x := by cases x; rfl
theorem Tv.dec_enc (x : Tv) : Tv.dec x.enc = x := by simp
@[simp] theorem Tv.comp : Tv.dec ∘ Tv.enc = id := funext Tv.dec_enc
@[simp] theorem Tv.comp2 : (Tv.enc ∘ Tv.dec) ∘ Tv.enc = Tv.enc := funext fun x => by simp [Function.comp]
@[simp] theorem Tv.bel (l : List Tv) (n : Nat) : belLL n (l.map Tv.enc) := bel_map (fun x => by simp) l
@[simp] theorem Tv.ren (σ : Nat → Nat) (l : List Tv) : renLL σ (l.map Tv.enc) = l.map Tv.enc := ren_map (fun x => by simp) l
@[simp] theorem Tv.nth {rows : List (List AV)} (n : Int) (h : rows = (rows.map Tv.dec).map Tv.enc) : nthL rows n.toNat [.lit (.bool false), .lit (.int .i64 0), .lit (.int .u16 0), .lit (.int .i64 0), .lit (.int .i64 0)] = (nthI (rows.map Tv.dec) n).enc := nth_rows (f := Tv.enc) rfl h n
@[simp low] theorem Tv.nthk {rows : List (List AV)} (j : Nat) (h : rows = (rows.map Tv.dec).map Tv.enc) : nthL rows j [.lit (.bool false), .lit (.int .i64 0), .lit (.int .u16 0), .lit (.int .i64 0), .lit (.int .i64 0)] = (nthI (rows.map Tv.dec) (j : Int)).enc := Ls (f := Tv.enc) rfl h j

structure Tt where
 fd : Bool
 fW : Int
instance : Inhabited Tt := ⟨Tt.mk false 0⟩
@[simp] def Tt.enc (x : Tt) : List AV := [.lit (.bool x.fd), .lit (.int .i64 x.fW)]
@[simp] def Tt.dec : List AV → Tt
 | [.lit (.bool a0), .lit (.int .i64 a1)] => (Tt.mk a0 a1)
 | _ => default
@[simp] theorem Tt.eta (x : Tt) : Tt.mk x.fd x.fW = x := by cases x; rfl
theorem Tt.dec_enc (x : Tt) : Tt.dec x.enc = x := by simp
@[simp] theorem Tt.comp : Tt.dec ∘ Tt.enc = id := funext Tt.dec_enc
@[simp] theorem Tt.comp2 : (Tt.enc ∘ Tt.dec) ∘ Tt.enc = Tt.enc := funext fun x => by simp [Function.comp]
@[simp] theorem Tt.bel (l : List Tt) (n : Nat) : belLL n (l.map Tt.enc) := bel_map (fun x => by simp) l
@[simp] theorem Tt.ren (σ : Nat → Nat) (l : List Tt) : renLL σ (l.map Tt.enc) = l.map Tt.enc := ren_map (fun x => by simp) l
@[simp] theorem Tt.nth {rows : List (List AV)} (n : Int) (h : rows = (rows.map Tt.dec).map Tt.enc) : nthL rows n.toNat [.lit (.bool false), .lit (.int .i64 0)] = (nthI (rows.map Tt.dec) n).enc := nth_rows (f := Tt.enc) rfl h n
@[simp low] theorem Tt.nthk {rows : List (List AV)} (j : Nat) (h : rows = (rows.map Tt.dec).map Tt.enc) : nthL rows j [.lit (.bool false), .lit (.int .i64 0)] = (nthI (rows.map Tt.dec) (j : Int)).enc := Ls (f := Tt.enc) rfl h j

structure Tb where
 fA : Bool
 fab : Int
 ff : Int
 fQ : Int
 fac : Int
 faa : List Int
 fae : Bool
 fY : Int
 fad : ByteArray
 fF : ByteArray
 fZ : Int
instance : Inhabited Tb := ⟨Tb.mk false 0 0 0 0 [] false 0 ⟨⟨[]⟩⟩ ⟨⟨[]⟩⟩ 0⟩
@[simp] def Tb.enc (x : Tb) : List AV := [.lit (.bool x.fA), .lit (.int .u8 x.fab), .lit (.int .u16 x.ff), .lit (.int .u32 x.fQ), .lit (.int .u32 x.fac), .sl (x.faa.map (eNum .u32)) .no, .lit (.bool x.fae), .lit (.int .u16 x.fY), .lit (.string x.fad), .lit (.string x.fF), .lit (.int .i64 x.fZ)]
@[simp] def Tb.dec : List AV → Tb
 | [.lit (.bool a0), .lit (.int .u8 a1), .lit (.int .u16 a2), .lit (.int .u32 a3), .lit (.int .u32 a4), .sl a5 _, .lit (.bool a6), .lit (.int .u16 a7), .lit (.string a8), .lit (.string a9), .lit (.int .i64 a10)] => (Tb.mk a0 a1 a2 a3 a4 (a5.map decI) a6 a7 a8 a9 a10)
 | _ => default
@[simp] theorem Tb.eta (x : Tb) : Tb.mk x.fA x.fab x.ff x.fQ x.fac x.faa x.fae x.fY x.fad x.fF x.fZ = x := by cases x; rfl
theorem Tb.dec_enc (x : Tb) : Tb.dec x.enc = x := by simp
@[simp] theorem Tb.comp : Tb.dec ∘ Tb.enc = id := funext Tb.dec_enc
@[simp] theorem Tb.comp2 : (Tb.enc ∘ Tb.dec) ∘ Tb.enc = Tb.enc := funext fun x => by simp [Function.comp]
@[simp] theorem Tb.bel (l : List Tb) (n : Nat) : belLL n (l.map Tb.enc) := bel_map (fun x => by simp) l
@[simp] theorem Tb.ren (σ : Nat → Nat) (l : List Tb) : renLL σ (l.map Tb.enc) = l.map Tb.enc := ren_map (fun x => by simp) l
@[simp] theorem Tb.vren (σ : Nat → Nat) (x : Tb) : (vA Tb.enc x).ren σ = vA Tb.enc x := vA_ren_eq (fun x => by simp) x
@[simp] theorem Tb.mrenI (σ : Nat → Nat) (k : IntKind) (m : List (Int × Tb)) : (AObj.mapo (encM (kI k) (vA Tb.enc) m)).ren σ = .mapo (encM (kI k) (vA Tb.enc) m) := encM_ren (fun _ => rfl) (Tb.vren σ) m
@[simp] theorem Tb.mbelI (n : Nat) (k : IntKind) (m : List (Int × Tb)) : (AObj.mapo (encM (kI k) (vA Tb.enc) m)).bel n ↔ True := encM_bel (fun _ => by simp) (fun x => by simp) m
@[simp] theorem Tb.mdecI (k : IntKind) (m : List (Int × Tb)) : decM dkI (dvA Tb.dec) (encM (kI k) (vA Tb.enc) m) = m := decM_encM (fun _ => rfl) (fun x => by simp) m
@[simp] theorem Tb.mrenS (σ : Nat → Nat) (m : List (ByteArray × Tb)) : (AObj.mapo (encM kS (vA Tb.enc) m)).ren σ = .mapo (encM kS (vA Tb.enc) m) := encM_ren (fun _ => rfl) (Tb.vren σ) m
@[simp] theorem Tb.mbelS (n : Nat) (m : List (ByteArray × Tb)) : (AObj.mapo (encM kS (vA Tb.enc) m)).bel n ↔ True := encM_bel (fun _ => by simp) (fun x => by simp) m
@[simp] theorem Tb.mdecS (m : List (ByteArray × Tb)) : decM dkS (dvA Tb.dec) (encM kS (vA Tb.enc) m) = m := decM_encM (fun _ => rfl) (fun x => by simp) m
@[simp] theorem Tb.getVI (k : IntKind) (x : Int) (m : List (Int × Tb)) : getV (.int k x) (.agg [.lit (.bool false), .lit (.int .u8 0), .lit (.int .u16 0), .lit (.int .u32 0), .lit (.int .u32 0), .sl [] .no, .lit (.bool false), .lit (.int .u16 0), .lit (.string ⟨⟨[]⟩⟩), .lit (.string ⟨⟨[]⟩⟩), .lit (.int .i64 0)]) (encM (kI k) (vA Tb.enc) m) = .agg (Tb.enc (getM eqI x (Tb.mk false 0 0 0 0 [] false 0 ⟨⟨[]⟩⟩ ⟨⟨[]⟩⟩ 0) m)) := getV_I (vE := vA Tb.enc) (d := (Tb.mk false 0 0 0 0 [] false 0 ⟨⟨[]⟩⟩ ⟨⟨[]⟩⟩ 0)) (by simp [vA]) x m
@[simp] theorem Tb.setVI (k : IntKind) (x : Int) (l : List AV) (h : l = Tb.enc (Tb.dec l)) (m : List (Int × Tb)) : setV (.int k x) (.agg l) (encM (kI k) (vA Tb.enc) m) = encM (kI k) (vA Tb.enc) (setM eqI x (Tb.dec l) m) := setV_I (vE := vA Tb.enc) (v := Tb.dec l) (congrArg AV.agg h) x m
@[simp] theorem Tb.getVS (x : ByteArray) (m : List (ByteArray × Tb)) : getV (.string x) (.agg [.lit (.bool false), .lit (.int .u8 0), .lit (.int .u16 0), .lit (.int .u32 0), .lit (.int .u32 0), .sl [] .no, .lit (.bool false), .lit (.int .u16 0), .lit (.string ⟨⟨[]⟩⟩), .lit (.string ⟨⟨[]⟩⟩), .lit (.int .i64 0)]) (encM kS (vA Tb.enc) m) = .agg (Tb.enc (getM eqS x (Tb.mk false 0 0 0 0 [] false 0 ⟨⟨[]⟩⟩ ⟨⟨[]⟩⟩ 0) m)) := getV_S (vE := vA Tb.enc) (d := (Tb.mk false 0 0 0 0 [] false 0 ⟨⟨[]⟩⟩ ⟨⟨[]⟩⟩ 0)) (by simp [vA]) x m
@[simp] theorem Tb.setVS (x : ByteArray) (l : List AV) (h : l = Tb.enc (Tb.dec l)) (m : List (ByteArray × Tb)) : setV (.string x) (.agg l) (encM kS (vA Tb.enc) m) = encM kS (vA Tb.enc) (setM eqS x (Tb.dec l) m) := setV_S (vE := vA Tb.enc) (v := Tb.dec l) (congrArg AV.agg h) x m
@[simp] theorem Tb.nth {rows : List (List AV)} (n : Int) (h : rows = (rows.map Tb.dec).map Tb.enc) : nthL rows n.toNat [.lit (.bool false), .lit (.int .u8 0), .lit (.int .u16 0), .lit (.int .u32 0), .lit (.int .u32 0), .sl [] .no, .lit (.bool false), .lit (.int .u16 0), .lit (.string ⟨⟨[]⟩⟩), .lit (.string ⟨⟨[]⟩⟩), .lit (.int .i64 0)] = (nthI (rows.map Tb.dec) n).enc := nth_rows (f := Tb.enc) rfl h n
@[simp low] theorem Tb.nthk {rows : List (List AV)} (j : Nat) (h : rows = (rows.map Tb.dec).map Tb.enc) : nthL rows j [.lit (.bool false), .lit (.int .u8 0), .lit (.int .u16 0), .lit (.int .u32 0), .lit (.int .u32 0), .sl [] .no, .lit (.bool false), .lit (.int .u16 0), .lit (.string ⟨⟨[]⟩⟩), .lit (.string ⟨⟨[]⟩⟩), .lit (.int .i64 0)] = (nthI (rows.map Tb.dec) (j : Int)).enc := Ls (f := Tb.enc) rfl h j

structure Tf where
 fa : Tg
 fc : Th
 ff : Tv
 fh : Tt
 fOf : List (Int × Tb)
 fp : Int
 fm : Int
instance : Inhabited Tf := ⟨Tf.mk (Tg.mk (Tk.mk 0 0) false 0 [] 0) (Th.mk (Tp.mk false 0 0 0) (Tl.mk []) 0 0) (Tv.mk false 0 0 0 0) (Tt.mk false 0) [] 0 0⟩
@[simp] def Tf.enc (x : Tf) (i0 : Nat) (i1 : Nat) (i2 : Nat) : List AV := [.ptr i0 0, .ptr i1 0, .lit (.bool x.ff.fd), .lit (.int .i64 x.ff.fk), .lit (.int .u16 x.ff.fV), .lit (.int .i64 x.ff.fM), .lit (.int .i64 x.ff.fC), .lit (.bool x.fh.fd), .lit (.int .i64 x.fh.fW), .mp i2, .lit (.int .i64 x.fp), .lit (.int .i64 x.fm)]
@[simp] def Tf.dec : List AV → Tg → Th → (List (Int × Tb)) → Tf
 | [.ptr _ _, .ptr _ _, .lit (.bool a2), .lit (.int .i64 a3), .lit (.int .u16 a4), .lit (.int .i64 a5), .lit (.int .i64 a6), .lit (.bool a7), .lit (.int .i64 a8), .mp _, .lit (.int .i64 a10), .lit (.int .i64 a11)], a0, a1, a9 => (Tf.mk a0 a1 (Tv.mk a2 a3 a4 a5 a6) (Tt.mk a7 a8) a9 a10 a11)
 | _, _, _, _ => default
@[simp] theorem Tf.eta (x : Tf) : Tf.mk x.fa x.fc x.ff x.fh x.fOf x.fp x.fm = x := by cases x; rfl

structure Tw where
 fd : Bool
 fk : Int
 fX : Int
 fM : Int
 fC : Int
instance : Inhabited Tw := ⟨Tw.mk false 0 0 0 0⟩
@[simp] def Tw.enc (x : Tw) : List AV := [.lit (.bool x.fd), .lit (.int .i64 x.fk), .lit (.int .i64 x.fX), .lit (.int .i64 x.fM), .lit (.int .i64 x.fC)]
@[simp] def Tw.dec : List AV → Tw
 | [.lit (.bool a0), .lit (.int .i64 a1), .lit (.int .i64 a2), .lit (.int .i64 a3), .lit (.int .i64 a4)] => (Tw.mk a0 a1 a2 a3 a4)
 | _ => default
@[simp] theorem Tw.eta (x : Tw) : Tw.mk x.fd x.fk x.fX x.fM x.fC = x := by cases x; rfl
theorem Tw.dec_enc (x : Tw) : Tw.dec x.enc = x := by simp
@[simp] theorem Tw.comp : Tw.dec ∘ Tw.enc = id := funext Tw.dec_enc
@[simp] theorem Tw.comp2 : (Tw.enc ∘ Tw.dec) ∘ Tw.enc = Tw.enc := funext fun x => by simp [Function.comp]
@[simp] theorem Tw.bel (l : List Tw) (n : Nat) : belLL n (l.map Tw.enc) := bel_map (fun x => by simp) l
@[simp] theorem Tw.ren (σ : Nat → Nat) (l : List Tw) : renLL σ (l.map Tw.enc) = l.map Tw.enc := ren_map (fun x => by simp) l
@[simp] theorem Tw.nth {rows : List (List AV)} (n : Int) (h : rows = (rows.map Tw.dec).map Tw.enc) : nthL rows n.toNat [.lit (.bool false), .lit (.int .i64 0), .lit (.int .i64 0), .lit (.int .i64 0), .lit (.int .i64 0)] = (nthI (rows.map Tw.dec) n).enc := nth_rows (f := Tw.enc) rfl h n
@[simp low] theorem Tw.nthk {rows : List (List AV)} (j : Nat) (h : rows = (rows.map Tw.dec).map Tw.enc) : nthL rows j [.lit (.bool false), .lit (.int .i64 0), .lit (.int .i64 0), .lit (.int .i64 0), .lit (.int .i64 0)] = (nthI (rows.map Tw.dec) (j : Int)).enc := Ls (f := Tw.enc) rfl h j

structure Tu where
 fo : Tk
 fD : Tp
instance : Inhabited Tu := ⟨Tu.mk (Tk.mk 0 0) (Tp.mk false 0 0 0)⟩
@[simp] def Tu.enc (x : Tu) : List AV := [.lit (.int .i64 x.fo.fk), .lit (.int .i64 x.fo.fq), .lit (.bool x.fD.fu), .lit (.int .i64 x.fD.fv), .lit (.int .i64 x.fD.fj), .lit (.int .i64 x.fD.fq)]
@[simp] def Tu.dec : List AV → Tu
 | [.lit (.int .i64 a0), .lit (.int .i64 a1), .lit (.bool a2), .lit (.int .i64 a3), .lit (.int .i64 a4), .lit (.int .i64 a5)] => (Tu.mk (Tk.mk a0 a1) (Tp.mk a2 a3 a4 a5))
 | _ => default
@[simp] theorem Tu.eta (x : Tu) : Tu.mk x.fo x.fD = x := by cases x; rfl
theorem Tu.dec_enc (x : Tu) : Tu.dec x.enc = x := by simp
@[simp] theorem Tu.comp : Tu.dec ∘ Tu.enc = id := funext Tu.dec_enc
@[simp] theorem Tu.comp2 : (Tu.enc ∘ Tu.dec) ∘ Tu.enc = Tu.enc := funext fun x => by simp [Function.comp]
@[simp] theorem Tu.bel (l : List Tu) (n : Nat) : belLL n (l.map Tu.enc) := bel_map (fun x => by simp) l
@[simp] theorem Tu.ren (σ : Nat → Nat) (l : List Tu) : renLL σ (l.map Tu.enc) = l.map Tu.enc := ren_map (fun x => by simp) l
@[simp] theorem Tu.nth {rows : List (List AV)} (n : Int) (h : rows = (rows.map Tu.dec).map Tu.enc) : nthL rows n.toNat [.lit (.int .i64 0), .lit (.int .i64 0), .lit (.bool false), .lit (.int .i64 0), .lit (.int .i64 0), .lit (.int .i64 0)] = (nthI (rows.map Tu.dec) n).enc := nth_rows (f := Tu.enc) rfl h n
@[simp low] theorem Tu.nthk {rows : List (List AV)} (j : Nat) (h : rows = (rows.map Tu.dec).map Tu.enc) : nthL rows j [.lit (.int .i64 0), .lit (.int .i64 0), .lit (.bool false), .lit (.int .i64 0), .lit (.int .i64 0), .lit (.int .i64 0)] = (nthI (rows.map Tu.dec) (j : Int)).enc := Ls (f := Tu.enc) rfl h j

structure Tx where
 fAt : Int
 fP : Tb
instance : Inhabited Tx := ⟨Tx.mk 0 (Tb.mk false 0 0 0 0 [] false 0 ⟨⟨[]⟩⟩ ⟨⟨[]⟩⟩ 0)⟩
@[simp] def Tx.enc (x : Tx) : List AV := [.lit (.int .i64 x.fAt), .lit (.bool x.fP.fA), .lit (.int .u8 x.fP.fab), .lit (.int .u16 x.fP.ff), .lit (.int .u32 x.fP.fQ), .lit (.int .u32 x.fP.fac), .sl (x.fP.faa.map (eNum .u32)) .no, .lit (.bool x.fP.fae), .lit (.int .u16 x.fP.fY), .lit (.string x.fP.fad), .lit (.string x.fP.fF), .lit (.int .i64 x.fP.fZ)]
@[simp] def Tx.dec : List AV → Tx
 | [.lit (.int .i64 a0), .lit (.bool a1), .lit (.int .u8 a2), .lit (.int .u16 a3), .lit (.int .u32 a4), .lit (.int .u32 a5), .sl a6 _, .lit (.bool a7), .lit (.int .u16 a8), .lit (.string a9), .lit (.string a10), .lit (.int .i64 a11)] => (Tx.mk a0 (Tb.mk a1 a2 a3 a4 a5 (a6.map decI) a7 a8 a9 a10 a11))
 | _ => default
@[simp] theorem Tx.eta (x : Tx) : Tx.mk x.fAt x.fP = x := by cases x; rfl
theorem Tx.dec_enc (x : Tx) : Tx.dec x.enc = x := by simp
@[simp] theorem Tx.comp : Tx.dec ∘ Tx.enc = id := funext Tx.dec_enc
@[simp] theorem Tx.comp2 : (Tx.enc ∘ Tx.dec) ∘ Tx.enc = Tx.enc := funext fun x => by simp [Function.comp]
@[simp] theorem Tx.bel (l : List Tx) (n : Nat) : belLL n (l.map Tx.enc) := bel_map (fun x => by simp) l
@[simp] theorem Tx.ren (σ : Nat → Nat) (l : List Tx) : renLL σ (l.map Tx.enc) = l.map Tx.enc := ren_map (fun x => by simp) l
@[simp] theorem Tx.nth {rows : List (List AV)} (n : Int) (h : rows = (rows.map Tx.dec).map Tx.enc) : nthL rows n.toNat [.lit (.int .i64 0), .lit (.bool false), .lit (.int .u8 0), .lit (.int .u16 0), .lit (.int .u32 0), .lit (.int .u32 0), .sl [] .no, .lit (.bool false), .lit (.int .u16 0), .lit (.string ⟨⟨[]⟩⟩), .lit (.string ⟨⟨[]⟩⟩), .lit (.int .i64 0)] = (nthI (rows.map Tx.dec) n).enc := nth_rows (f := Tx.enc) rfl h n
@[simp low] theorem Tx.nthk {rows : List (List AV)} (j : Nat) (h : rows = (rows.map Tx.dec).map Tx.enc) : nthL rows j [.lit (.int .i64 0), .lit (.bool false), .lit (.int .u8 0), .lit (.int .u16 0), .lit (.int .u32 0), .lit (.int .u32 0), .sl [] .no, .lit (.bool false), .lit (.int .u16 0), .lit (.string ⟨⟨[]⟩⟩), .lit (.string ⟨⟨[]⟩⟩), .lit (.int .i64 0)] = (nthI (rows.map Tx.dec) (j : Int)).enc := Ls (f := Tx.enc) rfl h j

structure Te where
 ff : Tw
 fh : Int
 fo : Tn
 fc : Tq
 fL : List Tx
 fp : Int
 fm : Int
instance : Inhabited Te := ⟨Te.mk (Tw.mk false 0 0 0 0) 0 (Tn.mk 0 0 false 0 [] 0) (Tq.mk false 0 0 0 [] 0 0) [] 0 0⟩
@[simp] def Te.enc (x : Te) : List AV := [.lit (.bool x.ff.fd), .lit (.int .i64 x.ff.fk), .lit (.int .i64 x.ff.fX), .lit (.int .i64 x.ff.fM), .lit (.int .i64 x.ff.fC), .lit (.int .i64 x.fh), .lit (.int .i64 x.fo.fk), .lit (.int .i64 x.fo.fq), .lit (.bool x.fo.fd), .lit (.int .i64 x.fo.fg), .sl (x.fo.fL.map Ta.enc) .no, .lit (.int .i64 x.fo.fe), .lit (.bool x.fc.fu), .lit (.int .i64 x.fc.fv), .lit (.int .i64 x.fc.fj), .lit (.int .i64 x.fc.fq), .sl (x.fc.fw.map Tc.enc) .no, .lit (.int .i64 x.fc.fz), .lit (.int .i64 x.fc.fe), .sl (x.fL.map Tx.enc) .no, .lit (.int .i64 x.fp), .lit (.int .i64 x.fm)]
@[simp] def Te.dec : List AV → Te
 | [.lit (.bool a0), .lit (.int .i64 a1), .lit (.int .i64 a2), .lit (.int .i64 a3), .lit (.int .i64 a4), .lit (.int .i64 a5), .lit (.int .i64 a6), .lit (.int .i64 a7), .lit (.bool a8), .lit (.int .i64 a9), .sl a10 _, .lit (.int .i64 a11), .lit (.bool a12), .lit (.int .i64 a13), .lit (.int .i64 a14), .lit (.int .i64 a15), .sl a16 _, .lit (.int .i64 a17), .lit (.int .i64 a18), .sl a19 _, .lit (.int .i64 a20), .lit (.int .i64 a21)] => (Te.mk (Tw.mk a0 a1 a2 a3 a4) a5 (Tn.mk a6 a7 a8 a9 (a10.map Ta.dec) a11) (Tq.mk a12 a13 a14 a15 (a16.map Tc.dec) a17 a18) (a19.map Tx.dec) a20 a21)
 | _ => default
@[simp] theorem Te.eta (x : Te) : Te.mk x.ff x.fh x.fo x.fc x.fL x.fp x.fm = x := by cases x; rfl
theorem Te.dec_enc (x : Te) : Te.dec x.enc = x := by simp
@[simp] theorem Te.comp : Te.dec ∘ Te.enc = id := funext Te.dec_enc
@[simp] theorem Te.comp2 : (Te.enc ∘ Te.dec) ∘ Te.enc = Te.enc := funext fun x => by simp [Function.comp]
@[simp] theorem Te.bel (l : List Te) (n : Nat) : belLL n (l.map Te.enc) := bel_map (fun x => by simp) l
@[simp] theorem Te.ren (σ : Nat → Nat) (l : List Te) : renLL σ (l.map Te.enc) = l.map Te.enc := ren_map (fun x => by simp) l
@[simp] theorem Te.nth {rows : List (List AV)} (n : Int) (h : rows = (rows.map Te.dec).map Te.enc) : nthL rows n.toNat [.lit (.bool false), .lit (.int .i64 0), .lit (.int .i64 0), .lit (.int .i64 0), .lit (.int .i64 0), .lit (.int .i64 0), .lit (.int .i64 0), .lit (.int .i64 0), .lit (.bool false), .lit (.int .i64 0), .sl [] .no, .lit (.int .i64 0), .lit (.bool false), .lit (.int .i64 0), .lit (.int .i64 0), .lit (.int .i64 0), .sl [] .no, .lit (.int .i64 0), .lit (.int .i64 0), .sl [] .no, .lit (.int .i64 0), .lit (.int .i64 0)] = (nthI (rows.map Te.dec) n).enc := nth_rows (f := Te.enc) rfl h n
@[simp low] theorem Te.nthk {rows : List (List AV)} (j : Nat) (h : rows = (rows.map Te.dec).map Te.enc) : nthL rows j [.lit (.bool false), .lit (.int .i64 0), .lit (.int .i64 0), .lit (.int .i64 0), .lit (.int .i64 0), .lit (.int .i64 0), .lit (.int .i64 0), .lit (.int .i64 0), .lit (.bool false), .lit (.int .i64 0), .sl [] .no, .lit (.int .i64 0), .lit (.bool false), .lit (.int .i64 0), .lit (.int .i64 0), .lit (.int .i64 0), .sl [] .no, .lit (.int .i64 0), .lit (.int .i64 0), .sl [] .no, .lit (.int .i64 0), .lit (.int .i64 0)] = (nthI (rows.map Te.dec) (j : Int)).enc := Ls (f := Te.enc) rfl h j

structure Ty where
 faf : Int
 fN : Int
 fS : ByteArray
instance : Inhabited Ty := ⟨Ty.mk 0 0 ⟨⟨[]⟩⟩⟩
@[simp] def Ty.enc (x : Ty) : List AV := [.lit (.int .i64 x.faf), .lit (.int .i64 x.fN), .lit (.string x.fS)]
@[simp] def Ty.dec : List AV → Ty
 | [.lit (.int .i64 a0), .lit (.int .i64 a1), .lit (.string a2)] => (Ty.mk a0 a1 a2)
 | _ => default
@[simp] theorem Ty.eta (x : Ty) : Ty.mk x.faf x.fN x.fS = x := by cases x; rfl
theorem Ty.dec_enc (x : Ty) : Ty.dec x.enc = x := by simp
@[simp] theorem Ty.comp : Ty.dec ∘ Ty.enc = id := funext Ty.dec_enc
@[simp] theorem Ty.comp2 : (Ty.enc ∘ Ty.dec) ∘ Ty.enc = Ty.enc := funext fun x => by simp [Function.comp]
@[simp] theorem Ty.bel (l : List Ty) (n : Nat) : belLL n (l.map Ty.enc) := bel_map (fun x => by simp) l
@[simp] theorem Ty.ren (σ : Nat → Nat) (l : List Ty) : renLL σ (l.map Ty.enc) = l.map Ty.enc := ren_map (fun x => by simp) l
@[simp] theorem Ty.nth {rows : List (List AV)} (n : Int) (h : rows = (rows.map Ty.dec).map Ty.enc) : nthL rows n.toNat [.lit (.int .i64 0), .lit (.int .i64 0), .lit (.string ⟨⟨[]⟩⟩)] = (nthI (rows.map Ty.dec) n).enc := nth_rows (f := Ty.enc) rfl h n
@[simp low] theorem Ty.nthk {rows : List (List AV)} (j : Nat) (h : rows = (rows.map Ty.dec).map Ty.enc) : nthL rows j [.lit (.int .i64 0), .lit (.int .i64 0), .lit (.string ⟨⟨[]⟩⟩)] = (nthI (rows.map Ty.dec) (j : Int)).enc := Ls (f := Ty.enc) rfl h j
end Go.Ab
