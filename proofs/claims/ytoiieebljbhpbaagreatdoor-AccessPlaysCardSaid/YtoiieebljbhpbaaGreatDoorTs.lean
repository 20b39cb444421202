import Derived.Test.YtoiieebljbhpbaaGreatDoorM12
import Derived.Test.YtoiieebljbhpbaaGreatDoorKx
import Derived.Test.YtoiieebljbhpbaaGreatDoorM16
namespace Go.Ab
structure Tc where
 fm : Int
 fk : ByteArray
 fo : ByteArray
 fc : Int
 fOf : Int
 ff : Int
 fp : Int
 fOn : Bool
 fq : Bool
 fb : List Int
instance : Inhabited Tc := ⟨Tc.mk 0 ⟨⟨[]⟩⟩ ⟨⟨[]⟩⟩ 0 0 0 0 false false []⟩
@[simp] def Tc.enc (x : Tc) : List AV := [.lit (.int .i64 x.fm), .lit (.string x.fk), .lit (.string x.fo), .lit (.int .i64 x.fc), .lit (.int .i64 x.fOf), .lit (.int .i64 x.ff), .lit (.int .i64 x.fp), .lit (.bool x.fOn), .lit (.bool x.fq), .sl (x.fb.map (eNum .u32)) .no]
@[simp] def Tc.dec : List AV → Tc
  | [.lit (.int .i64 a0), .lit (.string a1), .lit (.string a2), .lit (.int .i64 a3), .lit (.int .i64 a4), .lit (.int .i64 a5), .lit (.int .i64 a6), .lit (.bool a7), .lit (.bool a8), .sl a9 _] => (Tc.mk a0 a1 a2 a3 a4 a5 a6 a7 a8 (a9.map decI))
  | _ => default
@[simp] theorem Tc.eta (x : Tc) : Tc.mk x.fm x.fk x.fo x.fc x.fOf x.ff x.fp x.fOn x.fq x.fb = x := by cases x; rfl
theorem Tc.dec_enc (x : Tc) : Tc.dec x.enc = x := by simp
@[simp] theorem Tc.comp : Tc.dec ∘ Tc.enc = id := funext Tc.dec_enc
@[simp] theorem Tc.comp2 : (Tc.enc ∘ Tc.dec) ∘ Tc.enc = Tc.enc := funext fun x => by simp [Function.comp]
@[simp] theorem Tc.bel (l : List Tc) (n : Nat) : belLL n (l.map Tc.enc) := bel_map (fun x => by simp) l
@[simp] theorem Tc.nth {rows : List (List AV)} (n : Int) (h : rows = (rows.map Tc.dec).map Tc.enc) : nthL rows n.toNat [.lit (.int .i64 0), .lit (.string ⟨⟨[]⟩⟩), .lit (.string ⟨⟨[]⟩⟩), .lit (.int .i64 0), .lit (.int .i64 0), .lit (.int .i64 0), .lit (.int .i64 0), .lit (.bool false), .lit (.bool false), .sl [] .no] = (nthI (rows.map Tc.dec) n).enc := nth_rows (f := Tc.enc) rfl h n
structure Ta where
 fN : Int
 fo : ByteArray
 fk : ByteArray
instance : Inhabited Ta := ⟨Ta.mk 0 ⟨⟨[]⟩⟩ ⟨⟨[]⟩⟩⟩
@[simp] def Ta.enc (x : Ta) : List AV := [.lit (.int .i64 x.fN), .lit (.string x.fo), .lit (.string x.fk)]
@[simp] def Ta.dec : List AV → Ta
  | [.lit (.int .i64 a0), .lit (.string a1), .lit (.string a2)] => (Ta.mk a0 a1 a2)
  | _ => default
@[simp] theorem Ta.eta (x : Ta) : Ta.mk x.fN x.fo x.fk = x := by cases x; rfl
theorem Ta.dec_enc (x : Ta) : Ta.dec x.enc = x := by simp
@[simp] theorem Ta.comp : Ta.dec ∘ Ta.enc = id := funext Ta.dec_enc
@[simp] theorem Ta.comp2 : (Ta.enc ∘ Ta.dec) ∘ Ta.enc = Ta.enc := funext fun x => by simp [Function.comp]
@[simp] theorem Ta.bel (l : List Ta) (n : Nat) : belLL n (l.map Ta.enc) := bel_map (fun x => by simp) l
@[simp] theorem Ta.ren (σ : Nat → Nat) (l : List Ta) : renLL σ (l.map Ta.enc) = l.map Ta.enc := ren_map (fun x => by simp) l
@[simp] theorem Ta.vren (σ : Nat → Nat) (x : Ta) : (vA Ta.enc x).ren σ = vA Ta.enc x := vA_ren_eq (fun x => by simp) x
@[simp] theorem Ta.mrenI (σ : Nat → Nat) (k : IntKind) (m : List (Int × Ta)) : (AObj.mapo (encM (kI k) (vA Ta.enc) m)).ren σ = .mapo (encM (kI k) (vA Ta.enc) m) := encM_ren (fun _ => rfl) (Ta.vren σ) m
@[simp] theorem Ta.mbelI (n : Nat) (k : IntKind) (m : List (Int × Ta)) : (AObj.mapo (encM (kI k) (vA Ta.enc) m)).bel n ↔ True := encM_bel (fun _ => by simp) (fun x => by simp) m
@[simp] theorem Ta.mdecI (k : IntKind) (m : List (Int × Ta)) : decM dkI (dvA Ta.dec) (encM (kI k) (vA Ta.enc) m) = m := decM_encM (fun _ => rfl) (fun x => by simp) m
@[simp] theorem Ta.getVI (k : IntKind) (x : Int) (m : List (Int × Ta)) : getV (.int k x) (.agg [.lit (.int .i64 0), .lit (.string ⟨⟨[]⟩⟩), .lit (.string ⟨⟨[]⟩⟩)]) (encM (kI k) (vA Ta.enc) m) = .agg (Ta.enc (getM eqI x (Ta.mk 0 ⟨⟨[]⟩⟩ ⟨⟨[]⟩⟩) m)) := getV_I (vE := vA Ta.enc) (d := (Ta.mk 0 ⟨⟨[]⟩⟩ ⟨⟨[]⟩⟩)) (by simp [vA]) x m
@[simp] theorem Ta.nth {rows : List (List AV)} (n : Int) (h : rows = (rows.map Ta.dec).map Ta.enc) : nthL rows n.toNat [.lit (.int .i64 0), .lit (.string ⟨⟨[]⟩⟩), .lit (.string ⟨⟨[]⟩⟩)] = (nthI (rows.map Ta.dec) n).enc := nth_rows (f := Ta.enc) rfl h n
structure Tq where
 fg : List (Int × Ta)
 fh : Int
instance : Inhabited Tq := ⟨Tq.mk [] 0⟩
@[simp] def Tq.enc (x : Tq) (i0 : Nat) : List AV := [.mp i0, .lit (.int .i64 x.fh)]
@[simp] def Tq.dec : List AV → (List (Int × Ta)) → Tq
  | [.mp _, .lit (.int .i64 a1)], a0 => (Tq.mk a0 a1)
  | _, _ => default
@[simp] theorem Tq.eta (x : Tq) : Tq.mk x.fg x.fh = x := by cases x; rfl
structure Tl where
 fL : List Ta
 fh : Int
instance : Inhabited Tl := ⟨Tl.mk [] 0⟩
@[simp] def Tl.enc (x : Tl) : List AV := [.sl (x.fL.map Ta.enc) .no, .lit (.int .i64 x.fh)]
@[simp] def Tl.dec : List AV → Tl
  | [.sl a0 _, .lit (.int .i64 a1)] => (Tl.mk (a0.map Ta.dec) a1)
  | _ => default
@[simp] theorem Tl.eta (x : Tl) : Tl.mk x.fL x.fh = x := by cases x; rfl
theorem Tl.dec_enc (x : Tl) : Tl.dec x.enc = x := by simp
@[simp] theorem Tl.comp : Tl.dec ∘ Tl.enc = id := funext Tl.dec_enc
@[simp] theorem Tl.comp2 : (Tl.enc ∘ Tl.dec) ∘ Tl.enc = Tl.enc := funext fun x => by simp [Function.comp]
structure Td where
 fc : Int
 ff : Int
instance : Inhabited Td := ⟨Td.mk 0 0⟩
@[simp] def Td.enc (x : Td) : List AV := [.lit (.int .i64 x.fc), .lit (.int .i64 x.ff)]
@[simp] def Td.dec : List AV → Td
  | [.lit (.int .i64 a0), .lit (.int .i64 a1)] => (Td.mk a0 a1)
  | _ => default
@[simp] theorem Td.eta (x : Td) : Td.mk x.fc x.ff = x := by cases x; rfl
theorem Td.dec_enc (x : Td) : Td.dec x.enc = x := by simp
@[simp] theorem Td.comp : Td.dec ∘ Td.enc = id := funext Td.dec_enc
@[simp] theorem Td.comp2 : (Td.enc ∘ Td.dec) ∘ Td.enc = Td.enc := funext fun x => by simp [Function.comp]
def Td.eq (x y : Td) : Bool := eqI x.fc y.fc && eqI x.ff y.ff
theorem Td.eq_iff (x y : Td) : Td.eq x y = true ↔ x = y := by
 constructor
 ·intro h;obtain ⟨a0, a1⟩ := x;obtain ⟨b0, b1⟩ := y;simp only [Td.eq, Bool.and_eq_true, eqI_iff] at h;obtain ⟨rfl, rfl⟩ := h;rfl
 ·rintro rfl;simp [Td.eq, eqI_iff]
@[simp] theorem Td.sameL_enc (x y : Td) : sameL x.enc y.enc = some (Td.eq x y) := by simp [sameL, sameV, Td.eq]
@[simp] theorem Td.kval_enc (x : Td) : kval (vA Td.enc x) = some (keyVal x.enc) := by simp [kval, vA, isLit]
theorem Td.kinj (x y : Td) (h : keyVal x.enc = keyVal y.enc) : x = y := by
 obtain ⟨a0, a1⟩ := x;obtain ⟨b0, b1⟩ := y;simpa [keyVal, litV, and_assoc] using h
structure Tb where
 fu : Int
 fOf : Td
instance : Inhabited Tb := ⟨Tb.mk 0 (Td.mk 0 0)⟩
@[simp] def Tb.enc (x : Tb) : List AV := [.lit (.int .i64 x.fu), .lit (.int .i64 x.fOf.fc), .lit (.int .i64 x.fOf.ff)]
@[simp] def Tb.dec : List AV → Tb
  | [.lit (.int .i64 a0), .lit (.int .i64 a1), .lit (.int .i64 a2)] => (Tb.mk a0 (Td.mk a1 a2))
  | _ => default
@[simp] theorem Tb.eta (x : Tb) : Tb.mk x.fu x.fOf = x := by cases x; rfl
theorem Tb.dec_enc (x : Tb) : Tb.dec x.enc = x := by simp
@[simp] theorem Tb.comp : Tb.dec ∘ Tb.enc = id := funext Tb.dec_enc
@[simp] theorem Tb.comp2 : (Tb.enc ∘ Tb.dec) ∘ Tb.enc = Tb.enc := funext fun x => by simp [Function.comp]
@[simp] theorem Tb.bel (l : List Tb) (n : Nat) : belLL n (l.map Tb.enc) := bel_map (fun x => by simp) l
@[simp] theorem Tb.ren (σ : Nat → Nat) (l : List Tb) : renLL σ (l.map Tb.enc) = l.map Tb.enc := ren_map (fun x => by simp) l
@[simp] theorem Tb.nth {rows : List (List AV)} (n : Int) (h : rows = (rows.map Tb.dec).map Tb.enc) : nthL rows n.toNat [.lit (.int .i64 0), .lit (.int .i64 0), .lit (.int .i64 0)] = (nthI (rows.map Tb.dec) n).enc := nth_rows (f := Tb.enc) rfl h n
def Tb.eq (x y : Tb) : Bool := eqI x.fu y.fu && eqI x.fOf.fc y.fOf.fc && eqI x.fOf.ff y.fOf.ff
theorem Tb.eq_iff (x y : Tb) : Tb.eq x y = true ↔ x = y := by
 constructor
 ·intro h;obtain ⟨a0, ⟨a1, a2⟩⟩ := x;obtain ⟨b0, ⟨b1, b2⟩⟩ := y;simp only [Tb.eq, Bool.and_eq_true, eqI_iff] at h;obtain ⟨⟨rfl, rfl⟩, rfl⟩ := h;rfl
 ·rintro rfl;simp [Tb.eq, eqI_iff]
@[simp] theorem Tb.sameL_enc (x y : Tb) : sameL x.enc y.enc = some (Tb.eq x y) := by simp [sameL, sameV, Tb.eq, Bool.and_assoc]
@[simp] theorem Tb.kval_enc (x : Tb) : kval (vA Tb.enc x) = some (keyVal x.enc) := by simp [kval, vA, isLit]
theorem Tb.kinj (x y : Tb) (h : keyVal x.enc = keyVal y.enc) : x = y := by
 obtain ⟨a0, ⟨a1, a2⟩⟩ := x;obtain ⟨b0, ⟨b1, b2⟩⟩ := y;simpa [keyVal, litV, and_assoc] using h
structure Tf where
 fp : Int
 fw : Bool
instance : Inhabited Tf := ⟨Tf.mk 0 false⟩
@[simp] def Tf.enc (x : Tf) : List AV := [.lit (.int .i64 x.fp), .lit (.bool x.fw)]
@[simp] def Tf.dec : List AV → Tf
  | [.lit (.int .i64 a0), .lit (.bool a1)] => (Tf.mk a0 a1)
  | _ => default
@[simp] theorem Tf.eta (x : Tf) : Tf.mk x.fp x.fw = x := by cases x; rfl
theorem Tf.dec_enc (x : Tf) : Tf.dec x.enc = x := by simp
@[simp] theorem Tf.comp : Tf.dec ∘ Tf.enc = id := funext Tf.dec_enc
@[simp] theorem Tf.comp2 : (Tf.enc ∘ Tf.dec) ∘ Tf.enc = Tf.enc := funext fun x => by simp [Function.comp]
@[simp] theorem Tf.vren (σ : Nat → Nat) (x : Tf) : (vA Tf.enc x).ren σ = vA Tf.enc x := vA_ren_eq (fun x => by simp) x
@[simp] theorem Tf.mrenI (σ : Nat → Nat) (k : IntKind) (m : List (Int × Tf)) : (AObj.mapo (encM (kI k) (vA Tf.enc) m)).ren σ = .mapo (encM (kI k) (vA Tf.enc) m) := encM_ren (fun _ => rfl) (Tf.vren σ) m
@[simp] theorem Tf.mbelI (n : Nat) (k : IntKind) (m : List (Int × Tf)) : (AObj.mapo (encM (kI k) (vA Tf.enc) m)).bel n ↔ True := encM_bel (fun _ => by simp) (fun x => by simp) m
@[simp] theorem Tf.mdecI (k : IntKind) (m : List (Int × Tf)) : decM dkI (dvA Tf.dec) (encM (kI k) (vA Tf.enc) m) = m := decM_encM (fun _ => rfl) (fun x => by simp) m
@[simp] theorem Tf.getVI (k : IntKind) (x : Int) (m : List (Int × Tf)) : getV (.int k x) (.agg [.lit (.int .i64 0), .lit (.bool false)]) (encM (kI k) (vA Tf.enc) m) = .agg (Tf.enc (getM eqI x (Tf.mk 0 false) m)) := getV_I (vE := vA Tf.enc) (d := (Tf.mk 0 false)) (by simp [vA]) x m
structure Th where
 fq : Bool
 fy : Bool
 fb : List Int
instance : Inhabited Th := ⟨Th.mk false false []⟩
@[simp] def Th.enc (x : Th) : List AV := [.lit (.bool x.fq), .lit (.bool x.fy), .sl (x.fb.map (eNum .u32)) .no]
@[simp] def Th.dec : List AV → Th
  | [.lit (.bool a0), .lit (.bool a1), .sl a2 _] => (Th.mk a0 a1 (a2.map decI))
  | _ => default
@[simp] theorem Th.eta (x : Th) : Th.mk x.fq x.fy x.fb = x := by cases x; rfl
theorem Th.dec_enc (x : Th) : Th.dec x.enc = x := by simp
@[simp] theorem Th.comp : Th.dec ∘ Th.enc = id := funext Th.dec_enc
@[simp] theorem Th.comp2 : (Th.enc ∘ Th.dec) ∘ Th.enc = Th.enc := funext fun x => by simp [Function.comp]
@[simp] theorem Th.vren (σ : Nat → Nat) (x : Th) : (vA Th.enc x).ren σ = vA Th.enc x := vA_ren_eq (fun x => by simp) x
@[simp] theorem Th.mrenI (σ : Nat → Nat) (k : IntKind) (m : List (Int × Th)) : (AObj.mapo (encM (kI k) (vA Th.enc) m)).ren σ = .mapo (encM (kI k) (vA Th.enc) m) := encM_ren (fun _ => rfl) (Th.vren σ) m
@[simp] theorem Th.mbelI (n : Nat) (k : IntKind) (m : List (Int × Th)) : (AObj.mapo (encM (kI k) (vA Th.enc) m)).bel n ↔ True := encM_bel (fun _ => by simp) (fun x => by simp) m
@[simp] theorem Th.mdecI (k : IntKind) (m : List (Int × Th)) : decM dkI (dvA Th.dec) (encM (kI k) (vA Th.enc) m) = m := decM_encM (fun _ => rfl) (fun x => by simp) m
@[simp] theorem Th.getVI (k : IntKind) (x : Int) (m : List (Int × Th)) : getV (.int k x) (.agg [.lit (.bool false), .lit (.bool false), .sl [] .no]) (encM (kI k) (vA Th.enc) m) = .agg (Th.enc (getM eqI x (Th.mk false false []) m)) := getV_I (vE := vA Th.enc) (d := (Th.mk false false [])) (by simp [vA]) x m
structure Tj where
 fOf : Td
 fp : Int
instance : Inhabited Tj := ⟨Tj.mk (Td.mk 0 0) 0⟩
@[simp] def Tj.enc (x : Tj) : List AV := [.lit (.int .i64 x.fOf.fc), .lit (.int .i64 x.fOf.ff), .lit (.int .i64 x.fp)]
@[simp] def Tj.dec : List AV → Tj
  | [.lit (.int .i64 a0), .lit (.int .i64 a1), .lit (.int .i64 a2)] => (Tj.mk (Td.mk a0 a1) a2)
  | _ => default
@[simp] theorem Tj.eta (x : Tj) : Tj.mk x.fOf x.fp = x := by cases x; rfl
theorem Tj.dec_enc (x : Tj) : Tj.dec x.enc = x := by simp
@[simp] theorem Tj.comp : Tj.dec ∘ Tj.enc = id := funext Tj.dec_enc
@[simp] theorem Tj.comp2 : (Tj.enc ∘ Tj.dec) ∘ Tj.enc = Tj.enc := funext fun x => by simp [Function.comp]
@[simp] theorem Tj.vren (σ : Nat → Nat) (x : Tj) : (vA Tj.enc x).ren σ = vA Tj.enc x := vA_ren_eq (fun x => by simp) x
@[simp] theorem Tj.mrenI (σ : Nat → Nat) (k : IntKind) (m : List (Int × Tj)) : (AObj.mapo (encM (kI k) (vA Tj.enc) m)).ren σ = .mapo (encM (kI k) (vA Tj.enc) m) := encM_ren (fun _ => rfl) (Tj.vren σ) m
@[simp] theorem Tj.mbelI (n : Nat) (k : IntKind) (m : List (Int × Tj)) : (AObj.mapo (encM (kI k) (vA Tj.enc) m)).bel n ↔ True := encM_bel (fun _ => by simp) (fun x => by simp) m
@[simp] theorem Tj.mdecI (k : IntKind) (m : List (Int × Tj)) : decM dkI (dvA Tj.dec) (encM (kI k) (vA Tj.enc) m) = m := decM_encM (fun _ => rfl) (fun x => by simp) m
@[simp] theorem Tj.getVI (k : IntKind) (x : Int) (m : List (Int × Tj)) : getV (.int k x) (.agg [.lit (.int .i64 0), .lit (.int .i64 0), .lit (.int .i64 0)]) (encM (kI k) (vA Tj.enc) m) = .agg (Tj.enc (getM eqI x (Tj.mk (Td.mk 0 0) 0) m)) := getV_I (vE := vA Tj.enc) (d := (Tj.mk (Td.mk 0 0) 0)) (by simp [vA]) x m
structure Tn where
 fe : Tq
 fa : List (Td × Th)
 fd : List (Tb × Tf)
 fj : List (Int × Tj)
instance : Inhabited Tn := ⟨Tn.mk (Tq.mk [] 0) [] [] []⟩
@[simp] def Tn.enc (_x : Tn) (i0 : Nat) (i1 : Nat) (i2 : Nat) (i3 : Nat) : List AV := [.ptr i0 0, .mp i1, .mp i2, .mp i3]
@[simp] def Tn.dec : List AV → Tq → (List (Td × Th)) → (List (Tb × Tf)) → (List (Int × Tj)) → Tn
  | [.ptr _ _, .mp _, .mp _, .mp _], a0, a1, a2, a3 => (Tn.mk a0 a1 a2 a3)
  | _, _, _, _, _ => default
@[simp] theorem Tn.eta (x : Tn) : Tn.mk x.fe x.fa x.fd x.fj = x := by cases x; rfl
structure Tp where
 fc : Int
 fN : Int
 fq : Bool
 fy : Bool
 fb : List Int
instance : Inhabited Tp := ⟨Tp.mk 0 0 false false []⟩
@[simp] def Tp.enc (x : Tp) : List AV := [.lit (.int .i64 x.fc), .lit (.int .i64 x.fN), .lit (.bool x.fq), .lit (.bool x.fy), .sl (x.fb.map (eNum .u32)) .no]
@[simp] def Tp.dec : List AV → Tp
  | [.lit (.int .i64 a0), .lit (.int .i64 a1), .lit (.bool a2), .lit (.bool a3), .sl a4 _] => (Tp.mk a0 a1 a2 a3 (a4.map decI))
  | _ => default
@[simp] theorem Tp.eta (x : Tp) : Tp.mk x.fc x.fN x.fq x.fy x.fb = x := by cases x; rfl
theorem Tp.dec_enc (x : Tp) : Tp.dec x.enc = x := by simp
@[simp] theorem Tp.comp : Tp.dec ∘ Tp.enc = id := funext Tp.dec_enc
@[simp] theorem Tp.comp2 : (Tp.enc ∘ Tp.dec) ∘ Tp.enc = Tp.enc := funext fun x => by simp [Function.comp]
@[simp] theorem Tp.bel (l : List Tp) (n : Nat) : belLL n (l.map Tp.enc) := bel_map (fun x => by simp) l
@[simp] theorem Tp.ren (σ : Nat → Nat) (l : List Tp) : renLL σ (l.map Tp.enc) = l.map Tp.enc := ren_map (fun x => by simp) l
@[simp] theorem Tp.nth {rows : List (List AV)} (n : Int) (h : rows = (rows.map Tp.dec).map Tp.enc) : nthL rows n.toNat [.lit (.int .i64 0), .lit (.int .i64 0), .lit (.bool false), .lit (.bool false), .sl [] .no] = (nthI (rows.map Tp.dec) n).enc := nth_rows (f := Tp.enc) rfl h n
@[simp] theorem Tp.arrset (l : List Tp) (n : Int) (a0 : Int) (a1 : Int) (a2 : Bool) (a3 : Bool) (a4 : List Int) : setAt (l.map Tp.enc) n.toNat [.lit (.int .i64 a0), .lit (.int .i64 a1), .lit (.bool a2), .lit (.bool a3), .sl (a4.map (eNum .u32)) .no] = (setI l n (Tp.mk a0 a1 a2 a3 a4)).map Tp.enc := setAt_eq rfl
structure Tg where
 fu : Int
 fc : Int
 fN : Int
 fp : Int
 fw : Bool
instance : Inhabited Tg := ⟨Tg.mk 0 0 0 0 false⟩
@[simp] def Tg.enc (x : Tg) : List AV := [.lit (.int .i64 x.fu), .lit (.int .i64 x.fc), .lit (.int .i64 x.fN), .lit (.int .i64 x.fp), .lit (.bool x.fw)]
@[simp] def Tg.dec : List AV → Tg
  | [.lit (.int .i64 a0), .lit (.int .i64 a1), .lit (.int .i64 a2), .lit (.int .i64 a3), .lit (.bool a4)] => (Tg.mk a0 a1 a2 a3 a4)
  | _ => default
@[simp] theorem Tg.eta (x : Tg) : Tg.mk x.fu x.fc x.fN x.fp x.fw = x := by cases x; rfl
theorem Tg.dec_enc (x : Tg) : Tg.dec x.enc = x := by simp
@[simp] theorem Tg.comp : Tg.dec ∘ Tg.enc = id := funext Tg.dec_enc
@[simp] theorem Tg.comp2 : (Tg.enc ∘ Tg.dec) ∘ Tg.enc = Tg.enc := funext fun x => by simp [Function.comp]
@[simp] theorem Tg.bel (l : List Tg) (n : Nat) : belLL n (l.map Tg.enc) := bel_map (fun x => by simp) l
@[simp] theorem Tg.ren (σ : Nat → Nat) (l : List Tg) : renLL σ (l.map Tg.enc) = l.map Tg.enc := ren_map (fun x => by simp) l
@[simp] theorem Tg.nth {rows : List (List AV)} (n : Int) (h : rows = (rows.map Tg.dec).map Tg.enc) : nthL rows n.toNat [.lit (.int .i64 0), .lit (.int .i64 0), .lit (.int .i64 0), .lit (.int .i64 0), .lit (.bool false)] = (nthI (rows.map Tg.dec) n).enc := nth_rows (f := Tg.enc) rfl h n
@[simp] theorem Tg.arrset (l : List Tg) (n : Int) (a0 : Int) (a1 : Int) (a2 : Int) (a3 : Int) (a4 : Bool) : setAt (l.map Tg.enc) n.toNat [.lit (.int .i64 a0), .lit (.int .i64 a1), .lit (.int .i64 a2), .lit (.int .i64 a3), .lit (.bool a4)] = (setI l n (Tg.mk a0 a1 a2 a3 a4)).map Tg.enc := setAt_eq rfl
structure Te where
 fT : Tl
 fa : List Tp
 fd : List Tg
instance : Inhabited Te := ⟨Te.mk (Tl.mk [] 0) [] []⟩
@[simp] def Te.enc (x : Te) : List AV := [.sl (x.fT.fL.map Ta.enc) .no, .lit (.int .i64 x.fT.fh), .sl (x.fa.map Tp.enc) .no, .sl (x.fd.map Tg.enc) .no]
@[simp] def Te.dec : List AV → Te
  | [.sl a0 _, .lit (.int .i64 a1), .sl a2 _, .sl a3 _] => (Te.mk (Tl.mk (a0.map Ta.dec) a1) (a2.map Tp.dec) (a3.map Tg.dec))
  | _ => default
@[simp] theorem Te.eta (x : Te) : Te.mk x.fT x.fa x.fd = x := by cases x; rfl
theorem Te.dec_enc (x : Te) : Te.dec x.enc = x := by simp
@[simp] theorem Te.comp : Te.dec ∘ Te.enc = id := funext Te.dec_enc
@[simp] theorem Te.comp2 : (Te.enc ∘ Te.dec) ∘ Te.enc = Te.enc := funext fun x => by simp [Function.comp]
end Go.Ab
