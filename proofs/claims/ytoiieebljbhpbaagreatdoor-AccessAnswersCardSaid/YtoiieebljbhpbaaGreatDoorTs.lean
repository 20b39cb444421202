/- The types of these functions. No condition. -/
import Derived.Test.YtoiieebljbhpbaaGreatDoorM13
import Derived.Test.YtoiieebljbhpbaaGreatDoorKx
import Derived.Test.YtoiieebljbhpbaaGreatDoorM18
namespace Go.Ab

structure Td where
 fk : Int
 fm : ByteArray
 fp : ByteArray
 fd : Int
 fOf : Int
 fh : Int
 fo : Int
 fOn : Bool
 fq : Bool
 fa : List Int
instance : Inhabited Td := ⟨Td.mk 0 ⟨⟨[]⟩⟩ ⟨⟨[]⟩⟩ 0 0 0 0 false false []⟩
@[simp] def Td.enc (x : Td) : List AV := [.lit (.int .i64 x.fk), .lit (.string x.fm), .lit (.string x.fp), .lit (.int .i64 x.fd), .lit (.int .i64 x.fOf), .lit (.int .i64 x.fh), .lit (.int .i64 x.fo), .lit (.bool x.fOn), .lit (.bool x.fq), .sl (x.fa.map (eNum .u32)) .no]
@[simp] def Td.dec : List AV → Td
  | [.lit (.int .i64 a0), .lit (.string a1), .lit (.string a2), .lit (.int .i64 a3), .lit (.int .i64 a4), .lit (.int .i64 a5), .lit (.int .i64 a6), .lit (.bool a7), .lit (.bool a8), .sl a9 _] => (Td.mk a0 a1 a2 a3 a4 a5 a6 a7 a8 (a9.map decI))
  | _ => default
@[simp] theorem Td.eta (x : Td) : Td.mk x.fk x.fm x.fp x.fd x.fOf x.fh x.fo x.fOn x.fq x.fa = x := by cases x; rfl
theorem Td.dec_enc (x : Td) : Td.dec x.enc = x := by simp
@[simp] theorem Td.comp : Td.dec ∘ Td.enc = id := funext Td.dec_enc
@[simp] theorem Td.comp2 : (Td.enc ∘ Td.dec) ∘ Td.enc = Td.enc := funext fun x => by simp [Function.comp]
@[simp] theorem Td.bel (l : List Td) (n : Nat) : belLL n (l.map Td.enc) := bel_map (fun x => by simp) l
@[simp] theorem Td.nth {rows : List (List AV)} (n : Int) (h : rows = (rows.map Td.dec).map Td.enc) : nthL rows n.toNat [.lit (.int .i64 0), .lit (.string ⟨⟨[]⟩⟩), .lit (.string ⟨⟨[]⟩⟩), .lit (.int .i64 0), .lit (.int .i64 0), .lit (.int .i64 0), .lit (.int .i64 0), .lit (.bool false), .lit (.bool false), .sl [] .no] = (nthI (rows.map Td.dec) n).enc := nth_rows (f := Td.enc) rfl h n
structure Ta where
 fN : Int
 fp : ByteArray
 fm : ByteArray
instance : Inhabited Ta := ⟨Ta.mk 0 ⟨⟨[]⟩⟩ ⟨⟨[]⟩⟩⟩
@[simp] def Ta.enc (x : Ta) : List AV := [.lit (.int .i64 x.fN), .lit (.string x.fp), .lit (.string x.fm)]
@[simp] def Ta.dec : List AV → Ta
  | [.lit (.int .i64 a0), .lit (.string a1), .lit (.string a2)] => (Ta.mk a0 a1 a2)
  | _ => default
@[simp] theorem Ta.eta (x : Ta) : Ta.mk x.fN x.fp x.fm = x := by cases x; rfl
theorem Ta.dec_enc (x : Ta) : Ta.dec x.enc = x := by simp
@[simp] theorem Ta.comp : Ta.dec ∘ Ta.enc = id := funext Ta.dec_enc
@[simp] theorem Ta.comp2 : (Ta.enc ∘ Ta.dec) ∘ Ta.enc = Ta.enc := funext fun x => by simp [Function.comp]
@[simp] theorem Ta.bel (l : List Ta) (n : Nat) : belLL n (l.map Ta.enc) := bel_map (fun x => by simp) l
@[simp] theorem Ta.ren (σ : Nat → Nat) (l : List Ta) : renLL σ (l.map Ta.enc) = l.map Ta.enc := ren_map (fun x => by simp) l
@[simp] theorem Ta.vren (σ : Nat → Nat) (x : Ta) : (vA Ta.enc x).ren σ = vA Ta.enc x := vA_ren_eq (fun x => by simp) x
@[simp] theorem Ta.mrenI (σ : Nat → Nat) (k : IntKind) (m : List (Int × Ta)) : (AObj.mapo (encM (kI k) (vA Ta.enc) m)).ren σ = .mapo (encM (kI k) (vA Ta.enc) m) := encM_ren (fun _ => rfl) (Ta.vren σ) m
@[simp] theorem Ta.mbelI (n : Nat) (k : IntKind) (m : List (Int × Ta)) : (AObj.mapo (encM (kI k) (vA Ta.enc) m)).bel n ↔ True := encM_bel (fun _ => by simp) (fun x => by simp) m
@[simp] theorem Ta.mdecI (k : IntKind) (m : List (Int × Ta)) : decM dkI (dvA Ta.dec) (encM (kI k) (vA Ta.enc) m) = m := decM_encM (fun _ => rfl) (fun x => by simp) m
@[simp] theorem Ta.getVI (k : IntKind) (x : Int) (m : List (Int × Ta)) : getV (.int k x) (.agg [.lit (.int .i64 0), .lit (.string ⟨⟨[]⟩⟩), .lit (.string ⟨⟨[]⟩⟩)]) (encM (kI k) (vA Ta.enc) m) = .agg (Ta.enc (getM eqI x (Ta.mk 0 ⟨⟨[]⟩⟩ ⟨⟨[]⟩⟩) m)) := getV_I (vE := vA Ta.enc) (d := (Ta.mk 0 ⟨⟨[]⟩⟩ ⟨⟨[]⟩⟩)) (by simp [vA]) x m
@[simp] theorem Ta.nth {rows : List (List AV)} (n : Int) (h : rows = (rows.map Ta.dec).map Ta.enc) : nthL rows n.toNat [.lit (.int .i64 0), .lit (.string ⟨⟨[]⟩⟩), .lit (.string ⟨⟨[]⟩⟩)] = (nthI (rows.map Ta.dec) n).enc := nth_rows (f := Ta.enc) rfl h n
structure Tj where
 fe : List (Int × Ta)
 fj : Int
instance : Inhabited Tj := ⟨Tj.mk [] 0⟩
@[simp] def Tj.enc (x : Tj) (i0 : Nat) : List AV := [.mp i0, .lit (.int .i64 x.fj)]
@[simp] def Tj.dec : List AV → (List (Int × Ta)) → Tj
  | [.mp _, .lit (.int .i64 a1)], a0 => (Tj.mk a0 a1)
  | _, _ => default
@[simp] theorem Tj.eta (x : Tj) : Tj.mk x.fe x.fj = x := by cases x; rfl

structure Tn where
 fL : List Ta
 fj : Int
instance : Inhabited Tn := ⟨Tn.mk [] 0⟩
@[simp] def Tn.enc (x : Tn) : List AV := [.sl (x.fL.map Ta.enc) .no, .lit (.int .i64 x.fj)]
@[simp] def Tn.dec : List AV → Tn
  | [.sl a0 _, .lit (.int .i64 a1)] => (Tn.mk (a0.map Ta.dec) a1)
  | _ => default
@[simp] theorem Tn.eta (x : Tn) : Tn.mk x.fL x.fj = x := by cases x; rfl
theorem Tn.dec_enc (x : Tn) : Tn.dec x.enc = x := by simp
@[simp] theorem Tn.comp : Tn.dec ∘ Tn.enc = id := funext Tn.dec_enc
@[simp] theorem Tn.comp2 : (Tn.enc ∘ Tn.dec) ∘ Tn.enc = Tn.enc := funext fun x => by simp [Function.comp]
structure Tc where
 fd : Int
 fh : Int
instance : Inhabited Tc := ⟨Tc.mk 0 0⟩
@[simp] def Tc.enc (x : Tc) : List AV := [.lit (.int .i64 x.fd), .lit (.int .i64 x.fh)]
@[simp] def Tc.dec : List AV → Tc
  | [.lit (.int .i64 a0), .lit (.int .i64 a1)] => (Tc.mk a0 a1)
  | _ => default
@[simp] theorem Tc.eta (x : Tc) : Tc.mk x.fd x.fh = x := by cases x; rfl
theorem Tc.dec_enc (x : Tc) : Tc.dec x.enc = x := by simp
@[simp] theorem Tc.comp : Tc.dec ∘ Tc.enc = id := funext Tc.dec_enc
@[simp] theorem Tc.comp2 : (Tc.enc ∘ Tc.dec) ∘ Tc.enc = Tc.enc := funext fun x => by simp [Function.comp]
def Tc.eq (x y : Tc) : Bool := eqI x.fd y.fd && eqI x.fh y.fh
theorem Tc.eq_iff (x y : Tc) : Tc.eq x y = true ↔ x = y := by
 constructor
 ·intro h
  obtain ⟨a0, a1⟩ := x
  obtain ⟨b0, b1⟩ := y
  simp only [Tc.eq, Bool.and_eq_true, eqI_iff] at h
  obtain ⟨rfl, rfl⟩ := h
  rfl
 ·rintro rfl
  simp [Tc.eq, eqI_iff]
@[simp] theorem Tc.sameL_enc (x y : Tc) : sameL x.enc y.enc = some (Tc.eq x y) := by simp [sameL, sameV, Tc.eq]
@[simp] theorem Tc.kval_enc (x : Tc) : kval (vA Tc.enc x) = some (keyVal x.enc) := by simp [kval, vA, isLit]
theorem Tc.kinj (x y : Tc) (h : keyVal x.enc = keyVal y.enc) : x = y := by
 obtain ⟨a0, a1⟩ := x
 obtain ⟨b0, b1⟩ := y
 simpa [keyVal, litV, and_assoc] using h

structure Tb where
 fu : Int
 fOf : Tc
instance : Inhabited Tb := ⟨Tb.mk 0 (Tc.mk 0 0)⟩
@[simp] def Tb.enc (x : Tb) : List AV := [.lit (.int .i64 x.fu), .lit (.int .i64 x.fOf.fd), .lit (.int .i64 x.fOf.fh)]
@[simp] def Tb.dec : List AV → Tb
  | [.lit (.int .i64 a0), .lit (.int .i64 a1), .lit (.int .i64 a2)] => (Tb.mk a0 (Tc.mk a1 a2))
  | _ => default
@[simp] theorem Tb.eta (x : Tb) : Tb.mk x.fu x.fOf = x := by cases x; rfl
theorem Tb.dec_enc (x : Tb) : Tb.dec x.enc = x := by simp
@[simp] theorem Tb.comp : Tb.dec ∘ Tb.enc = id := funext Tb.dec_enc
@[simp] theorem Tb.comp2 : (Tb.enc ∘ Tb.dec) ∘ Tb.enc = Tb.enc := funext fun x => by simp [Function.comp]
@[simp] theorem Tb.bel (l : List Tb) (n : Nat) : belLL n (l.map Tb.enc) := bel_map (fun x => by simp) l
@[simp] theorem Tb.ren (σ : Nat → Nat) (l : List Tb) : renLL σ (l.map Tb.enc) = l.map Tb.enc := ren_map (fun x => by simp) l
@[simp] theorem Tb.nth {rows : List (List AV)} (n : Int) (h : rows = (rows.map Tb.dec).map Tb.enc) : nthL rows n.toNat [.lit (.int .i64 0), .lit (.int .i64 0), .lit (.int .i64 0)] = (nthI (rows.map Tb.dec) n).enc := nth_rows (f := Tb.enc) rfl h n
def Tb.eq (x y : Tb) : Bool := eqI x.fu y.fu && eqI x.fOf.fd y.fOf.fd && eqI x.fOf.fh y.fOf.fh
theorem Tb.eq_iff (x y : Tb) : Tb.eq x y = true ↔ x = y := by
 constructor
 ·intro h
  obtain ⟨a0, ⟨a1, a2⟩⟩ := x
  obtain ⟨b0, ⟨b1, b2⟩⟩ := y
  simp only [Tb.eq, Bool.and_eq_true, eqI_iff] at h
  obtain ⟨⟨rfl, rfl⟩, rfl⟩ := h
  rfl
 ·rintro rfl
  simp [Tb.eq, eqI_iff]
@[simp] theorem Tb.sameL_enc (x y : Tb) : sameL x.enc y.enc = some (Tb.eq x y) := by simp [sameL, sameV, Tb.eq, Bool.and_assoc]
@[simp] theorem Tb.kval_enc (x : Tb) : kval (vA Tb.enc x) = some (keyVal x.enc) := by simp [kval, vA, isLit]
theorem Tb.kinj (x y : Tb) (h : keyVal x.enc = keyVal y.enc) : x = y := by
 obtain ⟨a0, ⟨a1, a2⟩⟩ := x
 obtain ⟨b0, ⟨b1, b2⟩⟩ := y
 simpa [keyVal, litV, and_assoc] using h

structure Tg where
 fo : Int
 fw : Bool
instance : Inhabited Tg := ⟨Tg.mk 0 false⟩
@[simp] def Tg.enc (x : Tg) : List AV := [.lit (.int .i64 x.fo), .lit (.bool x.fw)]
@[simp] def Tg.dec : List AV → Tg
  | [.lit (.int .i64 a0), .lit (.bool a1)] => (Tg.mk a0 a1)
  | _ => default
@[simp] theorem Tg.eta (x : Tg) : Tg.mk x.fo x.fw = x := by cases x; rfl
theorem Tg.dec_enc (x : Tg) : Tg.dec x.enc = x := by simp
@[simp] theorem Tg.comp : Tg.dec ∘ Tg.enc = id := funext Tg.dec_enc
@[simp] theorem Tg.comp2 : (Tg.enc ∘ Tg.dec) ∘ Tg.enc = Tg.enc := funext fun x => by simp [Function.comp]
@[simp] theorem Tg.vren (σ : Nat → Nat) (x : Tg) : (vA Tg.enc x).ren σ = vA Tg.enc x := vA_ren_eq (fun x => by simp) x
@[simp] theorem Tg.mrenI (σ : Nat → Nat) (k : IntKind) (m : List (Int × Tg)) : (AObj.mapo (encM (kI k) (vA Tg.enc) m)).ren σ = .mapo (encM (kI k) (vA Tg.enc) m) := encM_ren (fun _ => rfl) (Tg.vren σ) m
@[simp] theorem Tg.mbelI (n : Nat) (k : IntKind) (m : List (Int × Tg)) : (AObj.mapo (encM (kI k) (vA Tg.enc) m)).bel n ↔ True := encM_bel (fun _ => by simp) (fun x => by simp) m
@[simp] theorem Tg.mdecI (k : IntKind) (m : List (Int × Tg)) : decM dkI (dvA Tg.dec) (encM (kI k) (vA Tg.enc) m) = m := decM_encM (fun _ => rfl) (fun x => by simp) m
@[simp] theorem Tg.getVI (k : IntKind) (x : Int) (m : List (Int × Tg)) : getV (.int k x) (.agg [.lit (.int .i64 0), .lit (.bool false)]) (encM (kI k) (vA Tg.enc) m) = .agg (Tg.enc (getM eqI x (Tg.mk 0 false) m)) := getV_I (vE := vA Tg.enc) (d := (Tg.mk 0 false)) (by simp [vA]) x m
structure Te where
 fq : Bool
 fy : Bool
 fa : List Int
instance : Inhabited Te := ⟨Te.mk false false []⟩
@[simp] def Te.enc (x : Te) : List AV := [.lit (.bool x.fq), .lit (.bool x.fy), .sl (x.fa.map (eNum .u32)) .no]
@[simp] def Te.dec : List AV → Te
  | [.lit (.bool a0), .lit (.bool a1), .sl a2 _] => (Te.mk a0 a1 (a2.map decI))
  | _ => default
@[simp] theorem Te.eta (x : Te) : Te.mk x.fq x.fy x.fa = x := by cases x; rfl
theorem Te.dec_enc (x : Te) : Te.dec x.enc = x := by simp
@[simp] theorem Te.comp : Te.dec ∘ Te.enc = id := funext Te.dec_enc
@[simp] theorem Te.comp2 : (Te.enc ∘ Te.dec) ∘ Te.enc = Te.enc := funext fun x => by simp [Function.comp]
@[simp] theorem Te.vren (σ : Nat → Nat) (x : Te) : (vA Te.enc x).ren σ = vA Te.enc x := vA_ren_eq (fun x => by simp) x
@[simp] theorem Te.mrenI (σ : Nat → Nat) (k : IntKind) (m : List (Int × Te)) : (AObj.mapo (encM (kI k) (vA Te.enc) m)).ren σ = .mapo (encM (kI k) (vA Te.enc) m) := encM_ren (fun _ => rfl) (Te.vren σ) m
@[simp] theorem Te.mbelI (n : Nat) (k : IntKind) (m : List (Int × Te)) : (AObj.mapo (encM (kI k) (vA Te.enc) m)).bel n ↔ True := encM_bel (fun _ => by simp) (fun x => by simp) m
@[simp] theorem Te.mdecI (k : IntKind) (m : List (Int × Te)) : decM dkI (dvA Te.dec) (encM (kI k) (vA Te.enc) m) = m := decM_encM (fun _ => rfl) (fun x => by simp) m
@[simp] theorem Te.getVI (k : IntKind) (x : Int) (m : List (Int × Te)) : getV (.int k x) (.agg [.lit (.bool false), .lit (.bool false), .sl [] .no]) (encM (kI k) (vA Te.enc) m) = .agg (Te.enc (getM eqI x (Te.mk false false []) m)) := getV_I (vE := vA Te.enc) (d := (Te.mk false false [])) (by simp [vA]) x m
structure Tf where
 fOf : Tc
 fo : Int
instance : Inhabited Tf := ⟨Tf.mk (Tc.mk 0 0) 0⟩
@[simp] def Tf.enc (x : Tf) : List AV := [.lit (.int .i64 x.fOf.fd), .lit (.int .i64 x.fOf.fh), .lit (.int .i64 x.fo)]
@[simp] def Tf.dec : List AV → Tf
  | [.lit (.int .i64 a0), .lit (.int .i64 a1), .lit (.int .i64 a2)] => (Tf.mk (Tc.mk a0 a1) a2)
  | _ => default
@[simp] theorem Tf.eta (x : Tf) : Tf.mk x.fOf x.fo = x := by cases x; rfl
theorem Tf.dec_enc (x : Tf) : Tf.dec x.enc = x := by simp
@[simp] theorem Tf.comp : Tf.dec ∘ Tf.enc = id := funext Tf.dec_enc
@[simp] theorem Tf.comp2 : (Tf.enc ∘ Tf.dec) ∘ Tf.enc = Tf.enc := funext fun x => by simp [Function.comp]
@[simp] theorem Tf.vren (σ : Nat → Nat) (x : Tf) : (vA Tf.enc x).ren σ = vA Tf.enc x := vA_ren_eq (fun x => by simp) x
@[simp] theorem Tf.mrenI (σ : Nat → Nat) (k : IntKind) (m : List (Int × Tf)) : (AObj.mapo (encM (kI k) (vA Tf.enc) m)).ren σ = .mapo (encM (kI k) (vA Tf.enc) m) := encM_ren (fun _ => rfl) (Tf.vren σ) m
@[simp] theorem Tf.mbelI (n : Nat) (k : IntKind) (m : List (Int × Tf)) : (AObj.mapo (encM (kI k) (vA Tf.enc) m)).bel n ↔ True := encM_bel (fun _ => by simp) (fun x => by simp) m
@[simp] theorem Tf.mdecI (k : IntKind) (m : List (Int × Tf)) : decM dkI (dvA Tf.dec) (encM (kI k) (vA Tf.enc) m) = m := decM_encM (fun _ => rfl) (fun x => by simp) m
@[simp] theorem Tf.getVI (k : IntKind) (x : Int) (m : List (Int × Tf)) : getV (.int k x) (.agg [.lit (.int .i64 0), .lit (.int .i64 0), .lit (.int .i64 0)]) (encM (kI k) (vA Tf.enc) m) = .agg (Tf.enc (getM eqI x (Tf.mk (Tc.mk 0 0) 0) m)) := getV_I (vE := vA Tf.enc) (d := (Tf.mk (Tc.mk 0 0) 0)) (by simp [vA]) x m
structure Th where
 fb : Tj
 fc : List (Tc × Te)
 ff : List (Tb × Tg)
 fg : List (Int × Tf)
instance : Inhabited Th := ⟨Th.mk (Tj.mk [] 0) [] [] []⟩
@[simp] def Th.enc (_x : Th) (i0 : Nat) (i1 : Nat) (i2 : Nat) (i3 : Nat) : List AV := [.ptr i0 0, .mp i1, .mp i2, .mp i3]
@[simp] def Th.dec : List AV → Tj → (List (Tc × Te)) → (List (Tb × Tg)) → (List (Int × Tf)) → Th
  | [.ptr _ _, .mp _, .mp _, .mp _], a0, a1, a2, a3 => (Th.mk a0 a1 a2 a3)
  | _, _, _, _, _ => default
@[simp] theorem Th.eta (x : Th) : Th.mk x.fb x.fc x.ff x.fg = x := by cases x; rfl

structure Tq where
 fd : Int
 fN : Int
 fq : Bool
 fy : Bool
 fa : List Int
instance : Inhabited Tq := ⟨Tq.mk 0 0 false false []⟩
@[simp] def Tq.enc (x : Tq) : List AV := [.lit (.int .i64 x.fd), .lit (.int .i64 x.fN), .lit (.bool x.fq), .lit (.bool x.fy), .sl (x.fa.map (eNum .u32)) .no]
@[simp] def Tq.dec : List AV → Tq
  | [.lit (.int .i64 a0), .lit (.int .i64 a1), .lit (.bool a2), .lit (.bool a3), .sl a4 _] => (Tq.mk a0 a1 a2 a3 (a4.map decI))
  | _ => default
@[simp] theorem Tq.eta (x : Tq) : Tq.mk x.fd x.fN x.fq x.fy x.fa = x := by cases x; rfl
theorem Tq.dec_enc (x : Tq) : Tq.dec x.enc = x := by simp
@[simp] theorem Tq.comp : Tq.dec ∘ Tq.enc = id := funext Tq.dec_enc
@[simp] theorem Tq.comp2 : (Tq.enc ∘ Tq.dec) ∘ Tq.enc = Tq.enc := funext fun x => by simp [Function.comp]
structure Tp where
 fu : Int
 fd : Int
 fN : Int
 fo : Int
 fw : Bool
instance : Inhabited Tp := ⟨Tp.mk 0 0 0 0 false⟩
@[simp] def Tp.enc (x : Tp) : List AV := [.lit (.int .i64 x.fu), .lit (.int .i64 x.fd), .lit (.int .i64 x.fN), .lit (.int .i64 x.fo), .lit (.bool x.fw)]
@[simp] def Tp.dec : List AV → Tp
  | [.lit (.int .i64 a0), .lit (.int .i64 a1), .lit (.int .i64 a2), .lit (.int .i64 a3), .lit (.bool a4)] => (Tp.mk a0 a1 a2 a3 a4)
  | _ => default
@[simp] theorem Tp.eta (x : Tp) : Tp.mk x.fu x.fd x.fN x.fo x.fw = x := by cases x; rfl
theorem Tp.dec_enc (x : Tp) : Tp.dec x.enc = x := by simp
@[simp] theorem Tp.comp : Tp.dec ∘ Tp.enc = id := funext Tp.dec_enc
@[simp] theorem Tp.comp2 : (Tp.enc ∘ Tp.dec) ∘ Tp.enc = Tp.enc := funext fun x => by simp [Function.comp]
structure Tl where
 fT : Tn
 fc : List Tq
 ff : List Tp
instance : Inhabited Tl := ⟨Tl.mk (Tn.mk [] 0) [] []⟩
@[simp] def Tl.enc (x : Tl) : List AV := [.sl (x.fT.fL.map Ta.enc) .no, .lit (.int .i64 x.fT.fj), .sl (x.fc.map Tq.enc) .no, .sl (x.ff.map Tp.enc) .no]
@[simp] def Tl.dec : List AV → Tl
  | [.sl a0 _, .lit (.int .i64 a1), .sl a2 _, .sl a3 _] => (Tl.mk (Tn.mk (a0.map Ta.dec) a1) (a2.map Tq.dec) (a3.map Tp.dec))
  | _ => default
@[simp] theorem Tl.eta (x : Tl) : Tl.mk x.fT x.fc x.ff = x := by cases x; rfl
theorem Tl.dec_enc (x : Tl) : Tl.dec x.enc = x := by simp
@[simp] theorem Tl.comp : Tl.dec ∘ Tl.enc = id := funext Tl.dec_enc
@[simp] theorem Tl.comp2 : (Tl.enc ∘ Tl.dec) ∘ Tl.enc = Tl.enc := funext fun x => by simp [Function.comp]
end Go.Ab
