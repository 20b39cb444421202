import Derived.Test.YtoiieebljbhpbaaGreatDoorM07
import Derived.Test.YtoiieebljbhpbaaGreatDoorKx
import Derived.Test.YtoiieebljbhpbaaGreatDoorM22
namespace Go.Ab
structure Td where
 fk : Int
 fm : ByteArray
 fp : ByteArray
 fc : Int
 fOf : Int
 ff : Int
 fo : Int
 fOn : Bool
 fq : Bool
 fa : List Int
instance : Inhabited Td := ⟨Td.mk 0 ⟨⟨[]⟩⟩ ⟨⟨[]⟩⟩ 0 0 0 0 false false []⟩
@[simp] def Td.enc (x : Td) : List AV := [.lit (.int .i64 x.fk), .lit (.string x.fm), .lit (.string x.fp), .lit (.int .i64 x.fc), .lit (.int .i64 x.fOf), .lit (.int .i64 x.ff), .lit (.int .i64 x.fo), .lit (.bool x.fOn), .lit (.bool x.fq), .sl (x.fa.map (eNum .u32)) .no]
@[simp] def Td.dec : List AV → Td
  | [.lit (.int .i64 a0), .lit (.string a1), .lit (.string a2), .lit (.int .i64 a3), .lit (.int .i64 a4), .lit (.int .i64 a5), .lit (.int .i64 a6), .lit (.bool a7), .lit (.bool a8), .sl a9 _] => (Td.mk a0 a1 a2 a3 a4 a5 a6 a7 a8 (a9.map decI))
  | _ => default
@[simp] theorem Td.eta (x : Td) : Td.mk x.fk x.fm x.fp x.fc x.fOf x.ff x.fo x.fOn x.fq x.fa = x := by cases x; rfl
theorem Td.dec_enc (x : Td) : Td.dec x.enc = x := by simp
@[simp] theorem Td.comp : Td.dec ∘ Td.enc = id := funext Td.dec_enc
@[simp] theorem Td.comp2 : (Td.enc ∘ Td.dec) ∘ Td.enc = Td.enc := funext fun x => by simp [Function.comp]
@[simp] theorem Td.bel (l : List Td) (n : Nat) : belLL n (l.map Td.enc) := bel_map (fun x => by simp) l
@[simp] theorem Td.nth {rows : List (List AV)} (n : Int) (h : rows = (rows.map Td.dec).map Td.enc) : nthL rows n.toNat [.lit (.int .i64 0), .lit (.string ⟨⟨[]⟩⟩), .lit (.string ⟨⟨[]⟩⟩), .lit (.int .i64 0), .lit (.int .i64 0), .lit (.int .i64 0), .lit (.int .i64 0), .lit (.bool false), .lit (.bool false), .sl [] .no] = (nthI (rows.map Td.dec) n).enc := nth_rows (f := Td.enc) rfl h n
structure Ta where
 fN : Int
 fp : ByteArray
 fm : ByteArray
instance : Inhabited Ta := ⟨Ta.mk 0 ⟨⟨[]⟩⟩ ⟨⟨[]⟩⟩⟩
@[simp] def Ta.enc (x : Ta) : List AV := [.lit (.int .i64 x.fN), .lit (.string x.fp), .lit (.string x.fm)]
@[simp] def Ta.dec : List AV → Ta
  | [.lit (.int .i64 a0), .lit (.string a1), .lit (.string a2)] => (Ta.mk a0 a1 a2)
  | _ => default
@[simp] theorem Ta.eta (x : Ta) : Ta.mk x.fN x.fp x.fm = x := by cases x; rfl
theorem Ta.dec_enc (x : Ta) : Ta.dec x.enc = x := by simp
@[simp] theorem Ta.comp : Ta.dec ∘ Ta.enc = id := funext Ta.dec_enc
@[simp] theorem Ta.comp2 : (Ta.enc ∘ Ta.dec) ∘ Ta.enc = Ta.enc := funext fun x => by simp [Function.comp]
@[simp] theorem Ta.bel (l : List Ta) (n : Nat) : belLL n (l.map Ta.enc) := bel_map (fun x => by simp) l
@[simp] theorem Ta.ren (σ : Nat → Nat) (l : List Ta) : renLL σ (l.map Ta.enc) = l.map Ta.enc := ren_map (fun x => by simp) l
@[simp] theorem Ta.vren (σ : Nat → Nat) (x : Ta) : (vA Ta.enc x).ren σ = vA Ta.enc x := vA_ren_eq (fun x => by simp) x
@[simp] theorem Ta.mrenI (σ : Nat → Nat) (k : IntKind) (m : List (Int × Ta)) : (qau.mapo (qas (kI k) (vA Ta.enc) m)).ren σ = .mapo (qas (kI k) (vA Ta.enc) m) := encM_ren (fun _ => rfl) (Ta.vren σ) m
@[simp] theorem Ta.mbelI (n : Nat) (k : IntKind) (m : List (Int × Ta)) : (qau.mapo (qas (kI k) (vA Ta.enc) m)).bel n ↔ True := encM_bel (fun _ => by simp) (fun x => by simp) m
@[simp] theorem Ta.mdecI (k : IntKind) (m : List (Int × Ta)) : decM dkI (dvA Ta.dec) (qas (kI k) (vA Ta.enc) m) = m := decM_encM (fun _ => rfl) (fun x => by simp) m
@[simp] theorem Ta.getVI (k : IntKind) (x : Int) (m : List (Int × Ta)) : getV (.int k x) (.agg [.lit (.int .i64 0), .lit (.string ⟨⟨[]⟩⟩), .lit (.string ⟨⟨[]⟩⟩)]) (qas (kI k) (vA Ta.enc) m) = .agg (Ta.enc (getM eqI x (Ta.mk 0 ⟨⟨[]⟩⟩ ⟨⟨[]⟩⟩) m)) := getV_I (vE := vA Ta.enc) (d := (Ta.mk 0 ⟨⟨[]⟩⟩ ⟨⟨[]⟩⟩)) (by simp [vA]) x m
@[simp] theorem Ta.nth {rows : List (List AV)} (n : Int) (h : rows = (rows.map Ta.dec).map Ta.enc) : nthL rows n.toNat [.lit (.int .i64 0), .lit (.string ⟨⟨[]⟩⟩), .lit (.string ⟨⟨[]⟩⟩)] = (nthI (rows.map Ta.dec) n).enc := nth_rows (f := Ta.enc) rfl h n
structure Tp where
 fe : List (Int × Ta)
 fj : Int
instance : Inhabited Tp := ⟨Tp.mk [] 0⟩
@[simp] def Tp.enc (x : Tp) (i0 : Nat) : List AV := [.mp i0, .lit (.int .i64 x.fj)]
@[simp] def Tp.dec : List AV → (List (Int × Ta)) → Tp
  | [.mp _, .lit (.int .i64 a1)], a0 => (Tp.mk a0 a1)
  | _, _ => default
@[simp] theorem Tp.eta (x : Tp) : Tp.mk x.fe x.fj = x := by cases x; rfl
structure Tq where
 fL : List Ta
 fj : Int
instance : Inhabited Tq := ⟨Tq.mk [] 0⟩
@[simp] def Tq.enc (x : Tq) : List AV := [.sl (x.fL.map Ta.enc) .no, .lit (.int .i64 x.fj)]
@[simp] def Tq.dec : List AV → Tq
  | [.sl a0 _, .lit (.int .i64 a1)] => (Tq.mk (a0.map Ta.dec) a1)
  | _ => default
@[simp] theorem Tq.eta (x : Tq) : Tq.mk x.fL x.fj = x := by cases x; rfl
theorem Tq.dec_enc (x : Tq) : Tq.dec x.enc = x := by simp
@[simp] theorem Tq.comp : Tq.dec ∘ Tq.enc = id := funext Tq.dec_enc
@[simp] theorem Tq.comp2 : (Tq.enc ∘ Tq.dec) ∘ Tq.enc = Tq.enc := funext fun x => by simp [Function.comp]
structure Tc where
 fc : Int
 ff : Int
instance : Inhabited Tc := ⟨Tc.mk 0 0⟩
@[simp] def Tc.enc (x : Tc) : List AV := [.lit (.int .i64 x.fc), .lit (.int .i64 x.ff)]
@[simp] def Tc.dec : List AV → Tc
  | [.lit (.int .i64 a0), .lit (.int .i64 a1)] => (Tc.mk a0 a1)
  | _ => default
@[simp] theorem Tc.eta (x : Tc) : Tc.mk x.fc x.ff = x := by cases x; rfl
theorem Tc.dec_enc (x : Tc) : Tc.dec x.enc = x := by simp
@[simp] theorem Tc.comp : Tc.dec ∘ Tc.enc = id := funext Tc.dec_enc
@[simp] theorem Tc.comp2 : (Tc.enc ∘ Tc.dec) ∘ Tc.enc = Tc.enc := funext fun x => by simp [Function.comp]
def Tc.eq (x y : Tc) : Bool := eqI x.fc y.fc && eqI x.ff y.ff
theorem Tc.eq_iff (x y : Tc) : Tc.eq x y = true ↔ x = y := by
 constructor
 ·intro h;obtain ⟨a0, a1⟩ := x;obtain ⟨b0, b1⟩ := y;simp only [Tc.eq, Bool.and_eq_true, eqI_iff] at h;obtain ⟨rfl, rfl⟩ := h;rfl
 ·rintro rfl;simp [Tc.eq, eqI_iff]
@[simp] theorem Tc.sameL_enc (x y : Tc) : sameL x.enc y.enc = some (Tc.eq x y) := by simp [sameL, sameV, Tc.eq]
@[simp] theorem Tc.kval_enc (x : Tc) : kval (vA Tc.enc x) = some (keyVal x.enc) := by simp [kval, vA, isLit]
theorem Tc.kinj (x y : Tc) (h : keyVal x.enc = keyVal y.enc) : x = y := by
 obtain ⟨a0, a1⟩ := x;obtain ⟨b0, b1⟩ := y;simpa [keyVal, litV, and_assoc] using h
structure Tb where
 fu : Int
 fOf : Tc
instance : Inhabited Tb := ⟨Tb.mk 0 (Tc.mk 0 0)⟩
@[simp] def Tb.enc (x : Tb) : List AV := [.lit (.int .i64 x.fu), .lit (.int .i64 x.fOf.fc), .lit (.int .i64 x.fOf.ff)]
@[simp] def Tb.dec : List AV → Tb
  | [.lit (.int .i64 a0), .lit (.int .i64 a1), .lit (.int .i64 a2)] => (Tb.mk a0 (Tc.mk a1 a2))
  | _ => default
@[simp] theorem Tb.eta (x : Tb) : Tb.mk x.fu x.fOf = x := by cases x; rfl
theorem Tb.dec_enc (x : Tb) : Tb.dec x.enc = x := by simp
@[simp] theorem Tb.comp : Tb.dec ∘ Tb.enc = id := funext Tb.dec_enc
@[simp] theorem Tb.comp2 : (Tb.enc ∘ Tb.dec) ∘ Tb.enc = Tb.enc := funext fun x => by simp [Function.comp]
@[simp] theorem Tb.bel (l : List Tb) (n : Nat) : belLL n (l.map Tb.enc) := bel_map (fun x => by simp) l
@[simp] theorem Tb.ren (σ : Nat → Nat) (l : List Tb) : renLL σ (l.map Tb.enc) = l.map Tb.enc := ren_map (fun x => by simp) l
@[simp] theorem Tb.nth {rows : List (List AV)} (n : Int) (h : rows = (rows.map Tb.dec).map Tb.enc) : nthL rows n.toNat [.lit (.int .i64 0), .lit (.int .i64 0), .lit (.int .i64 0)] = (nthI (rows.map Tb.dec) n).enc := nth_rows (f := Tb.enc) rfl h n
def Tb.eq (x y : Tb) : Bool := eqI x.fu y.fu && eqI x.fOf.fc y.fOf.fc && eqI x.fOf.ff y.fOf.ff
theorem Tb.eq_iff (x y : Tb) : Tb.eq x y = true ↔ x = y := by
 constructor
 ·intro h;obtain ⟨a0, ⟨a1, a2⟩⟩ := x;obtain ⟨b0, ⟨b1, b2⟩⟩ := y;simp only [Tb.eq, Bool.and_eq_true, eqI_iff] at h;obtain ⟨⟨rfl, rfl⟩, rfl⟩ := h;rfl
 ·rintro rfl;simp [Tb.eq, eqI_iff]
@[simp] theorem Tb.sameL_enc (x y : Tb) : sameL x.enc y.enc = some (Tb.eq x y) := by simp [sameL, sameV, Tb.eq, Bool.and_assoc]
@[simp] theorem Tb.kval_enc (x : Tb) : kval (vA Tb.enc x) = some (keyVal x.enc) := by simp [kval, vA, isLit]
theorem Tb.kinj (x y : Tb) (h : keyVal x.enc = keyVal y.enc) : x = y := by
 obtain ⟨a0, ⟨a1, a2⟩⟩ := x;obtain ⟨b0, ⟨b1, b2⟩⟩ := y;simpa [keyVal, litV, and_assoc] using h
structure Tf where
 fo : Int
 fw : Bool
instance : Inhabited Tf := ⟨Tf.mk 0 false⟩
@[simp] def Tf.enc (x : Tf) : List AV := [.lit (.int .i64 x.fo), .lit (.bool x.fw)]
@[simp] def Tf.dec : List AV → Tf
  | [.lit (.int .i64 a0), .lit (.bool a1)] => (Tf.mk a0 a1)
  | _ => default
@[simp] theorem Tf.eta (x : Tf) : Tf.mk x.fo x.fw = x := by cases x; rfl
theorem Tf.dec_enc (x : Tf) : Tf.dec x.enc = x := by simp
@[simp] theorem Tf.comp : Tf.dec ∘ Tf.enc = id := funext Tf.dec_enc
@[simp] theorem Tf.comp2 : (Tf.enc ∘ Tf.dec) ∘ Tf.enc = Tf.enc := funext fun x => by simp [Function.comp]
@[simp] theorem Tf.vren (σ : Nat → Nat) (x : Tf) : (vA Tf.enc x).ren σ = vA Tf.enc x := vA_ren_eq (fun x => by simp) x
@[simp] theorem Tf.mrenI (σ : Nat → Nat) (k : IntKind) (m : List (Int × Tf)) : (qau.mapo (qas (kI k) (vA Tf.enc) m)).ren σ = .mapo (qas (kI k) (vA Tf.enc) m) := encM_ren (fun _ => rfl) (Tf.vren σ) m
@[simp] theorem Tf.mbelI (n : Nat) (k : IntKind) (m : List (Int × Tf)) : (qau.mapo (qas (kI k) (vA Tf.enc) m)).bel n ↔ True := encM_bel (fun _ => by simp) (fun x => by simp) m
@[simp] theorem Tf.mdecI (k : IntKind) (m : List (Int × Tf)) : decM dkI (dvA Tf.dec) (qas (kI k) (vA Tf.enc) m) = m := decM_encM (fun _ => rfl) (fun x => by simp) m
@[simp] theorem Tf.getVI (k : IntKind) (x : Int) (m : List (Int × Tf)) : getV (.int k x) (.agg [.lit (.int .i64 0), .lit (.bool false)]) (qas (kI k) (vA Tf.enc) m) = .agg (Tf.enc (getM eqI x (Tf.mk 0 false) m)) := getV_I (vE := vA Tf.enc) (d := (Tf.mk 0 false)) (by simp [vA]) x m
structure Te where
 fq : Bool
 fB : Bool
 fa : List Int
instance : Inhabited Te := ⟨Te.mk false false []⟩
@[simp] def Te.enc (x : Te) : List AV := [.lit (.bool x.fq), .lit (.bool x.fB), .sl (x.fa.map (eNum .u32)) .no]
@[simp] def Te.dec : List AV → Te
  | [.lit (.bool a0), .lit (.bool a1), .sl a2 _] => (Te.mk a0 a1 (a2.map decI))
  | _ => default
@[simp] theorem Te.eta (x : Te) : Te.mk x.fq x.fB x.fa = x := by cases x; rfl
theorem Te.dec_enc (x : Te) : Te.dec x.enc = x := by simp
@[simp] theorem Te.comp : Te.dec ∘ Te.enc = id := funext Te.dec_enc
@[simp] theorem Te.comp2 : (Te.enc ∘ Te.dec) ∘ Te.enc = Te.enc := funext fun x => by simp [Function.comp]
@[simp] theorem Te.vren (σ : Nat → Nat) (x : Te) : (vA Te.enc x).ren σ = vA Te.enc x := vA_ren_eq (fun x => by simp) x
@[simp] theorem Te.mrenI (σ : Nat → Nat) (k : IntKind) (m : List (Int × Te)) : (qau.mapo (qas (kI k) (vA Te.enc) m)).ren σ = .mapo (qas (kI k) (vA Te.enc) m) := encM_ren (fun _ => rfl) (Te.vren σ) m
@[simp] theorem Te.mbelI (n : Nat) (k : IntKind) (m : List (Int × Te)) : (qau.mapo (qas (kI k) (vA Te.enc) m)).bel n ↔ True := encM_bel (fun _ => by simp) (fun x => by simp) m
@[simp] theorem Te.mdecI (k : IntKind) (m : List (Int × Te)) : decM dkI (dvA Te.dec) (qas (kI k) (vA Te.enc) m) = m := decM_encM (fun _ => rfl) (fun x => by simp) m
@[simp] theorem Te.getVI (k : IntKind) (x : Int) (m : List (Int × Te)) : getV (.int k x) (.agg [.lit (.bool false), .lit (.bool false), .sl [] .no]) (qas (kI k) (vA Te.enc) m) = .agg (Te.enc (getM eqI x (Te.mk false false []) m)) := getV_I (vE := vA Te.enc) (d := (Te.mk false false [])) (by simp [vA]) x m
structure Tg where
 fOf : Tc
 fo : Int
instance : Inhabited Tg := ⟨Tg.mk (Tc.mk 0 0) 0⟩
@[simp] def Tg.enc (x : Tg) : List AV := [.lit (.int .i64 x.fOf.fc), .lit (.int .i64 x.fOf.ff), .lit (.int .i64 x.fo)]
@[simp] def Tg.dec : List AV → Tg
  | [.lit (.int .i64 a0), .lit (.int .i64 a1), .lit (.int .i64 a2)] => (Tg.mk (Tc.mk a0 a1) a2)
  | _ => default
@[simp] theorem Tg.eta (x : Tg) : Tg.mk x.fOf x.fo = x := by cases x; rfl
theorem Tg.dec_enc (x : Tg) : Tg.dec x.enc = x := by simp
@[simp] theorem Tg.comp : Tg.dec ∘ Tg.enc = id := funext Tg.dec_enc
@[simp] theorem Tg.comp2 : (Tg.enc ∘ Tg.dec) ∘ Tg.enc = Tg.enc := funext fun x => by simp [Function.comp]
@[simp] theorem Tg.vren (σ : Nat → Nat) (x : Tg) : (vA Tg.enc x).ren σ = vA Tg.enc x := vA_ren_eq (fun x => by simp) x
@[simp] theorem Tg.mrenI (σ : Nat → Nat) (k : IntKind) (m : List (Int × Tg)) : (qau.mapo (qas (kI k) (vA Tg.enc) m)).ren σ = .mapo (qas (kI k) (vA Tg.enc) m) := encM_ren (fun _ => rfl) (Tg.vren σ) m
@[simp] theorem Tg.mbelI (n : Nat) (k : IntKind) (m : List (Int × Tg)) : (qau.mapo (qas (kI k) (vA Tg.enc) m)).bel n ↔ True := encM_bel (fun _ => by simp) (fun x => by simp) m
@[simp] theorem Tg.mdecI (k : IntKind) (m : List (Int × Tg)) : decM dkI (dvA Tg.dec) (qas (kI k) (vA Tg.enc) m) = m := decM_encM (fun _ => rfl) (fun x => by simp) m
@[simp] theorem Tg.getVI (k : IntKind) (x : Int) (m : List (Int × Tg)) : getV (.int k x) (.agg [.lit (.int .i64 0), .lit (.int .i64 0), .lit (.int .i64 0)]) (qas (kI k) (vA Tg.enc) m) = .agg (Tg.enc (getM eqI x (Tg.mk (Tc.mk 0 0) 0) m)) := getV_I (vE := vA Tg.enc) (d := (Tg.mk (Tc.mk 0 0) 0)) (by simp [vA]) x m
structure Th where
 fd : Tp
 fb : List (Tc × Te)
 fg : List (Tb × Tf)
 fh : List (Int × Tg)
instance : Inhabited Th := ⟨Th.mk (Tp.mk [] 0) [] [] []⟩
@[simp] def Th.enc (_x : Th) (i0 : Nat) (i1 : Nat) (i2 : Nat) (i3 : Nat) : List AV := [.ptr i0 0, .mp i1, .mp i2, .mp i3]
@[simp] def Th.dec : List AV → Tp → (List (Tc × Te)) → (List (Tb × Tf)) → (List (Int × Tg)) → Th
  | [.ptr _ _, .mp _, .mp _, .mp _], a0, a1, a2, a3 => (Th.mk a0 a1 a2 a3)
  | _, _, _, _, _ => default
@[simp] theorem Th.eta (x : Th) : Th.mk x.fd x.fb x.fg x.fh = x := by cases x; rfl
structure Tu where
 fc : Int
 fN : Int
 fq : Bool
 fB : Bool
 fa : List Int
instance : Inhabited Tu := ⟨Tu.mk 0 0 false false []⟩
@[simp] def Tu.enc (x : Tu) : List AV := [.lit (.int .i64 x.fc), .lit (.int .i64 x.fN), .lit (.bool x.fq), .lit (.bool x.fB), .sl (x.fa.map (eNum .u32)) .no]
@[simp] def Tu.dec : List AV → Tu
  | [.lit (.int .i64 a0), .lit (.int .i64 a1), .lit (.bool a2), .lit (.bool a3), .sl a4 _] => (Tu.mk a0 a1 a2 a3 (a4.map decI))
  | _ => default
@[simp] theorem Tu.eta (x : Tu) : Tu.mk x.fc x.fN x.fq x.fB x.fa = x := by cases x; rfl
theorem Tu.dec_enc (x : Tu) : Tu.dec x.enc = x := by simp
@[simp] theorem Tu.comp : Tu.dec ∘ Tu.enc = id := funext Tu.dec_enc
@[simp] theorem Tu.comp2 : (Tu.enc ∘ Tu.dec) ∘ Tu.enc = Tu.enc := funext fun x => by simp [Function.comp]
structure Ts where
 fu : Int
 fc : Int
 fN : Int
 fo : Int
 fw : Bool
instance : Inhabited Ts := ⟨Ts.mk 0 0 0 0 false⟩
@[simp] def Ts.enc (x : Ts) : List AV := [.lit (.int .i64 x.fu), .lit (.int .i64 x.fc), .lit (.int .i64 x.fN), .lit (.int .i64 x.fo), .lit (.bool x.fw)]
@[simp] def Ts.dec : List AV → Ts
  | [.lit (.int .i64 a0), .lit (.int .i64 a1), .lit (.int .i64 a2), .lit (.int .i64 a3), .lit (.bool a4)] => (Ts.mk a0 a1 a2 a3 a4)
  | _ => default
@[simp] theorem Ts.eta (x : Ts) : Ts.mk x.fu x.fc x.fN x.fo x.fw = x := by cases x; rfl
theorem Ts.dec_enc (x : Ts) : Ts.dec x.enc = x := by simp
@[simp] theorem Ts.comp : Ts.dec ∘ Ts.enc = id := funext Ts.dec_enc
@[simp] theorem Ts.comp2 : (Ts.enc ∘ Ts.dec) ∘ Ts.enc = Ts.enc := funext fun x => by simp [Function.comp]
structure Tn where
 fT : Tq
 fb : List Tu
 fg : List Ts
instance : Inhabited Tn := ⟨Tn.mk (Tq.mk [] 0) [] []⟩
@[simp] def Tn.enc (x : Tn) : List AV := [.sl (x.fT.fL.map Ta.enc) .no, .lit (.int .i64 x.fT.fj), .sl (x.fb.map Tu.enc) .no, .sl (x.fg.map Ts.enc) .no]
@[simp] def Tn.dec : List AV → Tn
  | [.sl a0 _, .lit (.int .i64 a1), .sl a2 _, .sl a3 _] => (Tn.mk (Tq.mk (a0.map Ta.dec) a1) (a2.map Tu.dec) (a3.map Ts.dec))
  | _ => default
@[simp] theorem Tn.eta (x : Tn) : Tn.mk x.fT x.fb x.fg = x := by cases x; rfl
theorem Tn.dec_enc (x : Tn) : Tn.dec x.enc = x := by simp
@[simp] theorem Tn.comp : Tn.dec ∘ Tn.enc = id := funext Tn.dec_enc
@[simp] theorem Tn.comp2 : (Tn.enc ∘ Tn.dec) ∘ Tn.enc = Tn.enc := funext fun x => by simp [Function.comp]
structure Tj where
 fS : ByteArray
 fE : Int
instance : Inhabited Tj := ⟨Tj.mk ⟨⟨[]⟩⟩ 0⟩
@[simp] def Tj.enc (x : Tj) : List AV := [.lit (.string x.fS), .lit (.int .i64 x.fE)]
@[simp] def Tj.dec : List AV → Tj
  | [.lit (.string a0), .lit (.int .i64 a1)] => (Tj.mk a0 a1)
  | _ => default
@[simp] theorem Tj.eta (x : Tj) : Tj.mk x.fS x.fE = x := by cases x; rfl
theorem Tj.dec_enc (x : Tj) : Tj.dec x.enc = x := by simp
@[simp] theorem Tj.comp : Tj.dec ∘ Tj.enc = id := funext Tj.dec_enc
@[simp] theorem Tj.comp2 : (Tj.enc ∘ Tj.dec) ∘ Tj.enc = Tj.enc := funext fun x => by simp [Function.comp]
structure Tl where
 fG : Bool
 fD : Int
 fW : Int
 fP : Int
 fQ : Int
 fH : List Int
 fX : Bool
 fC : Int
 fK : ByteArray
 fy : ByteArray
 fz : Int
instance : Inhabited Tl := ⟨Tl.mk false 0 0 0 0 [] false 0 ⟨⟨[]⟩⟩ ⟨⟨[]⟩⟩ 0⟩
@[simp] def Tl.enc (x : Tl) : List AV := [.lit (.bool x.fG), .lit (.int .u8 x.fD), .lit (.int .u16 x.fW), .lit (.int .u32 x.fP), .lit (.int .u32 x.fQ), .sl (x.fH.map (eNum .u32)) .no, .lit (.bool x.fX), .lit (.int .u16 x.fC), .lit (.string x.fK), .lit (.string x.fy), .lit (.int .i64 x.fz)]
@[simp] def Tl.dec : List AV → Tl
  | [.lit (.bool a0), .lit (.int .u8 a1), .lit (.int .u16 a2), .lit (.int .u32 a3), .lit (.int .u32 a4), .sl a5 _, .lit (.bool a6), .lit (.int .u16 a7), .lit (.string a8), .lit (.string a9), .lit (.int .i64 a10)] => (Tl.mk a0 a1 a2 a3 a4 (a5.map decI) a6 a7 a8 a9 a10)
  | _ => default
@[simp] theorem Tl.eta (x : Tl) : Tl.mk x.fG x.fD x.fW x.fP x.fQ x.fH x.fX x.fC x.fK x.fy x.fz = x := by cases x; rfl
theorem Tl.dec_enc (x : Tl) : Tl.dec x.enc = x := by simp
@[simp] theorem Tl.comp : Tl.dec ∘ Tl.enc = id := funext Tl.dec_enc
@[simp] theorem Tl.comp2 : (Tl.enc ∘ Tl.dec) ∘ Tl.enc = Tl.enc := funext fun x => by simp [Function.comp]
@[simp] theorem Tl.vren (σ : Nat → Nat) (x : Tl) : (vA Tl.enc x).ren σ = vA Tl.enc x := vA_ren_eq (fun x => by simp) x
@[simp] theorem Tl.mrenI (σ : Nat → Nat) (k : IntKind) (m : List (Int × Tl)) : (qau.mapo (qas (kI k) (vA Tl.enc) m)).ren σ = .mapo (qas (kI k) (vA Tl.enc) m) := encM_ren (fun _ => rfl) (Tl.vren σ) m
@[simp] theorem Tl.mbelI (n : Nat) (k : IntKind) (m : List (Int × Tl)) : (qau.mapo (qas (kI k) (vA Tl.enc) m)).bel n ↔ True := encM_bel (fun _ => by simp) (fun x => by simp) m
@[simp] theorem Tl.mdecI (k : IntKind) (m : List (Int × Tl)) : decM dkI (dvA Tl.dec) (qas (kI k) (vA Tl.enc) m) = m := decM_encM (fun _ => rfl) (fun x => by simp) m
@[simp] theorem Tl.getVI (k : IntKind) (x : Int) (m : List (Int × Tl)) : getV (.int k x) (.agg [.lit (.bool false), .lit (.int .u8 0), .lit (.int .u16 0), .lit (.int .u32 0), .lit (.int .u32 0), .sl [] .no, .lit (.bool false), .lit (.int .u16 0), .lit (.string ⟨⟨[]⟩⟩), .lit (.string ⟨⟨[]⟩⟩), .lit (.int .i64 0)]) (qas (kI k) (vA Tl.enc) m) = .agg (Tl.enc (getM eqI x (Tl.mk false 0 0 0 0 [] false 0 ⟨⟨[]⟩⟩ ⟨⟨[]⟩⟩ 0) m)) := getV_I (vE := vA Tl.enc) (d := (Tl.mk false 0 0 0 0 [] false 0 ⟨⟨[]⟩⟩ ⟨⟨[]⟩⟩ 0)) (by simp [vA]) x m
structure Tt where
 fJ : Bool
 fM : Bool
 fI : Int
 fA : Int
 fU : Bool
 fF : Int
 fo : Int
 fV : Bool
 fR : Int
instance : Inhabited Tt := ⟨Tt.mk false false 0 0 false 0 0 false 0⟩
@[simp] def Tt.enc (x : Tt) : List AV := [.lit (.bool x.fJ), .lit (.bool x.fM), .lit (.int .i64 x.fI), .lit (.int .i64 x.fA), .lit (.bool x.fU), .lit (.int .i64 x.fF), .lit (.int .i64 x.fo), .lit (.bool x.fV), .lit (.int .i64 x.fR)]
@[simp] def Tt.dec : List AV → Tt
  | [.lit (.bool a0), .lit (.bool a1), .lit (.int .i64 a2), .lit (.int .i64 a3), .lit (.bool a4), .lit (.int .i64 a5), .lit (.int .i64 a6), .lit (.bool a7), .lit (.int .i64 a8)] => (Tt.mk a0 a1 a2 a3 a4 a5 a6 a7 a8)
  | _ => default
@[simp] theorem Tt.eta (x : Tt) : Tt.mk x.fJ x.fM x.fI x.fA x.fU x.fF x.fo x.fV x.fR = x := by cases x; rfl
theorem Tt.dec_enc (x : Tt) : Tt.dec x.enc = x := by simp
@[simp] theorem Tt.comp : Tt.dec ∘ Tt.enc = id := funext Tt.dec_enc
@[simp] theorem Tt.comp2 : (Tt.enc ∘ Tt.dec) ∘ Tt.enc = Tt.enc := funext fun x => by simp [Function.comp]
structure Tv where
 fO : Int
 fTo : Int
instance : Inhabited Tv := ⟨Tv.mk 0 0⟩
@[simp] def Tv.enc (x : Tv) : List AV := [.lit (.int .u32 x.fO), .lit (.int .u32 x.fTo)]
@[simp] def Tv.dec : List AV → Tv
  | [.lit (.int .u32 a0), .lit (.int .u32 a1)] => (Tv.mk a0 a1)
  | _ => default
@[simp] theorem Tv.eta (x : Tv) : Tv.mk x.fO x.fTo = x := by cases x; rfl
theorem Tv.dec_enc (x : Tv) : Tv.dec x.enc = x := by simp
@[simp] theorem Tv.comp : Tv.dec ∘ Tv.enc = id := funext Tv.dec_enc
@[simp] theorem Tv.comp2 : (Tv.enc ∘ Tv.dec) ∘ Tv.enc = Tv.enc := funext fun x => by simp [Function.comp]
inductive RtcpPacket where
 | c0 (x : Tv)
instance : Inhabited RtcpPacket := ⟨.c0 default⟩
def RtcpPacket.av : RtcpPacket → AV
 | .c0 x => .iface 98 (.agg [.lit (.int .u32 x.fO), .lit (.int .u32 x.fTo)])
@[simp] theorem RtcpPacket.av0 (x : Tv) : RtcpPacket.av (.c0 x) = .iface 98 (.agg [.lit (.int .u32 x.fO), .lit (.int .u32 x.fTo)]) := rfl
@[simp] def RtcpPacket.enc (x : RtcpPacket) : List AV := [x.av]
def RtcpPacket.dec : List AV → RtcpPacket
 | [.iface t (.agg l)] => if t = 98 then .c0 (Tv.dec l) else default
 | _ => default
@[simp] theorem RtcpPacket.dec0 (l : List AV) : RtcpPacket.dec [.iface 98 (.agg l)] = .c0 (Tv.dec l) := by simp [RtcpPacket.dec]
theorem RtcpPacket.dec_enc (x : RtcpPacket) : RtcpPacket.dec x.enc = x := by cases x <;> simp
@[simp] theorem RtcpPacket.dec_av (x : RtcpPacket) : RtcpPacket.dec [x.av] = x := RtcpPacket.dec_enc x
@[simp] theorem RtcpPacket.comp : RtcpPacket.dec ∘ RtcpPacket.enc = id := funext RtcpPacket.dec_enc
@[simp] theorem RtcpPacket.comp2 : (RtcpPacket.enc ∘ RtcpPacket.dec) ∘ RtcpPacket.enc = RtcpPacket.enc := funext fun x => by simp [Function.comp]
@[simp] theorem RtcpPacket.abel (x : RtcpPacket) (n : Nat) : x.av.bel n := by cases x <;> simp
@[simp] theorem RtcpPacket.aren (σ : Nat → Nat) (x : RtcpPacket) : x.av.ren σ = x.av := by cases x <;> simp
@[simp] theorem RtcpPacket.bel (l : List RtcpPacket) (n : Nat) : belLL n (l.map RtcpPacket.enc) := bel_map (fun x => by simp) l
@[simp] theorem RtcpPacket.ren (σ : Nat → Nat) (l : List RtcpPacket) : renLL σ (l.map RtcpPacket.enc) = l.map RtcpPacket.enc := ren_map (fun x => by simp) l
def RtcpPacket.by {α : Type} (e : RtcpPacket) (f0 : Tv → Option α) : Option α := match e with
 | .c0 x => f0 x
theorem RtcpPacket.by0 {α : Type} {e : RtcpPacket} {f0 : Tv → Option α} {x : Tv} {r : α} (h : e = .c0 x) (hr : RtcpPacket.by e f0 = some r) : f0 x = some r := by subst h; exact hr
@[simp] theorem RtcpPacket.nth {rows : List (List AV)} (n : Int) (q : InB n (qat rows)) (h : rows = (rows.map RtcpPacket.dec).map RtcpPacket.enc) (z : List AV) : nthL rows n.toNat z = (nthI (rows.map RtcpPacket.dec) n).enc := nth_rows_in h q
end Go.Ab
