/- The types of these functions. No condition. -/
import Derived.Test.YtnoeflijefijcaaNx
import Derived.Test.YtnoeflijefijcaaPn
namespace Go.Ab

structure Tq where
 fb : Int
 fj : List (Int × Int)
 fk : List (Int × Int)
 fAt : Int
 ff : Bool
instance : Inhabited Tq := ⟨Tq.mk 0 [] [] 0 false⟩
@[simp] def Tq.enc (x : Tq) (i0 : Nat) (i1 : Nat) : List AV := [.lit (.int .i64 x.fb), .mp i0, .mp i1, .lit (.int .i64 x.fAt), .lit (.bool x.ff)]
@[simp] def Tq.dec : List AV → (List (Int × Int)) → (List (Int × Int)) → Tq
 | [.lit (.int .i64 a0), .mp _, .mp _, .lit (.int .i64 a3), .lit (.bool a4)], a1, a2 => (Tq.mk a0 a1 a2 a3 a4)
 | _, _, _ => default
@[simp] theorem Tq.eta (x : Tq) : Tq.mk x.fb x.fj x.fk x.fAt x.ff = x := by cases x; rfl

structure Tk where
 fId : Int
 fm : Int
instance : Inhabited Tk := ⟨Tk.mk 0 0⟩
@[simp] def Tk.enc (x : Tk) : List AV := [.lit (.int .i64 x.fId), .lit (.int .i64 x.fm)]
@[simp] def Tk.dec : List AV → Tk
 | [.lit (.int .i64 a0), .lit (.int .i64 a1)] => (Tk.mk a0 a1)
 | _ => default
@[simp] theorem Tk.eta (x : Tk) : Tk.mk x.fId x.fm = x := by cases x; rfl
theorem Tk.dec_enc (x : Tk) : Tk.dec x.enc = x := by simp
@[simp] theorem Tk.comp : Tk.dec ∘ Tk.enc = id := funext Tk.dec_enc
@[simp] theorem Tk.comp2 : (Tk.enc ∘ Tk.dec) ∘ Tk.enc = Tk.enc := funext fun x => by simp [Function.comp]
@[simp] theorem Tk.bel (l : List Tk) (n : Nat) : belLL n (l.map Tk.enc) := bel_map (fun x => by simp) l
@[simp] theorem Tk.ren (σ : Nat → Nat) (l : List Tk) : renLL σ (l.map Tk.enc) = l.map Tk.enc := ren_map (fun x => by simp) l
@[simp] theorem Tk.nth {rows : List (List AV)} (n : Int) (h : rows = (rows.map Tk.dec).map Tk.enc) : nthL rows n.toNat [.lit (.int .i64 0), .lit (.int .i64 0)] = (nthI (rows.map Tk.dec) n).enc := nth_rows (f := Tk.enc) rfl h n
@[simp low] theorem Tk.nthk {rows : List (List AV)} (j : Nat) (h : rows = (rows.map Tk.dec).map Tk.enc) : nthL rows j [.lit (.int .i64 0), .lit (.int .i64 0)] = (nthI (rows.map Tk.dec) (j : Int)).enc := nth_rowsk (f := Tk.enc) rfl h j

structure Ta where
 fN : Int
 fm : Int
 fy : Int
 fz : Bool
instance : Inhabited Ta := ⟨Ta.mk 0 0 0 false⟩
@[simp] def Ta.enc (x : Ta) : List AV := [.lit (.int .i64 x.fN), .lit (.int .i64 x.fm), .lit (.int .i64 x.fy), .lit (.bool x.fz)]
@[simp] def Ta.dec : List AV → Ta
 | [.lit (.int .i64 a0), .lit (.int .i64 a1), .lit (.int .i64 a2), .lit (.bool a3)] => (Ta.mk a0 a1 a2 a3)
 | _ => default
@[simp] theorem Ta.eta (x : Ta) : Ta.mk x.fN x.fm x.fy x.fz = x := by cases x; rfl
theorem Ta.dec_enc (x : Ta) : Ta.dec x.enc = x := by simp
@[simp] theorem Ta.comp : Ta.dec ∘ Ta.enc = id := funext Ta.dec_enc
@[simp] theorem Ta.comp2 : (Ta.enc ∘ Ta.dec) ∘ Ta.enc = Ta.enc := funext fun x => by simp [Function.comp]
@[simp] theorem Ta.bel (l : List Ta) (n : Nat) : belLL n (l.map Ta.enc) := bel_map (fun x => by simp) l
@[simp] theorem Ta.ren (σ : Nat → Nat) (l : List Ta) : renLL σ (l.map Ta.enc) = l.map Ta.enc := ren_map (fun x => by simp) l
@[simp] theorem Ta.nth {rows : List (List AV)} (n : Int) (h : rows = (rows.map Ta.dec).map Ta.enc) : nthL rows n.toNat [.lit (.int .i64 0), .lit (.int .i64 0), .lit (.int .i64 0), .lit (.bool false)] = (nthI (rows.map Ta.dec) n).enc := nth_rows (f := Ta.enc) rfl h n
@[simp low] theorem Ta.nthk {rows : List (List AV)} (j : Nat) (h : rows = (rows.map Ta.dec).map Ta.enc) : nthL rows j [.lit (.int .i64 0), .lit (.int .i64 0), .lit (.int .i64 0), .lit (.bool false)] = (nthI (rows.map Ta.dec) (j : Int)).enc := nth_rowsk (f := Ta.enc) rfl h j

structure Tp where
 fh : Int
 fb : Int
 fL : List Ta
 fm : Int
 fv : Bool
instance : Inhabited Tp := ⟨Tp.mk 0 0 [] 0 false⟩
@[simp] def Tp.enc (x : Tp) : List AV := [.lit (.int .i64 x.fh), .lit (.int .i64 x.fb), .sl (x.fL.map Ta.enc) .no, .lit (.int .i64 x.fm), .lit (.bool x.fv)]
@[simp] def Tp.dec : List AV → Tp
 | [.lit (.int .i64 a0), .lit (.int .i64 a1), .sl a2 _, .lit (.int .i64 a3), .lit (.bool a4)] => (Tp.mk a0 a1 (a2.map Ta.dec) a3 a4)
 | _ => default
@[simp] theorem Tp.eta (x : Tp) : Tp.mk x.fh x.fb x.fL x.fm x.fv = x := by cases x; rfl
theorem Tp.dec_enc (x : Tp) : Tp.dec x.enc = x := by simp
@[simp] theorem Tp.comp : Tp.dec ∘ Tp.enc = id := funext Tp.dec_enc
@[simp] theorem Tp.comp2 : (Tp.enc ∘ Tp.dec) ∘ Tp.enc = Tp.enc := funext fun x => by simp [Function.comp]
@[simp low] theorem Tp.nthk {rows : List (List AV)} (j : Nat) (h : rows = (rows.map Tp.dec).map Tp.enc) : nthL rows j [.lit (.int .i64 0), .lit (.int .i64 0), .sl [] .no, .lit (.int .i64 0), .lit (.bool false)] = (nthI (rows.map Tp.dec) (j : Int)).enc := nth_rowsk (f := Tp.enc) rfl h j

structure Tn where
 fh : Int
 fb : Int
 fL : List Ta
 fv : Bool
instance : Inhabited Tn := ⟨Tn.mk 0 0 [] false⟩
@[simp] def Tn.enc (x : Tn) : List AV := [.lit (.int .i64 x.fh), .lit (.int .i64 x.fb), .sl (x.fL.map Ta.enc) .no, .lit (.bool x.fv)]
@[simp] def Tn.dec : List AV → Tn
 | [.lit (.int .i64 a0), .lit (.int .i64 a1), .sl a2 _, .lit (.bool a3)] => (Tn.mk a0 a1 (a2.map Ta.dec) a3)
 | _ => default
@[simp] theorem Tn.eta (x : Tn) : Tn.mk x.fh x.fb x.fL x.fv = x := by cases x; rfl
theorem Tn.dec_enc (x : Tn) : Tn.dec x.enc = x := by simp
@[simp] theorem Tn.comp : Tn.dec ∘ Tn.enc = id := funext Tn.dec_enc
@[simp] theorem Tn.comp2 : (Tn.enc ∘ Tn.dec) ∘ Tn.enc = Tn.enc := funext fun x => by simp [Function.comp]
@[simp low] theorem Tn.nthk {rows : List (List AV)} (j : Nat) (h : rows = (rows.map Tn.dec).map Tn.enc) : nthL rows j [.lit (.int .i64 0), .lit (.int .i64 0), .sl [] .no, .lit (.bool false)] = (nthI (rows.map Tn.dec) (j : Int)).enc := nth_rowsk (f := Tn.enc) rfl h j

structure Te where
 fId : Int
 fj : Int
 fk : Int
instance : Inhabited Te := ⟨Te.mk 0 0 0⟩
@[simp] def Te.enc (x : Te) : List AV := [.lit (.int .i64 x.fId), .lit (.int .i64 x.fj), .lit (.int .i64 x.fk)]
@[simp] def Te.dec : List AV → Te
 | [.lit (.int .i64 a0), .lit (.int .i64 a1), .lit (.int .i64 a2)] => (Te.mk a0 a1 a2)
 | _ => default
@[simp] theorem Te.eta (x : Te) : Te.mk x.fId x.fj x.fk = x := by cases x; rfl
theorem Te.dec_enc (x : Te) : Te.dec x.enc = x := by simp
@[simp] theorem Te.comp : Te.dec ∘ Te.enc = id := funext Te.dec_enc
@[simp] theorem Te.comp2 : (Te.enc ∘ Te.dec) ∘ Te.enc = Te.enc := funext fun x => by simp [Function.comp]
@[simp] theorem Te.bel (l : List Te) (n : Nat) : belLL n (l.map Te.enc) := bel_map (fun x => by simp) l
@[simp] theorem Te.ren (σ : Nat → Nat) (l : List Te) : renLL σ (l.map Te.enc) = l.map Te.enc := ren_map (fun x => by simp) l
@[simp] theorem Te.nth {rows : List (List AV)} (n : Int) (h : rows = (rows.map Te.dec).map Te.enc) : nthL rows n.toNat [.lit (.int .i64 0), .lit (.int .i64 0), .lit (.int .i64 0)] = (nthI (rows.map Te.dec) n).enc := nth_rows (f := Te.enc) rfl h n
@[simp low] theorem Te.nthk {rows : List (List AV)} (j : Nat) (h : rows = (rows.map Te.dec).map Te.enc) : nthL rows j [.lit (.int .i64 0), .lit (.int .i64 0), .lit (.int .i64 0)] = (nthI (rows.map Te.dec) (j : Int)).enc := nth_rowsk (f := Te.enc) rfl h j
@[simp] theorem Te.arrset (l : List Te) (n : Int) (a0 : Int) (a1 : Int) (a2 : Int) : setAt (l.map Te.enc) n.toNat [.lit (.int .i64 a0), .lit (.int .i64 a1), .lit (.int .i64 a2)] = (setI l n (Te.mk a0 a1 a2)).map Te.enc := setAt_eq rfl

structure Tf where
 fb : Int
 fL : List Te
 fAt : Int
 ff : Bool
instance : Inhabited Tf := ⟨Tf.mk 0 [] 0 false⟩
@[simp] def Tf.enc (x : Tf) : List AV := [.lit (.int .i64 x.fb), .sl (x.fL.map Te.enc) .no, .lit (.int .i64 x.fAt), .lit (.bool x.ff)]
@[simp] def Tf.dec : List AV → Tf
 | [.lit (.int .i64 a0), .sl a1 _, .lit (.int .i64 a2), .lit (.bool a3)] => (Tf.mk a0 (a1.map Te.dec) a2 a3)
 | _ => default
@[simp] theorem Tf.eta (x : Tf) : Tf.mk x.fb x.fL x.fAt x.ff = x := by cases x; rfl
theorem Tf.dec_enc (x : Tf) : Tf.dec x.enc = x := by simp
@[simp] theorem Tf.comp : Tf.dec ∘ Tf.enc = id := funext Tf.dec_enc
@[simp] theorem Tf.comp2 : (Tf.enc ∘ Tf.dec) ∘ Tf.enc = Tf.enc := funext fun x => by simp [Function.comp]
@[simp low] theorem Tf.nthk {rows : List (List AV)} (j : Nat) (h : rows = (rows.map Tf.dec).map Tf.enc) : nthL rows j [.lit (.int .i64 0), .sl [] .no, .lit (.int .i64 0), .lit (.bool false)] = (nthI (rows.map Tf.dec) (j : Int)).enc := nth_rowsk (f := Tf.enc) rfl h j

structure Tj where
 fId : Int
 fq : Bool
 fQ : Tn
instance : Inhabited Tj := ⟨Tj.mk 0 false (Tn.mk 0 0 [] false)⟩
@[simp] def Tj.enc (x : Tj) : List AV := [.lit (.int .i64 x.fId), .lit (.bool x.fq), .lit (.int .i64 x.fQ.fh), .lit (.int .i64 x.fQ.fb), .sl (x.fQ.fL.map Ta.enc) .no, .lit (.bool x.fQ.fv)]
@[simp] def Tj.dec : List AV → Tj
 | [.lit (.int .i64 a0), .lit (.bool a1), .lit (.int .i64 a2), .lit (.int .i64 a3), .sl a4 _, .lit (.bool a5)] => (Tj.mk a0 a1 (Tn.mk a2 a3 (a4.map Ta.dec) a5))
 | _ => default
@[simp] theorem Tj.eta (x : Tj) : Tj.mk x.fId x.fq x.fQ = x := by cases x; rfl
theorem Tj.dec_enc (x : Tj) : Tj.dec x.enc = x := by simp
@[simp] theorem Tj.comp : Tj.dec ∘ Tj.enc = id := funext Tj.dec_enc
@[simp] theorem Tj.comp2 : (Tj.enc ∘ Tj.dec) ∘ Tj.enc = Tj.enc := funext fun x => by simp [Function.comp]
@[simp] theorem Tj.bel (l : List Tj) (n : Nat) : belLL n (l.map Tj.enc) := bel_map (fun x => by simp) l
@[simp] theorem Tj.ren (σ : Nat → Nat) (l : List Tj) : renLL σ (l.map Tj.enc) = l.map Tj.enc := ren_map (fun x => by simp) l
@[simp] theorem Tj.nth {rows : List (List AV)} (n : Int) (h : rows = (rows.map Tj.dec).map Tj.enc) : nthL rows n.toNat [.lit (.int .i64 0), .lit (.bool false), .lit (.int .i64 0), .lit (.int .i64 0), .sl [] .no, .lit (.bool false)] = (nthI (rows.map Tj.dec) n).enc := nth_rows (f := Tj.enc) rfl h n
@[simp low] theorem Tj.nthk {rows : List (List AV)} (j : Nat) (h : rows = (rows.map Tj.dec).map Tj.enc) : nthL rows j [.lit (.int .i64 0), .lit (.bool false), .lit (.int .i64 0), .lit (.int .i64 0), .sl [] .no, .lit (.bool false)] = (nthI (rows.map Tj.dec) (j : Int)).enc := nth_rowsk (f := Tj.enc) rfl h j
@[simp] theorem Tj.arrset (l : List Tj) (n : Int) (a0 : Int) (a1 : Bool) (a2 : Int) (a3 : Int) (a4 : List Ta) (a5 : Bool) : setAt (l.map Tj.enc) n.toNat [.lit (.int .i64 a0), .lit (.bool a1), .lit (.int .i64 a2), .lit (.int .i64 a3), .sl (a4.map Ta.enc) .no, .lit (.bool a5)] = (setI l n (Tj.mk a0 a1 (Tn.mk a2 a3 a4 a5))).map Tj.enc := setAt_eq rfl

structure Tb where
 fh : Int
 fo : Int
 fu : Int
 fb : Int
 fp : Int
 fL : List Tj
 fS : Tf
 fc : Int
 fd : Int
instance : Inhabited Tb := ⟨Tb.mk 0 0 0 0 0 [] (Tf.mk 0 [] 0 false) 0 0⟩
@[simp] def Tb.enc (x : Tb) : List AV := [.lit (.int .i64 x.fh), .lit (.int .i64 x.fo), .lit (.int .i64 x.fu), .lit (.int .i64 x.fb), .lit (.int .i64 x.fp), .sl (x.fL.map Tj.enc) .no, .lit (.int .i64 x.fS.fb), .sl (x.fS.fL.map Te.enc) .no, .lit (.int .i64 x.fS.fAt), .lit (.bool x.fS.ff), .lit (.int .i64 x.fc), .lit (.int .i64 x.fd)]
@[simp] def Tb.dec : List AV → Tb
 | [.lit (.int .i64 a0), .lit (.int .i64 a1), .lit (.int .i64 a2), .lit (.int .i64 a3), .lit (.int .i64 a4), .sl a5 _, .lit (.int .i64 a6), .sl a7 _, .lit (.int .i64 a8), .lit (.bool a9), .lit (.int .i64 a10), .lit (.int .i64 a11)] => (Tb.mk a0 a1 a2 a3 a4 (a5.map Tj.dec) (Tf.mk a6 (a7.map Te.dec) a8 a9) a10 a11)
 | _ => default
@[simp] theorem Tb.eta (x : Tb) : Tb.mk x.fh x.fo x.fu x.fb x.fp x.fL x.fS x.fc x.fd = x := by cases x; rfl
theorem Tb.dec_enc (x : Tb) : Tb.dec x.enc = x := by simp
@[simp] theorem Tb.comp : Tb.dec ∘ Tb.enc = id := funext Tb.dec_enc
@[simp] theorem Tb.comp2 : (Tb.enc ∘ Tb.dec) ∘ Tb.enc = Tb.enc := funext fun x => by simp [Function.comp]
@[simp low] theorem Tb.nthk {rows : List (List AV)} (j : Nat) (h : rows = (rows.map Tb.dec).map Tb.enc) : nthL rows j [.lit (.int .i64 0), .lit (.int .i64 0), .lit (.int .i64 0), .lit (.int .i64 0), .lit (.int .i64 0), .sl [] .no, .lit (.int .i64 0), .sl [] .no, .lit (.int .i64 0), .lit (.bool false), .lit (.int .i64 0), .lit (.int .i64 0)] = (nthI (rows.map Tb.dec) (j : Int)).enc := nth_rowsk (f := Tb.enc) rfl h j

structure Tc where
 fId : Int
 fC : Ta
instance : Inhabited Tc := ⟨Tc.mk 0 (Ta.mk 0 0 0 false)⟩
@[simp] def Tc.enc (x : Tc) : List AV := [.lit (.int .i64 x.fId), .lit (.int .i64 x.fC.fN), .lit (.int .i64 x.fC.fm), .lit (.int .i64 x.fC.fy), .lit (.bool x.fC.fz)]
@[simp] def Tc.dec : List AV → Tc
 | [.lit (.int .i64 a0), .lit (.int .i64 a1), .lit (.int .i64 a2), .lit (.int .i64 a3), .lit (.bool a4)] => (Tc.mk a0 (Ta.mk a1 a2 a3 a4))
 | _ => default
@[simp] theorem Tc.eta (x : Tc) : Tc.mk x.fId x.fC = x := by cases x; rfl
theorem Tc.dec_enc (x : Tc) : Tc.dec x.enc = x := by simp
@[simp] theorem Tc.comp : Tc.dec ∘ Tc.enc = id := funext Tc.dec_enc
@[simp] theorem Tc.comp2 : (Tc.enc ∘ Tc.dec) ∘ Tc.enc = Tc.enc := funext fun x => by simp [Function.comp]
@[simp] theorem Tc.bel (l : List Tc) (n : Nat) : belLL n (l.map Tc.enc) := bel_map (fun x => by simp) l
@[simp] theorem Tc.ren (σ : Nat → Nat) (l : List Tc) : renLL σ (l.map Tc.enc) = l.map Tc.enc := ren_map (fun x => by simp) l
@[simp] theorem Tc.nth {rows : List (List AV)} (n : Int) (h : rows = (rows.map Tc.dec).map Tc.enc) : nthL rows n.toNat [.lit (.int .i64 0), .lit (.int .i64 0), .lit (.int .i64 0), .lit (.int .i64 0), .lit (.bool false)] = (nthI (rows.map Tc.dec) n).enc := nth_rows (f := Tc.enc) rfl h n
@[simp low] theorem Tc.nthk {rows : List (List AV)} (j : Nat) (h : rows = (rows.map Tc.dec).map Tc.enc) : nthL rows j [.lit (.int .i64 0), .lit (.int .i64 0), .lit (.int .i64 0), .lit (.int .i64 0), .lit (.bool false)] = (nthI (rows.map Tc.dec) (j : Int)).enc := nth_rowsk (f := Tc.enc) rfl h j

structure Tl where
 fh : Int
 fo : Int
 fu : Int
 fb : Int
 fp : Int
instance : Inhabited Tl := ⟨Tl.mk 0 0 0 0 0⟩
@[simp] def Tl.enc (x : Tl) : List AV := [.lit (.int .i64 x.fh), .lit (.int .i64 x.fo), .lit (.int .i64 x.fu), .lit (.int .i64 x.fb), .lit (.int .i64 x.fp)]
@[simp] def Tl.dec : List AV → Tl
 | [.lit (.int .i64 a0), .lit (.int .i64 a1), .lit (.int .i64 a2), .lit (.int .i64 a3), .lit (.int .i64 a4)] => (Tl.mk a0 a1 a2 a3 a4)
 | _ => default
@[simp] theorem Tl.eta (x : Tl) : Tl.mk x.fh x.fo x.fu x.fb x.fp = x := by cases x; rfl
theorem Tl.dec_enc (x : Tl) : Tl.dec x.enc = x := by simp
@[simp] theorem Tl.comp : Tl.dec ∘ Tl.enc = id := funext Tl.dec_enc
@[simp] theorem Tl.comp2 : (Tl.enc ∘ Tl.dec) ∘ Tl.enc = Tl.enc := funext fun x => by simp [Function.comp]
@[simp low] theorem Tl.nthk {rows : List (List AV)} (j : Nat) (h : rows = (rows.map Tl.dec).map Tl.enc) : nthL rows j [.lit (.int .i64 0), .lit (.int .i64 0), .lit (.int .i64 0), .lit (.int .i64 0), .lit (.int .i64 0)] = (nthI (rows.map Tl.dec) (j : Int)).enc := nth_rowsk (f := Tl.enc) rfl h j

structure Td where
 fA : Tp
 fq : Bool
instance : Inhabited Td := ⟨Td.mk (Tp.mk 0 0 [] 0 false) false⟩
@[simp] def Td.dec : List AV → Tp → Td
 | [.ptr _ _, .lit (.bool a1)], a0 => (Td.mk a0 a1)
 | _, _ => default
@[simp] theorem Td.eta (x : Td) : Td.mk x.fA x.fq = x := by cases x; rfl
@[simp] def Td.mem (x : Td) : List AObj := [.blk [.lit (.int .i64 x.fA.fh), .lit (.int .i64 x.fA.fb), .sl (x.fA.fL.map Ta.enc) .no, .lit (.int .i64 x.fA.fm), .lit (.bool x.fA.fv)]]
@[simp] def Td.val (x : Td) : AV := (.agg [.ptr 0 0, .lit (.bool x.fq)])
def Td.fl (x : Td) : AV := .agg [(vA Tp.enc) x.fA, kB x.fq]
def Td.dfl (v : AV) : Td := (Td.mk ((dvA Tp.dec) (nthF v 0)) (dkB (nthF v 1)))
@[simp] theorem Td.dfl_fl (x : Td) : Td.dfl (Td.fl x) = x := by simp [Td.dfl, Td.fl, nthF]
@[simp] def Td.own (kk : IntKind) (rows : List (Int × Td)) (hole : Option Value) : Own := ownP (intKey kk) (Value.int kk) Td.fl Td.mem Td.val rows hole
@[simp] theorem Td.mdec (kk : IntKind) (m : List (Int × Td)) : decM dkI Td.dfl (encM (kI kk) Td.fl m) = m := decM_encM (fun _ => rfl) Td.dfl_fl m

structure Tg where
 fe : Tl
 fg : List (Int × Td)
 fa : Tq
 fc : Int
 fd : Int
instance : Inhabited Tg := ⟨Tg.mk (Tl.mk 0 0 0 0 0) [] (Tq.mk 0 [] [] 0 false) 0 0⟩
@[simp] def Tg.enc (x : Tg) (i0 : Nat) (i1 : Nat) : List AV := [.lit (.int .i64 x.fe.fh), .lit (.int .i64 x.fe.fo), .lit (.int .i64 x.fe.fu), .lit (.int .i64 x.fe.fb), .lit (.int .i64 x.fe.fp), .mp i0, .ptr i1 0, .lit (.int .i64 x.fc), .lit (.int .i64 x.fd)]
@[simp] def Tg.dec : List AV → (List (Int × Td)) → Tq → Tg
 | [.lit (.int .i64 a0), .lit (.int .i64 a1), .lit (.int .i64 a2), .lit (.int .i64 a3), .lit (.int .i64 a4), .mp _, .ptr _ _, .lit (.int .i64 a7), .lit (.int .i64 a8)], a5, a6 => (Tg.mk (Tl.mk a0 a1 a2 a3 a4) a5 a6 a7 a8)
 | _, _, _ => default
@[simp] theorem Tg.eta (x : Tg) : Tg.mk x.fe x.fg x.fa x.fc x.fd = x := by cases x; rfl

structure Ts where
 fO : Tg
 fX : Tb
 fB : Int
 fN : Int
instance : Inhabited Ts := ⟨Ts.mk (Tg.mk (Tl.mk 0 0 0 0 0) [] (Tq.mk 0 [] [] 0 false) 0 0) (Tb.mk 0 0 0 0 0 [] (Tf.mk 0 [] 0 false) 0 0) 0 0⟩
@[simp] def Ts.enc (x : Ts) (i0 : Nat) : List AV := [.ptr i0 0, .lit (.int .i64 x.fX.fh), .lit (.int .i64 x.fX.fo), .lit (.int .i64 x.fX.fu), .lit (.int .i64 x.fX.fb), .lit (.int .i64 x.fX.fp), .sl (x.fX.fL.map Tj.enc) .no, .lit (.int .i64 x.fX.fS.fb), .sl (x.fX.fS.fL.map Te.enc) .no, .lit (.int .i64 x.fX.fS.fAt), .lit (.bool x.fX.fS.ff), .lit (.int .i64 x.fX.fc), .lit (.int .i64 x.fX.fd), .lit (.int .i64 x.fB), .lit (.int .i64 x.fN)]
@[simp] def Ts.dec : List AV → Tg → Ts
 | [.ptr _ _, .lit (.int .i64 a1), .lit (.int .i64 a2), .lit (.int .i64 a3), .lit (.int .i64 a4), .lit (.int .i64 a5), .sl a6 _, .lit (.int .i64 a7), .sl a8 _, .lit (.int .i64 a9), .lit (.bool a10), .lit (.int .i64 a11), .lit (.int .i64 a12), .lit (.int .i64 a13), .lit (.int .i64 a14)], a0 => (Ts.mk a0 (Tb.mk a1 a2 a3 a4 a5 (a6.map Tj.dec) (Tf.mk a7 (a8.map Te.dec) a9 a10) a11 a12) a13 a14)
 | _, _ => default
@[simp] theorem Ts.eta (x : Ts) : Ts.mk x.fO x.fX x.fB x.fN = x := by cases x; rfl

structure Th where
 fw : Int
 fId : Int
 fN : Int
 fz : Bool
 fq : Bool
instance : Inhabited Th := ⟨Th.mk 0 0 0 false false⟩
@[simp] def Th.enc (x : Th) : List AV := [.lit (.int .i64 x.fw), .lit (.int .i64 x.fId), .lit (.int .i64 x.fN), .lit (.bool x.fz), .lit (.bool x.fq)]
@[simp] def Th.dec : List AV → Th
 | [.lit (.int .i64 a0), .lit (.int .i64 a1), .lit (.int .i64 a2), .lit (.bool a3), .lit (.bool a4)] => (Th.mk a0 a1 a2 a3 a4)
 | _ => default
@[simp] theorem Th.eta (x : Th) : Th.mk x.fw x.fId x.fN x.fz x.fq = x := by cases x; rfl
theorem Th.dec_enc (x : Th) : Th.dec x.enc = x := by simp
@[simp] theorem Th.comp : Th.dec ∘ Th.enc = id := funext Th.dec_enc
@[simp] theorem Th.comp2 : (Th.enc ∘ Th.dec) ∘ Th.enc = Th.enc := funext fun x => by simp [Function.comp]
@[simp] theorem Th.bel (l : List Th) (n : Nat) : belLL n (l.map Th.enc) := bel_map (fun x => by simp) l
@[simp] theorem Th.nth {rows : List (List AV)} (n : Int) (h : rows = (rows.map Th.dec).map Th.enc) : nthL rows n.toNat [.lit (.int .i64 0), .lit (.int .i64 0), .lit (.int .i64 0), .lit (.bool false), .lit (.bool false)] = (nthI (rows.map Th.dec) n).enc := nth_rows (f := Th.enc) rfl h n
@[simp low] theorem Th.nthk {rows : List (List AV)} (j : Nat) (h : rows = (rows.map Th.dec).map Th.enc) : nthL rows j [.lit (.int .i64 0), .lit (.int .i64 0), .lit (.int .i64 0), .lit (.bool false), .lit (.bool false)] = (nthI (rows.map Th.dec) (j : Int)).enc := nth_rowsk (f := Th.enc) rfl h j
end Go.Ab
