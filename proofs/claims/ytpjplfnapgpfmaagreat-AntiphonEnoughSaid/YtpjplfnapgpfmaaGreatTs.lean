/- The types of these functions. No condition. -/
import Derived.Test.YtpjplfnapgpfmaaGreatM11
import Derived.Test.YtpjplfnapgpfmaaGreatPn
namespace Go.Ab

structure Tp where
 fb : Int
 fm : List (Int × Int)
 fp : List (Int × Int)
 fAt : Int
 fg : Bool
instance : Inhabited Tp := ⟨Tp.mk 0 [] [] 0 false⟩
@[simp] def Tp.enc (x : Tp) (i0 : Nat) (i1 : Nat) : List AV := [.lit (.int .i64 x.fb), .mp i0, .mp i1, .lit (.int .i64 x.fAt), .lit (.bool x.fg)]
@[simp] def Tp.dec : List AV → (List (Int × Int)) → (List (Int × Int)) → Tp
  | [.lit (.int .i64 a0), .mp _, .mp _, .lit (.int .i64 a3), .lit (.bool a4)], a1, a2 => (Tp.mk a0 a1 a2 a3 a4)
  | _, _, _ => default
@[simp] theorem Tp.eta (x : Tp) : Tp.mk x.fb x.fm x.fp x.fAt x.fg = x := by cases x; rfl

structure Tg where
 fId : Int
 fj : Int
instance : Inhabited Tg := ⟨Tg.mk 0 0⟩
@[simp] def Tg.enc (x : Tg) : List AV := [.lit (.int .i64 x.fId), .lit (.int .i64 x.fj)]
@[simp] def Tg.dec : List AV → Tg
  | [.lit (.int .i64 a0), .lit (.int .i64 a1)] => (Tg.mk a0 a1)
  | _ => default
@[simp] theorem Tg.eta (x : Tg) : Tg.mk x.fId x.fj = x := by cases x; rfl
theorem Tg.dec_enc (x : Tg) : Tg.dec x.enc = x := by simp
@[simp] theorem Tg.comp : Tg.dec ∘ Tg.enc = id := funext Tg.dec_enc
@[simp] theorem Tg.comp2 : (Tg.enc ∘ Tg.dec) ∘ Tg.enc = Tg.enc := funext fun x => by simp [Function.comp]
@[simp] theorem Tg.bel (l : List Tg) (n : Nat) : belLL n (l.map Tg.enc) := bel_map (fun x => by simp) l
@[simp] theorem Tg.ren (σ : Nat → Nat) (l : List Tg) : renLL σ (l.map Tg.enc) = l.map Tg.enc := ren_map (fun x => by simp) l
@[simp] theorem Tg.nth {rows : List (List AV)} (n : Int) (h : rows = (rows.map Tg.dec).map Tg.enc) : nthL rows n.toNat [.lit (.int .i64 0), .lit (.int .i64 0)] = (nthI (rows.map Tg.dec) n).enc := nth_rows (f := Tg.enc) rfl h n
@[simp low] theorem Tg.nthk {rows : List (List AV)} (j : Nat) (h : rows = (rows.map Tg.dec).map Tg.enc) : nthL rows j [.lit (.int .i64 0), .lit (.int .i64 0)] = (nthI (rows.map Tg.dec) (j : Int)).enc := nth_rowsk (f := Tg.enc) rfl h j

structure Ta where
 fN : Int
 fj : Int
 fw : Int
 fy : Bool
instance : Inhabited Ta := ⟨Ta.mk 0 0 0 false⟩
@[simp] def Ta.enc (x : Ta) : List AV := [.lit (.int .i64 x.fN), .lit (.int .i64 x.fj), .lit (.int .i64 x.fw), .lit (.bool x.fy)]
@[simp] def Ta.dec : List AV → Ta
  | [.lit (.int .i64 a0), .lit (.int .i64 a1), .lit (.int .i64 a2), .lit (.bool a3)] => (Ta.mk a0 a1 a2 a3)
  | _ => default
@[simp] theorem Ta.eta (x : Ta) : Ta.mk x.fN x.fj x.fw x.fy = x := by cases x; rfl
theorem Ta.dec_enc (x : Ta) : Ta.dec x.enc = x := by simp
@[simp] theorem Ta.comp : Ta.dec ∘ Ta.enc = id := funext Ta.dec_enc
@[simp] theorem Ta.comp2 : (Ta.enc ∘ Ta.dec) ∘ Ta.enc = Ta.enc := funext fun x => by simp [Function.comp]
@[simp] theorem Ta.bel (l : List Ta) (n : Nat) : belLL n (l.map Ta.enc) := bel_map (fun x => by simp) l
@[simp] theorem Ta.ren (σ : Nat → Nat) (l : List Ta) : renLL σ (l.map Ta.enc) = l.map Ta.enc := ren_map (fun x => by simp) l
@[simp] theorem Ta.nth {rows : List (List AV)} (n : Int) (h : rows = (rows.map Ta.dec).map Ta.enc) : nthL rows n.toNat [.lit (.int .i64 0), .lit (.int .i64 0), .lit (.int .i64 0), .lit (.bool false)] = (nthI (rows.map Ta.dec) n).enc := nth_rows (f := Ta.enc) rfl h n
@[simp low] theorem Ta.nthk {rows : List (List AV)} (j : Nat) (h : rows = (rows.map Ta.dec).map Ta.enc) : nthL rows j [.lit (.int .i64 0), .lit (.int .i64 0), .lit (.int .i64 0), .lit (.bool false)] = (nthI (rows.map Ta.dec) (j : Int)).enc := nth_rowsk (f := Ta.enc) rfl h j

structure Tn where
 fe : Int
 fb : Int
 fL : List Ta
 fj : Int
 fv : Bool
instance : Inhabited Tn := ⟨Tn.mk 0 0 [] 0 false⟩
@[simp] def Tn.enc (x : Tn) : List AV := [.lit (.int .i64 x.fe), .lit (.int .i64 x.fb), .sl (x.fL.map Ta.enc) .no, .lit (.int .i64 x.fj), .lit (.bool x.fv)]
@[simp] def Tn.dec : List AV → Tn
  | [.lit (.int .i64 a0), .lit (.int .i64 a1), .sl a2 _, .lit (.int .i64 a3), .lit (.bool a4)] => (Tn.mk a0 a1 (a2.map Ta.dec) a3 a4)
  | _ => default
@[simp] theorem Tn.eta (x : Tn) : Tn.mk x.fe x.fb x.fL x.fj x.fv = x := by cases x; rfl
theorem Tn.dec_enc (x : Tn) : Tn.dec x.enc = x := by simp
@[simp] theorem Tn.comp : Tn.dec ∘ Tn.enc = id := funext Tn.dec_enc
@[simp] theorem Tn.comp2 : (Tn.enc ∘ Tn.dec) ∘ Tn.enc = Tn.enc := funext fun x => by simp [Function.comp]
@[simp low] theorem Tn.nthk {rows : List (List AV)} (j : Nat) (h : rows = (rows.map Tn.dec).map Tn.enc) : nthL rows j [.lit (.int .i64 0), .lit (.int .i64 0), .sl [] .no, .lit (.int .i64 0), .lit (.bool false)] = (nthI (rows.map Tn.dec) (j : Int)).enc := nth_rowsk (f := Tn.enc) rfl h j

structure Tl where
 fe : Int
 fb : Int
 fL : List Ta
 fv : Bool
instance : Inhabited Tl := ⟨Tl.mk 0 0 [] false⟩
@[simp] def Tl.enc (x : Tl) : List AV := [.lit (.int .i64 x.fe), .lit (.int .i64 x.fb), .sl (x.fL.map Ta.enc) .no, .lit (.bool x.fv)]
@[simp] def Tl.dec : List AV → Tl
  | [.lit (.int .i64 a0), .lit (.int .i64 a1), .sl a2 _, .lit (.bool a3)] => (Tl.mk a0 a1 (a2.map Ta.dec) a3)
  | _ => default
@[simp] theorem Tl.eta (x : Tl) : Tl.mk x.fe x.fb x.fL x.fv = x := by cases x; rfl
theorem Tl.dec_enc (x : Tl) : Tl.dec x.enc = x := by simp
@[simp] theorem Tl.comp : Tl.dec ∘ Tl.enc = id := funext Tl.dec_enc
@[simp] theorem Tl.comp2 : (Tl.enc ∘ Tl.dec) ∘ Tl.enc = Tl.enc := funext fun x => by simp [Function.comp]
@[simp low] theorem Tl.nthk {rows : List (List AV)} (j : Nat) (h : rows = (rows.map Tl.dec).map Tl.enc) : nthL rows j [.lit (.int .i64 0), .lit (.int .i64 0), .sl [] .no, .lit (.bool false)] = (nthI (rows.map Tl.dec) (j : Int)).enc := nth_rowsk (f := Tl.enc) rfl h j

structure Td where
 fId : Int
 fm : Int
 fp : Int
instance : Inhabited Td := ⟨Td.mk 0 0 0⟩
@[simp] def Td.enc (x : Td) : List AV := [.lit (.int .i64 x.fId), .lit (.int .i64 x.fm), .lit (.int .i64 x.fp)]
@[simp] def Td.dec : List AV → Td
  | [.lit (.int .i64 a0), .lit (.int .i64 a1), .lit (.int .i64 a2)] => (Td.mk a0 a1 a2)
  | _ => default
@[simp] theorem Td.eta (x : Td) : Td.mk x.fId x.fm x.fp = x := by cases x; rfl
theorem Td.dec_enc (x : Td) : Td.dec x.enc = x := by simp
@[simp] theorem Td.comp : Td.dec ∘ Td.enc = id := funext Td.dec_enc
@[simp] theorem Td.comp2 : (Td.enc ∘ Td.dec) ∘ Td.enc = Td.enc := funext fun x => by simp [Function.comp]
@[simp] theorem Td.bel (l : List Td) (n : Nat) : belLL n (l.map Td.enc) := bel_map (fun x => by simp) l
@[simp] theorem Td.ren (σ : Nat → Nat) (l : List Td) : renLL σ (l.map Td.enc) = l.map Td.enc := ren_map (fun x => by simp) l
@[simp] theorem Td.nth {rows : List (List AV)} (n : Int) (h : rows = (rows.map Td.dec).map Td.enc) : nthL rows n.toNat [.lit (.int .i64 0), .lit (.int .i64 0), .lit (.int .i64 0)] = (nthI (rows.map Td.dec) n).enc := nth_rows (f := Td.enc) rfl h n
@[simp low] theorem Td.nthk {rows : List (List AV)} (j : Nat) (h : rows = (rows.map Td.dec).map Td.enc) : nthL rows j [.lit (.int .i64 0), .lit (.int .i64 0), .lit (.int .i64 0)] = (nthI (rows.map Td.dec) (j : Int)).enc := nth_rowsk (f := Td.enc) rfl h j
@[simp] theorem Td.arrset (l : List Td) (n : Int) (a0 : Int) (a1 : Int) (a2 : Int) : setAt (l.map Td.enc) n.toNat [.lit (.int .i64 a0), .lit (.int .i64 a1), .lit (.int .i64 a2)] = (setI l n (Td.mk a0 a1 a2)).map Td.enc := setAt_eq rfl

structure Te where
 fb : Int
 fL : List Td
 fAt : Int
 fg : Bool
instance : Inhabited Te := ⟨Te.mk 0 [] 0 false⟩
@[simp] def Te.enc (x : Te) : List AV := [.lit (.int .i64 x.fb), .sl (x.fL.map Td.enc) .no, .lit (.int .i64 x.fAt), .lit (.bool x.fg)]
@[simp] def Te.dec : List AV → Te
  | [.lit (.int .i64 a0), .sl a1 _, .lit (.int .i64 a2), .lit (.bool a3)] => (Te.mk a0 (a1.map Td.dec) a2 a3)
  | _ => default
@[simp] theorem Te.eta (x : Te) : Te.mk x.fb x.fL x.fAt x.fg = x := by cases x; rfl
theorem Te.dec_enc (x : Te) : Te.dec x.enc = x := by simp
@[simp] theorem Te.comp : Te.dec ∘ Te.enc = id := funext Te.dec_enc
@[simp] theorem Te.comp2 : (Te.enc ∘ Te.dec) ∘ Te.enc = Te.enc := funext fun x => by simp [Function.comp]
@[simp low] theorem Te.nthk {rows : List (List AV)} (j : Nat) (h : rows = (rows.map Te.dec).map Te.enc) : nthL rows j [.lit (.int .i64 0), .sl [] .no, .lit (.int .i64 0), .lit (.bool false)] = (nthI (rows.map Te.dec) (j : Int)).enc := nth_rowsk (f := Te.enc) rfl h j

structure Th where
 fId : Int
 fu : Bool
 fQ : Tl
instance : Inhabited Th := ⟨Th.mk 0 false (Tl.mk 0 0 [] false)⟩
@[simp] def Th.enc (x : Th) : List AV := [.lit (.int .i64 x.fId), .lit (.bool x.fu), .lit (.int .i64 x.fQ.fe), .lit (.int .i64 x.fQ.fb), .sl (x.fQ.fL.map Ta.enc) .no, .lit (.bool x.fQ.fv)]
@[simp] def Th.dec : List AV → Th
  | [.lit (.int .i64 a0), .lit (.bool a1), .lit (.int .i64 a2), .lit (.int .i64 a3), .sl a4 _, .lit (.bool a5)] => (Th.mk a0 a1 (Tl.mk a2 a3 (a4.map Ta.dec) a5))
  | _ => default
@[simp] theorem Th.eta (x : Th) : Th.mk x.fId x.fu x.fQ = x := by cases x; rfl
theorem Th.dec_enc (x : Th) : Th.dec x.enc = x := by simp
@[simp] theorem Th.comp : Th.dec ∘ Th.enc = id := funext Th.dec_enc
@[simp] theorem Th.comp2 : (Th.enc ∘ Th.dec) ∘ Th.enc = Th.enc := funext fun x => by simp [Function.comp]
@[simp] theorem Th.bel (l : List Th) (n : Nat) : belLL n (l.map Th.enc) := bel_map (fun x => by simp) l
@[simp] theorem Th.ren (σ : Nat → Nat) (l : List Th) : renLL σ (l.map Th.enc) = l.map Th.enc := ren_map (fun x => by simp) l
@[simp] theorem Th.nth {rows : List (List AV)} (n : Int) (h : rows = (rows.map Th.dec).map Th.enc) : nthL rows n.toNat [.lit (.int .i64 0), .lit (.bool false), .lit (.int .i64 0), .lit (.int .i64 0), .sl [] .no, .lit (.bool false)] = (nthI (rows.map Th.dec) n).enc := nth_rows (f := Th.enc) rfl h n
@[simp low] theorem Th.nthk {rows : List (List AV)} (j : Nat) (h : rows = (rows.map Th.dec).map Th.enc) : nthL rows j [.lit (.int .i64 0), .lit (.bool false), .lit (.int .i64 0), .lit (.int .i64 0), .sl [] .no, .lit (.bool false)] = (nthI (rows.map Th.dec) (j : Int)).enc := nth_rowsk (f := Th.enc) rfl h j
@[simp] theorem Th.arrset (l : List Th) (n : Int) (a0 : Int) (a1 : Bool) (a2 : Int) (a3 : Int) (a4 : List Ta) (a5 : Bool) : setAt (l.map Th.enc) n.toNat [.lit (.int .i64 a0), .lit (.bool a1), .lit (.int .i64 a2), .lit (.int .i64 a3), .sl (a4.map Ta.enc) .no, .lit (.bool a5)] = (setI l n (Th.mk a0 a1 (Tl.mk a2 a3 a4 a5))).map Th.enc := setAt_eq rfl

structure Tc where
 fe : Int
 fk : Int
 fq : Int
 fb : Int
 fo : Int
 fL : List Th
 fS : Te
 fc : Int
 ff : Int
instance : Inhabited Tc := ⟨Tc.mk 0 0 0 0 0 [] (Te.mk 0 [] 0 false) 0 0⟩
@[simp] def Tc.enc (x : Tc) : List AV := [.lit (.int .i64 x.fe), .lit (.int .i64 x.fk), .lit (.int .i64 x.fq), .lit (.int .i64 x.fb), .lit (.int .i64 x.fo), .sl (x.fL.map Th.enc) .no, .lit (.int .i64 x.fS.fb), .sl (x.fS.fL.map Td.enc) .no, .lit (.int .i64 x.fS.fAt), .lit (.bool x.fS.fg), .lit (.int .i64 x.fc), .lit (.int .i64 x.ff)]
@[simp] def Tc.dec : List AV → Tc
  | [.lit (.int .i64 a0), .lit (.int .i64 a1), .lit (.int .i64 a2), .lit (.int .i64 a3), .lit (.int .i64 a4), .sl a5 _, .lit (.int .i64 a6), .sl a7 _, .lit (.int .i64 a8), .lit (.bool a9), .lit (.int .i64 a10), .lit (.int .i64 a11)] => (Tc.mk a0 a1 a2 a3 a4 (a5.map Th.dec) (Te.mk a6 (a7.map Td.dec) a8 a9) a10 a11)
  | _ => default
@[simp] theorem Tc.eta (x : Tc) : Tc.mk x.fe x.fk x.fq x.fb x.fo x.fL x.fS x.fc x.ff = x := by cases x; rfl
theorem Tc.dec_enc (x : Tc) : Tc.dec x.enc = x := by simp
@[simp] theorem Tc.comp : Tc.dec ∘ Tc.enc = id := funext Tc.dec_enc
@[simp] theorem Tc.comp2 : (Tc.enc ∘ Tc.dec) ∘ Tc.enc = Tc.enc := funext fun x => by simp [Function.comp]
@[simp low] theorem Tc.nthk {rows : List (List AV)} (j : Nat) (h : rows = (rows.map Tc.dec).map Tc.enc) : nthL rows j [.lit (.int .i64 0), .lit (.int .i64 0), .lit (.int .i64 0), .lit (.int .i64 0), .lit (.int .i64 0), .sl [] .no, .lit (.int .i64 0), .sl [] .no, .lit (.int .i64 0), .lit (.bool false), .lit (.int .i64 0), .lit (.int .i64 0)] = (nthI (rows.map Tc.dec) (j : Int)).enc := nth_rowsk (f := Tc.enc) rfl h j

structure Tb where
 fId : Int
 fI : Ta
instance : Inhabited Tb := ⟨Tb.mk 0 (Ta.mk 0 0 0 false)⟩
@[simp] def Tb.enc (x : Tb) : List AV := [.lit (.int .i64 x.fId), .lit (.int .i64 x.fI.fN), .lit (.int .i64 x.fI.fj), .lit (.int .i64 x.fI.fw), .lit (.bool x.fI.fy)]
@[simp] def Tb.dec : List AV → Tb
  | [.lit (.int .i64 a0), .lit (.int .i64 a1), .lit (.int .i64 a2), .lit (.int .i64 a3), .lit (.bool a4)] => (Tb.mk a0 (Ta.mk a1 a2 a3 a4))
  | _ => default
@[simp] theorem Tb.eta (x : Tb) : Tb.mk x.fId x.fI = x := by cases x; rfl
theorem Tb.dec_enc (x : Tb) : Tb.dec x.enc = x := by simp
@[simp] theorem Tb.comp : Tb.dec ∘ Tb.enc = id := funext Tb.dec_enc
@[simp] theorem Tb.comp2 : (Tb.enc ∘ Tb.dec) ∘ Tb.enc = Tb.enc := funext fun x => by simp [Function.comp]
@[simp] theorem Tb.bel (l : List Tb) (n : Nat) : belLL n (l.map Tb.enc) := bel_map (fun x => by simp) l
@[simp] theorem Tb.ren (σ : Nat → Nat) (l : List Tb) : renLL σ (l.map Tb.enc) = l.map Tb.enc := ren_map (fun x => by simp) l
@[simp] theorem Tb.nth {rows : List (List AV)} (n : Int) (h : rows = (rows.map Tb.dec).map Tb.enc) : nthL rows n.toNat [.lit (.int .i64 0), .lit (.int .i64 0), .lit (.int .i64 0), .lit (.int .i64 0), .lit (.bool false)] = (nthI (rows.map Tb.dec) n).enc := nth_rows (f := Tb.enc) rfl h n
@[simp low] theorem Tb.nthk {rows : List (List AV)} (j : Nat) (h : rows = (rows.map Tb.dec).map Tb.enc) : nthL rows j [.lit (.int .i64 0), .lit (.int .i64 0), .lit (.int .i64 0), .lit (.int .i64 0), .lit (.bool false)] = (nthI (rows.map Tb.dec) (j : Int)).enc := nth_rowsk (f := Tb.enc) rfl h j

structure Ts where
 fe : Int
 fk : Int
 fq : Int
 fb : Int
 fo : Int
instance : Inhabited Ts := ⟨Ts.mk 0 0 0 0 0⟩
@[simp] def Ts.enc (x : Ts) : List AV := [.lit (.int .i64 x.fe), .lit (.int .i64 x.fk), .lit (.int .i64 x.fq), .lit (.int .i64 x.fb), .lit (.int .i64 x.fo)]
@[simp] def Ts.dec : List AV → Ts
  | [.lit (.int .i64 a0), .lit (.int .i64 a1), .lit (.int .i64 a2), .lit (.int .i64 a3), .lit (.int .i64 a4)] => (Ts.mk a0 a1 a2 a3 a4)
  | _ => default
@[simp] theorem Ts.eta (x : Ts) : Ts.mk x.fe x.fk x.fq x.fb x.fo = x := by cases x; rfl
theorem Ts.dec_enc (x : Ts) : Ts.dec x.enc = x := by simp
@[simp] theorem Ts.comp : Ts.dec ∘ Ts.enc = id := funext Ts.dec_enc
@[simp] theorem Ts.comp2 : (Ts.enc ∘ Ts.dec) ∘ Ts.enc = Ts.enc := funext fun x => by simp [Function.comp]
@[simp low] theorem Ts.nthk {rows : List (List AV)} (j : Nat) (h : rows = (rows.map Ts.dec).map Ts.enc) : nthL rows j [.lit (.int .i64 0), .lit (.int .i64 0), .lit (.int .i64 0), .lit (.int .i64 0), .lit (.int .i64 0)] = (nthI (rows.map Ts.dec) (j : Int)).enc := nth_rowsk (f := Ts.enc) rfl h j

structure Tj where
 fA : Tn
 fu : Bool
instance : Inhabited Tj := ⟨Tj.mk (Tn.mk 0 0 [] 0 false) false⟩
@[simp] def Tj.dec : List AV → Tn → Tj
  | [.ptr _ _, .lit (.bool a1)], a0 => (Tj.mk a0 a1)
  | _, _ => default
@[simp] theorem Tj.eta (x : Tj) : Tj.mk x.fA x.fu = x := by cases x; rfl
@[simp] def Tj.mem (x : Tj) : List AObj := [.blk [.lit (.int .i64 x.fA.fe), .lit (.int .i64 x.fA.fb), .sl (x.fA.fL.map Ta.enc) .no, .lit (.int .i64 x.fA.fj), .lit (.bool x.fA.fv)]]
@[simp] def Tj.val (x : Tj) : AV := (.agg [.ptr 0 0, .lit (.bool x.fu)])
def Tj.fl (x : Tj) : AV := .agg [(vA Tn.enc) x.fA, kB x.fu]
def Tj.dfl (v : AV) : Tj := (Tj.mk ((dvA Tn.dec) (nthF v 0)) (dkB (nthF v 1)))
@[simp] theorem Tj.dfl_fl (x : Tj) : Tj.dfl (Tj.fl x) = x := by simp [Tj.dfl, Tj.fl, nthF]
@[simp] def Tj.own (kk : IntKind) (rows : List (Int × Tj)) (hole : Option Value) : Own := ownP (intKey kk) (Value.int kk) Tj.fl Tj.mem Tj.val rows hole
@[simp] theorem Tj.mdec (kk : IntKind) (m : List (Int × Tj)) : decM dkI Tj.dfl (encM (kI kk) Tj.fl m) = m := decM_encM (fun _ => rfl) Tj.dfl_fl m

structure Tf where
 fd : Ts
 fh : List (Int × Tj)
 fa : Tp
 fc : Int
 ff : Int
instance : Inhabited Tf := ⟨Tf.mk (Ts.mk 0 0 0 0 0) [] (Tp.mk 0 [] [] 0 false) 0 0⟩
@[simp] def Tf.enc (x : Tf) (i0 : Nat) (i1 : Nat) : List AV := [.lit (.int .i64 x.fd.fe), .lit (.int .i64 x.fd.fk), .lit (.int .i64 x.fd.fq), .lit (.int .i64 x.fd.fb), .lit (.int .i64 x.fd.fo), .mp i0, .ptr i1 0, .lit (.int .i64 x.fc), .lit (.int .i64 x.ff)]
@[simp] def Tf.dec : List AV → (List (Int × Tj)) → Tp → Tf
  | [.lit (.int .i64 a0), .lit (.int .i64 a1), .lit (.int .i64 a2), .lit (.int .i64 a3), .lit (.int .i64 a4), .mp _, .ptr _ _, .lit (.int .i64 a7), .lit (.int .i64 a8)], a5, a6 => (Tf.mk (Ts.mk a0 a1 a2 a3 a4) a5 a6 a7 a8)
  | _, _, _ => default
@[simp] theorem Tf.eta (x : Tf) : Tf.mk x.fd x.fh x.fa x.fc x.ff = x := by cases x; rfl

structure Tu where
 fO : Tf
 fX : Tc
 fC : Int
 fN : Int
instance : Inhabited Tu := ⟨Tu.mk (Tf.mk (Ts.mk 0 0 0 0 0) [] (Tp.mk 0 [] [] 0 false) 0 0) (Tc.mk 0 0 0 0 0 [] (Te.mk 0 [] 0 false) 0 0) 0 0⟩
@[simp] def Tu.enc (x : Tu) (i0 : Nat) : List AV := [.ptr i0 0, .lit (.int .i64 x.fX.fe), .lit (.int .i64 x.fX.fk), .lit (.int .i64 x.fX.fq), .lit (.int .i64 x.fX.fb), .lit (.int .i64 x.fX.fo), .sl (x.fX.fL.map Th.enc) .no, .lit (.int .i64 x.fX.fS.fb), .sl (x.fX.fS.fL.map Td.enc) .no, .lit (.int .i64 x.fX.fS.fAt), .lit (.bool x.fX.fS.fg), .lit (.int .i64 x.fX.fc), .lit (.int .i64 x.fX.ff), .lit (.int .i64 x.fC), .lit (.int .i64 x.fN)]
@[simp] def Tu.dec : List AV → Tf → Tu
  | [.ptr _ _, .lit (.int .i64 a1), .lit (.int .i64 a2), .lit (.int .i64 a3), .lit (.int .i64 a4), .lit (.int .i64 a5), .sl a6 _, .lit (.int .i64 a7), .sl a8 _, .lit (.int .i64 a9), .lit (.bool a10), .lit (.int .i64 a11), .lit (.int .i64 a12), .lit (.int .i64 a13), .lit (.int .i64 a14)], a0 => (Tu.mk a0 (Tc.mk a1 a2 a3 a4 a5 (a6.map Th.dec) (Te.mk a7 (a8.map Td.dec) a9 a10) a11 a12) a13 a14)
  | _, _ => default
@[simp] theorem Tu.eta (x : Tu) : Tu.mk x.fO x.fX x.fC x.fN = x := by cases x; rfl

structure Tq where
 fz : Int
 fId : Int
 fN : Int
 fy : Bool
 fu : Bool
instance : Inhabited Tq := ⟨Tq.mk 0 0 0 false false⟩
@[simp] def Tq.enc (x : Tq) : List AV := [.lit (.int .i64 x.fz), .lit (.int .i64 x.fId), .lit (.int .i64 x.fN), .lit (.bool x.fy), .lit (.bool x.fu)]
@[simp] def Tq.dec : List AV → Tq
  | [.lit (.int .i64 a0), .lit (.int .i64 a1), .lit (.int .i64 a2), .lit (.bool a3), .lit (.bool a4)] => (Tq.mk a0 a1 a2 a3 a4)
  | _ => default
@[simp] theorem Tq.eta (x : Tq) : Tq.mk x.fz x.fId x.fN x.fy x.fu = x := by cases x; rfl
theorem Tq.dec_enc (x : Tq) : Tq.dec x.enc = x := by simp
@[simp] theorem Tq.comp : Tq.dec ∘ Tq.enc = id := funext Tq.dec_enc
@[simp] theorem Tq.comp2 : (Tq.enc ∘ Tq.dec) ∘ Tq.enc = Tq.enc := funext fun x => by simp [Function.comp]
@[simp] theorem Tq.bel (l : List Tq) (n : Nat) : belLL n (l.map Tq.enc) := bel_map (fun x => by simp) l
@[simp] theorem Tq.nth {rows : List (List AV)} (n : Int) (h : rows = (rows.map Tq.dec).map Tq.enc) : nthL rows n.toNat [.lit (.int .i64 0), .lit (.int .i64 0), .lit (.int .i64 0), .lit (.bool false), .lit (.bool false)] = (nthI (rows.map Tq.dec) n).enc := nth_rows (f := Tq.enc) rfl h n
@[simp low] theorem Tq.nthk {rows : List (List AV)} (j : Nat) (h : rows = (rows.map Tq.dec).map Tq.enc) : nthL rows j [.lit (.int .i64 0), .lit (.int .i64 0), .lit (.int .i64 0), .lit (.bool false), .lit (.bool false)] = (nthI (rows.map Tq.dec) (j : Int)).enc := nth_rowsk (f := Tq.enc) rfl h j

structure Tk where
 fS : ByteArray
 fE : Int
instance : Inhabited Tk := ⟨Tk.mk ⟨⟨[]⟩⟩ 0⟩
@[simp] def Tk.enc (x : Tk) : List AV := [.lit (.string x.fS), .lit (.int .i64 x.fE)]
@[simp] def Tk.dec : List AV → Tk
  | [.lit (.string a0), .lit (.int .i64 a1)] => (Tk.mk a0 a1)
  | _ => default
@[simp] theorem Tk.eta (x : Tk) : Tk.mk x.fS x.fE = x := by cases x; rfl
theorem Tk.dec_enc (x : Tk) : Tk.dec x.enc = x := by simp
@[simp] theorem Tk.comp : Tk.dec ∘ Tk.enc = id := funext Tk.dec_enc
@[simp] theorem Tk.comp2 : (Tk.enc ∘ Tk.dec) ∘ Tk.enc = Tk.enc := funext fun x => by simp [Function.comp]
@[simp low] theorem Tk.nthk {rows : List (List AV)} (j : Nat) (h : rows = (rows.map Tk.dec).map Tk.enc) : nthL rows j [.lit (.string ⟨⟨[]⟩⟩), .lit (.int .i64 0)] = (nthI (rows.map Tk.dec) (j : Int)).enc := nth_rowsk (f := Tk.enc) rfl h j

structure Tt where
 fM : Bool
 fH : Int
 fac : Int
 fW : Int
 fY : Int
 fP : List Int
 fad : Bool
 fG : Int
 fU : ByteArray
 fB : ByteArray
 fD : Int
instance : Inhabited Tt := ⟨Tt.mk false 0 0 0 0 [] false 0 ⟨⟨[]⟩⟩ ⟨⟨[]⟩⟩ 0⟩
@[simp] def Tt.enc (x : Tt) : List AV := [.lit (.bool x.fM), .lit (.int .u8 x.fH), .lit (.int .u16 x.fac), .lit (.int .u32 x.fW), .lit (.int .u32 x.fY), .sl (x.fP.map (eNum .u32)) .no, .lit (.bool x.fad), .lit (.int .u16 x.fG), .lit (.string x.fU), .lit (.string x.fB), .lit (.int .i64 x.fD)]
@[simp] def Tt.dec : List AV → Tt
  | [.lit (.bool a0), .lit (.int .u8 a1), .lit (.int .u16 a2), .lit (.int .u32 a3), .lit (.int .u32 a4), .sl a5 _, .lit (.bool a6), .lit (.int .u16 a7), .lit (.string a8), .lit (.string a9), .lit (.int .i64 a10)] => (Tt.mk a0 a1 a2 a3 a4 (a5.map decI) a6 a7 a8 a9 a10)
  | _ => default
@[simp] theorem Tt.eta (x : Tt) : Tt.mk x.fM x.fH x.fac x.fW x.fY x.fP x.fad x.fG x.fU x.fB x.fD = x := by cases x; rfl
theorem Tt.dec_enc (x : Tt) : Tt.dec x.enc = x := by simp
@[simp] theorem Tt.comp : Tt.dec ∘ Tt.enc = id := funext Tt.dec_enc
@[simp] theorem Tt.comp2 : (Tt.enc ∘ Tt.dec) ∘ Tt.enc = Tt.enc := funext fun x => by simp [Function.comp]
@[simp low] theorem Tt.nthk {rows : List (List AV)} (j : Nat) (h : rows = (rows.map Tt.dec).map Tt.enc) : nthL rows j [.lit (.bool false), .lit (.int .u8 0), .lit (.int .u16 0), .lit (.int .u32 0), .lit (.int .u32 0), .sl [] .no, .lit (.bool false), .lit (.int .u16 0), .lit (.string ⟨⟨[]⟩⟩), .lit (.string ⟨⟨[]⟩⟩), .lit (.int .i64 0)] = (nthI (rows.map Tt.dec) (j : Int)).enc := nth_rowsk (f := Tt.enc) rfl h j

structure Tv where
 fT : Bool
 fV : Bool
 fR : Int
 fF : Int
 faa : Bool
 fJ : Int
 fK : Int
 fab : Bool
 fy : Int
instance : Inhabited Tv := ⟨Tv.mk false false 0 0 false 0 0 false 0⟩
@[simp] def Tv.enc (x : Tv) : List AV := [.lit (.bool x.fT), .lit (.bool x.fV), .lit (.int .i64 x.fR), .lit (.int .i64 x.fF), .lit (.bool x.faa), .lit (.int .i64 x.fJ), .lit (.int .i64 x.fK), .lit (.bool x.fab), .lit (.int .i64 x.fy)]
@[simp] def Tv.dec : List AV → Tv
  | [.lit (.bool a0), .lit (.bool a1), .lit (.int .i64 a2), .lit (.int .i64 a3), .lit (.bool a4), .lit (.int .i64 a5), .lit (.int .i64 a6), .lit (.bool a7), .lit (.int .i64 a8)] => (Tv.mk a0 a1 a2 a3 a4 a5 a6 a7 a8)
  | _ => default
@[simp] theorem Tv.eta (x : Tv) : Tv.mk x.fT x.fV x.fR x.fF x.faa x.fJ x.fK x.fab x.fy = x := by cases x; rfl
theorem Tv.dec_enc (x : Tv) : Tv.dec x.enc = x := by simp
@[simp] theorem Tv.comp : Tv.dec ∘ Tv.enc = id := funext Tv.dec_enc
@[simp] theorem Tv.comp2 : (Tv.enc ∘ Tv.dec) ∘ Tv.enc = Tv.enc := funext fun x => by simp [Function.comp]
@[simp low] theorem Tv.nthk {rows : List (List AV)} (j : Nat) (h : rows = (rows.map Tv.dec).map Tv.enc) : nthL rows j [.lit (.bool false), .lit (.bool false), .lit (.int .i64 0), .lit (.int .i64 0), .lit (.bool false), .lit (.int .i64 0), .lit (.int .i64 0), .lit (.bool false), .lit (.int .i64 0)] = (nthI (rows.map Tv.dec) (j : Int)).enc := nth_rowsk (f := Tv.enc) rfl h j

structure Tw where
 fZ : Int
 fTo : Int
instance : Inhabited Tw := ⟨Tw.mk 0 0⟩
@[simp] def Tw.enc (x : Tw) : List AV := [.lit (.int .u32 x.fZ), .lit (.int .u32 x.fTo)]
@[simp] def Tw.dec : List AV → Tw
  | [.lit (.int .u32 a0), .lit (.int .u32 a1)] => (Tw.mk a0 a1)
  | _ => default
@[simp] theorem Tw.eta (x : Tw) : Tw.mk x.fZ x.fTo = x := by cases x; rfl
theorem Tw.dec_enc (x : Tw) : Tw.dec x.enc = x := by simp
@[simp] theorem Tw.comp : Tw.dec ∘ Tw.enc = id := funext Tw.dec_enc
@[simp] theorem Tw.comp2 : (Tw.enc ∘ Tw.dec) ∘ Tw.enc = Tw.enc := funext fun x => by simp [Function.comp]
@[simp low] theorem Tw.nthk {rows : List (List AV)} (j : Nat) (h : rows = (rows.map Tw.dec).map Tw.enc) : nthL rows j [.lit (.int .u32 0), .lit (.int .u32 0)] = (nthI (rows.map Tw.dec) (j : Int)).enc := nth_rowsk (f := Tw.enc) rfl h j

inductive RtcpPacket where
 | c0 (x : Tw)
instance : Inhabited RtcpPacket := ⟨.c0 default⟩
def RtcpPacket.av : RtcpPacket → AV
 | .c0 x => .iface 73 (.agg [.lit (.int .u32 x.fZ), .lit (.int .u32 x.fTo)])
@[simp] theorem RtcpPacket.av0 (x : Tw) : RtcpPacket.av (.c0 x) = .iface 73 (.agg [.lit (.int .u32 x.fZ), .lit (.int .u32 x.fTo)]) := rfl
@[simp] def RtcpPacket.enc (x : RtcpPacket) : List AV := [x.av]
def RtcpPacket.dec : List AV → RtcpPacket
 | [.iface t (.agg l)] => if t = 73 then .c0 (Tw.dec l) else default
 | _ => default
@[simp] theorem RtcpPacket.dec0 (l : List AV) : RtcpPacket.dec [.iface 73 (.agg l)] = .c0 (Tw.dec l) := by simp [RtcpPacket.dec]
theorem RtcpPacket.dec_enc (x : RtcpPacket) : RtcpPacket.dec x.enc = x := by cases x <;> simp
@[simp] theorem RtcpPacket.dec_av (x : RtcpPacket) : RtcpPacket.dec [x.av] = x := RtcpPacket.dec_enc x
@[simp] theorem RtcpPacket.comp : RtcpPacket.dec ∘ RtcpPacket.enc = id := funext RtcpPacket.dec_enc
@[simp] theorem RtcpPacket.comp2 : (RtcpPacket.enc ∘ RtcpPacket.dec) ∘ RtcpPacket.enc = RtcpPacket.enc := funext fun x => by simp [Function.comp]
@[simp] theorem RtcpPacket.abel (x : RtcpPacket) (n : Nat) : x.av.bel n := by cases x <;> simp
@[simp] theorem RtcpPacket.aren (σ : Nat → Nat) (x : RtcpPacket) : x.av.ren σ = x.av := by cases x <;> simp
@[simp] theorem RtcpPacket.bel (l : List RtcpPacket) (n : Nat) : belLL n (l.map RtcpPacket.enc) := bel_map (fun x => by simp) l
@[simp] theorem RtcpPacket.ren (σ : Nat → Nat) (l : List RtcpPacket) : renLL σ (l.map RtcpPacket.enc) = l.map RtcpPacket.enc := ren_map (fun x => by simp) l
def RtcpPacket.by {α : Type} (e : RtcpPacket) (f0 : Tw → Option α) : Option α := match e with
 | .c0 x => f0 x
theorem RtcpPacket.by0 {α : Type} {e : RtcpPacket} {f0 : Tw → Option α} {x : Tw} {r : α} (h : e = .c0 x) (hr : RtcpPacket.by e f0 = some r) : f0 x = some r := by subst h; exact hr
@[simp] theorem RtcpPacket.nth {rows : List (List AV)} (n : Int) (q : InB n (lenL rows)) (h : rows = (rows.map RtcpPacket.dec).map RtcpPacket.enc) (z : List AV) : nthL rows n.toNat z = (nthI (rows.map RtcpPacket.dec) n).enc := nth_rows_in h q
end Go.Ab
