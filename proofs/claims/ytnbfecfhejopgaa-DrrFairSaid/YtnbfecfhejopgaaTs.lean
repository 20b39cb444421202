/- The types of these functions. No condition. -/
import Derived.Test.YtnbfecfhejopgaaNx
namespace Go.Ab

structure DrrSched where
  fMost : Int
  fShare : List (Int × Int)
  fLeft : List (Int × Int)
  fAt : Int
  fGranted : Bool
instance : Inhabited DrrSched := ⟨DrrSched.mk 0 [] [] 0 false⟩
@[simp] def DrrSched.enc (x : DrrSched) (i0 : Nat) (i1 : Nat) : List AV := [.lit (.int .i64 x.fMost), .mp i0, .mp i1, .lit (.int .i64 x.fAt), .lit (.bool x.fGranted)]
@[simp] def DrrSched.dec : List AV → (List (Int × Int)) → (List (Int × Int)) → DrrSched
  | [.lit (.int .i64 a0), .mp _, .mp _, .lit (.int .i64 a3), .lit (.bool a4)], a1, a2 => (DrrSched.mk a0 a1 a2 a3 a4)
  | _, _, _ => default
@[simp] theorem DrrSched.eta (x : DrrSched) : DrrSched.mk x.fMost x.fShare x.fLeft x.fAt x.fGranted = x := by cases x; rfl

structure Antiphonref19Head where
  fId : Int
  fSize : Int
instance : Inhabited Antiphonref19Head := ⟨Antiphonref19Head.mk 0 0⟩
@[simp] def Antiphonref19Head.enc (x : Antiphonref19Head) : List AV := [.lit (.int .i64 x.fId), .lit (.int .i64 x.fSize)]
@[simp] def Antiphonref19Head.dec : List AV → Antiphonref19Head
  | [.lit (.int .i64 a0), .lit (.int .i64 a1)] => (Antiphonref19Head.mk a0 a1)
  | _ => default
@[simp] theorem Antiphonref19Head.eta (x : Antiphonref19Head) : Antiphonref19Head.mk x.fId x.fSize = x := by cases x; rfl
theorem Antiphonref19Head.dec_enc (x : Antiphonref19Head) : Antiphonref19Head.dec x.enc = x := by simp
@[simp] theorem Antiphonref19Head.comp : Antiphonref19Head.dec ∘ Antiphonref19Head.enc = id := funext Antiphonref19Head.dec_enc
@[simp] theorem Antiphonref19Head.comp2 : (Antiphonref19Head.enc ∘ Antiphonref19Head.dec) ∘ Antiphonref19Head.enc = Antiphonref19Head.enc := funext fun x => by simp [Function.comp]
@[simp] theorem Antiphonref19Head.bel (l : List Antiphonref19Head) (n : Nat) : belLL n (l.map Antiphonref19Head.enc) := bel_map (fun x => by simp) l
@[simp] theorem Antiphonref19Head.ren (σ : Nat → Nat) (l : List Antiphonref19Head) : renLL σ (l.map Antiphonref19Head.enc) = l.map Antiphonref19Head.enc := ren_map (fun x => by simp) l
@[simp] theorem Antiphonref19Head.nth {rows : List (List AV)} (n : Int) (h : rows = (rows.map Antiphonref19Head.dec).map Antiphonref19Head.enc) : nthL rows n.toNat [.lit (.int .i64 0), .lit (.int .i64 0)] = (nthI (rows.map Antiphonref19Head.dec) n).enc := nth_rows (f := Antiphonref19Head.enc) rfl h n
@[simp low] theorem Antiphonref19Head.nthk {rows : List (List AV)} (j : Nat) (h : rows = (rows.map Antiphonref19Head.dec).map Antiphonref19Head.enc) : nthL rows j [.lit (.int .i64 0), .lit (.int .i64 0)] = (nthI (rows.map Antiphonref19Head.dec) (j : Int)).enc := nth_rowsk (f := Antiphonref19Head.enc) rfl h j
end Go.Ab
