/- The types of these functions. No condition. -/
import Derived.Test.YtnoeflijefijcaaNx
import Derived.Test.YtnoeflijefijcaaPn
namespace Go.Ab

structure DrrSched where
  fMost : Int
  fShare : List (Int × Int)
  fLeft : List (Int × Int)
  fAt : Int
  fGranted : Bool
instance : Inhabited DrrSched := ⟨DrrSched.mk 0 [] [] 0 false⟩
@[simp] def DrrSched.enc (x : DrrSched) (i0 : Nat) (i1 : Nat) : List AV := [.lit (.int .i64 x.fMost), .mp i0, .mp i1, .lit (.int .i64 x.fAt), .lit (.bool x.fGranted)]
@[simp] def DrrSched.dec : List AV → (List (Int × Int)) → (List (Int × Int)) → DrrSched
  | [.lit (.int .i64 a0), .mp _, .mp _, .lit (.int .i64 a3), .lit (.bool a4)], a1, a2 => (DrrSched.mk a0 a1 a2 a3 a4)
  | _, _, _ => default
@[simp] theorem DrrSched.eta (x : DrrSched) : DrrSched.mk x.fMost x.fShare x.fLeft x.fAt x.fGranted = x := by cases x; rfl

structure Antiphonref19Head where
  fId : Int
  fSize : Int
instance : Inhabited Antiphonref19Head := ⟨Antiphonref19Head.mk 0 0⟩
@[simp] def Antiphonref19Head.enc (x : Antiphonref19Head) : List AV := [.lit (.int .i64 x.fId), .lit (.int .i64 x.fSize)]
@[simp] def Antiphonref19Head.dec : List AV → Antiphonref19Head
  | [.lit (.int .i64 a0), .lit (.int .i64 a1)] => (Antiphonref19Head.mk a0 a1)
  | _ => default
@[simp] theorem Antiphonref19Head.eta (x : Antiphonref19Head) : Antiphonref19Head.mk x.fId x.fSize = x := by cases x; rfl
theorem Antiphonref19Head.dec_enc (x : Antiphonref19Head) : Antiphonref19Head.dec x.enc = x := by simp
@[simp] theorem Antiphonref19Head.comp : Antiphonref19Head.dec ∘ Antiphonref19Head.enc = id := funext Antiphonref19Head.dec_enc
@[simp] theorem Antiphonref19Head.comp2 : (Antiphonref19Head.enc ∘ Antiphonref19Head.dec) ∘ Antiphonref19Head.enc = Antiphonref19Head.enc := funext fun x => by simp [Function.comp]
@[simp] theorem Antiphonref19Head.bel (l : List Antiphonref19Head) (n : Nat) : belLL n (l.map Antiphonref19Head.enc) := bel_map (fun x => by simp) l
@[simp] theorem Antiphonref19Head.ren (σ : Nat → Nat) (l : List Antiphonref19Head) : renLL σ (l.map Antiphonref19Head.enc) = l.map Antiphonref19Head.enc := ren_map (fun x => by simp) l
@[simp] theorem Antiphonref19Head.nth {rows : List (List AV)} (n : Int) (h : rows = (rows.map Antiphonref19Head.dec).map Antiphonref19Head.enc) : nthL rows n.toNat [.lit (.int .i64 0), .lit (.int .i64 0)] = (nthI (rows.map Antiphonref19Head.dec) n).enc := nth_rows (f := Antiphonref19Head.enc) rfl h n
@[simp low] theorem Antiphonref19Head.nthk {rows : List (List AV)} (j : Nat) (h : rows = (rows.map Antiphonref19Head.dec).map Antiphonref19Head.enc) : nthL rows j [.lit (.int .i64 0), .lit (.int .i64 0)] = (nthI (rows.map Antiphonref19Head.dec) (j : Int)).enc := nth_rowsk (f := Antiphonref19Head.enc) rfl h j

structure Antiphonref18Item where
  fN : Int
  fSize : Int
  fTick : Int
  fKey : Bool
instance : Inhabited Antiphonref18Item := ⟨Antiphonref18Item.mk 0 0 0 false⟩
@[simp] def Antiphonref18Item.enc (x : Antiphonref18Item) : List AV := [.lit (.int .i64 x.fN), .lit (.int .i64 x.fSize), .lit (.int .i64 x.fTick), .lit (.bool x.fKey)]
@[simp] def Antiphonref18Item.dec : List AV → Antiphonref18Item
  | [.lit (.int .i64 a0), .lit (.int .i64 a1), .lit (.int .i64 a2), .lit (.bool a3)] => (Antiphonref18Item.mk a0 a1 a2 a3)
  | _ => default
@[simp] theorem Antiphonref18Item.eta (x : Antiphonref18Item) : Antiphonref18Item.mk x.fN x.fSize x.fTick x.fKey = x := by cases x; rfl
theorem Antiphonref18Item.dec_enc (x : Antiphonref18Item) : Antiphonref18Item.dec x.enc = x := by simp
@[simp] theorem Antiphonref18Item.comp : Antiphonref18Item.dec ∘ Antiphonref18Item.enc = id := funext Antiphonref18Item.dec_enc
@[simp] theorem Antiphonref18Item.comp2 : (Antiphonref18Item.enc ∘ Antiphonref18Item.dec) ∘ Antiphonref18Item.enc = Antiphonref18Item.enc := funext fun x => by simp [Function.comp]
@[simp] theorem Antiphonref18Item.bel (l : List Antiphonref18Item) (n : Nat) : belLL n (l.map Antiphonref18Item.enc) := bel_map (fun x => by simp) l
@[simp] theorem Antiphonref18Item.ren (σ : Nat → Nat) (l : List Antiphonref18Item) : renLL σ (l.map Antiphonref18Item.enc) = l.map Antiphonref18Item.enc := ren_map (fun x => by simp) l
@[simp] theorem Antiphonref18Item.nth {rows : List (List AV)} (n : Int) (h : rows = (rows.map Antiphonref18Item.dec).map Antiphonref18Item.enc) : nthL rows n.toNat [.lit (.int .i64 0), .lit (.int .i64 0), .lit (.int .i64 0), .lit (.bool false)] = (nthI (rows.map Antiphonref18Item.dec) n).enc := nth_rows (f := Antiphonref18Item.enc) rfl h n
@[simp low] theorem Antiphonref18Item.nthk {rows : List (List AV)} (j : Nat) (h : rows = (rows.map Antiphonref18Item.dec).map Antiphonref18Item.enc) : nthL rows j [.lit (.int .i64 0), .lit (.int .i64 0), .lit (.int .i64 0), .lit (.bool false)] = (nthI (rows.map Antiphonref18Item.dec) (j : Int)).enc := nth_rowsk (f := Antiphonref18Item.enc) rfl h j

structure QueueQueue where
  fFrames : Int
  fMost : Int
  fL : List Antiphonref18Item
  fSize : Int
  fBroken : Bool
instance : Inhabited QueueQueue := ⟨QueueQueue.mk 0 0 [] 0 false⟩
@[simp] def QueueQueue.enc (x : QueueQueue) : List AV := [.lit (.int .i64 x.fFrames), .lit (.int .i64 x.fMost), .sl (x.fL.map Antiphonref18Item.enc) .no, .lit (.int .i64 x.fSize), .lit (.bool x.fBroken)]
@[simp] def QueueQueue.dec : List AV → QueueQueue
  | [.lit (.int .i64 a0), .lit (.int .i64 a1), .sl a2 _, .lit (.int .i64 a3), .lit (.bool a4)] => (QueueQueue.mk a0 a1 (a2.map Antiphonref18Item.dec) a3 a4)
  | _ => default
@[simp] theorem QueueQueue.eta (x : QueueQueue) : QueueQueue.mk x.fFrames x.fMost x.fL x.fSize x.fBroken = x := by cases x; rfl
theorem QueueQueue.dec_enc (x : QueueQueue) : QueueQueue.dec x.enc = x := by simp
@[simp] theorem QueueQueue.comp : QueueQueue.dec ∘ QueueQueue.enc = id := funext QueueQueue.dec_enc
@[simp] theorem QueueQueue.comp2 : (QueueQueue.enc ∘ QueueQueue.dec) ∘ QueueQueue.enc = QueueQueue.enc := funext fun x => by simp [Function.comp]
@[simp low] theorem QueueQueue.nthk {rows : List (List AV)} (j : Nat) (h : rows = (rows.map QueueQueue.dec).map QueueQueue.enc) : nthL rows j [.lit (.int .i64 0), .lit (.int .i64 0), .sl [] .no, .lit (.int .i64 0), .lit (.bool false)] = (nthI (rows.map QueueQueue.dec) (j : Int)).enc := nth_rowsk (f := QueueQueue.enc) rfl h j

structure Antiphonref18Queue where
  fFrames : Int
  fMost : Int
  fL : List Antiphonref18Item
  fBroken : Bool
instance : Inhabited Antiphonref18Queue := ⟨Antiphonref18Queue.mk 0 0 [] false⟩
@[simp] def Antiphonref18Queue.enc (x : Antiphonref18Queue) : List AV := [.lit (.int .i64 x.fFrames), .lit (.int .i64 x.fMost), .sl (x.fL.map Antiphonref18Item.enc) .no, .lit (.bool x.fBroken)]
@[simp] def Antiphonref18Queue.dec : List AV → Antiphonref18Queue
  | [.lit (.int .i64 a0), .lit (.int .i64 a1), .sl a2 _, .lit (.bool a3)] => (Antiphonref18Queue.mk a0 a1 (a2.map Antiphonref18Item.dec) a3)
  | _ => default
@[simp] theorem Antiphonref18Queue.eta (x : Antiphonref18Queue) : Antiphonref18Queue.mk x.fFrames x.fMost x.fL x.fBroken = x := by cases x; rfl
theorem Antiphonref18Queue.dec_enc (x : Antiphonref18Queue) : Antiphonref18Queue.dec x.enc = x := by simp
@[simp] theorem Antiphonref18Queue.comp : Antiphonref18Queue.dec ∘ Antiphonref18Queue.enc = id := funext Antiphonref18Queue.dec_enc
@[simp] theorem Antiphonref18Queue.comp2 : (Antiphonref18Queue.enc ∘ Antiphonref18Queue.dec) ∘ Antiphonref18Queue.enc = Antiphonref18Queue.enc := funext fun x => by simp [Function.comp]
@[simp low] theorem Antiphonref18Queue.nthk {rows : List (List AV)} (j : Nat) (h : rows = (rows.map Antiphonref18Queue.dec).map Antiphonref18Queue.enc) : nthL rows j [.lit (.int .i64 0), .lit (.int .i64 0), .sl [] .no, .lit (.bool false)] = (nthI (rows.map Antiphonref18Queue.dec) (j : Int)).enc := nth_rowsk (f := Antiphonref18Queue.enc) rfl h j

structure Antiphonref19Flow where
  fId : Int
  fShare : Int
  fLeft : Int
instance : Inhabited Antiphonref19Flow := ⟨Antiphonref19Flow.mk 0 0 0⟩
@[simp] def Antiphonref19Flow.enc (x : Antiphonref19Flow) : List AV := [.lit (.int .i64 x.fId), .lit (.int .i64 x.fShare), .lit (.int .i64 x.fLeft)]
@[simp] def Antiphonref19Flow.dec : List AV → Antiphonref19Flow
  | [.lit (.int .i64 a0), .lit (.int .i64 a1), .lit (.int .i64 a2)] => (Antiphonref19Flow.mk a0 a1 a2)
  | _ => default
@[simp] theorem Antiphonref19Flow.eta (x : Antiphonref19Flow) : Antiphonref19Flow.mk x.fId x.fShare x.fLeft = x := by cases x; rfl
theorem Antiphonref19Flow.dec_enc (x : Antiphonref19Flow) : Antiphonref19Flow.dec x.enc = x := by simp
@[simp] theorem Antiphonref19Flow.comp : Antiphonref19Flow.dec ∘ Antiphonref19Flow.enc = id := funext Antiphonref19Flow.dec_enc
@[simp] theorem Antiphonref19Flow.comp2 : (Antiphonref19Flow.enc ∘ Antiphonref19Flow.dec) ∘ Antiphonref19Flow.enc = Antiphonref19Flow.enc := funext fun x => by simp [Function.comp]
@[simp low] theorem Antiphonref19Flow.nthk {rows : List (List AV)} (j : Nat) (h : rows = (rows.map Antiphonref19Flow.dec).map Antiphonref19Flow.enc) : nthL rows j [.lit (.int .i64 0), .lit (.int .i64 0), .lit (.int .i64 0)] = (nthI (rows.map Antiphonref19Flow.dec) (j : Int)).enc := nth_rowsk (f := Antiphonref19Flow.enc) rfl h j
structure Antiphonref19Sched where
  fMost : Int
  fL : List Antiphonref19Flow
  fAt : Int
  fGranted : Bool
instance : Inhabited Antiphonref19Sched := ⟨Antiphonref19Sched.mk 0 [] 0 false⟩
@[simp] def Antiphonref19Sched.enc (x : Antiphonref19Sched) : List AV := [.lit (.int .i64 x.fMost), .sl (x.fL.map Antiphonref19Flow.enc) .no, .lit (.int .i64 x.fAt), .lit (.bool x.fGranted)]
@[simp] def Antiphonref19Sched.dec : List AV → Antiphonref19Sched
  | [.lit (.int .i64 a0), .sl a1 _, .lit (.int .i64 a2), .lit (.bool a3)] => (Antiphonref19Sched.mk a0 (a1.map Antiphonref19Flow.dec) a2 a3)
  | _ => default
@[simp] theorem Antiphonref19Sched.eta (x : Antiphonref19Sched) : Antiphonref19Sched.mk x.fMost x.fL x.fAt x.fGranted = x := by cases x; rfl
theorem Antiphonref19Sched.dec_enc (x : Antiphonref19Sched) : Antiphonref19Sched.dec x.enc = x := by simp
@[simp] theorem Antiphonref19Sched.comp : Antiphonref19Sched.dec ∘ Antiphonref19Sched.enc = id := funext Antiphonref19Sched.dec_enc
@[simp] theorem Antiphonref19Sched.comp2 : (Antiphonref19Sched.enc ∘ Antiphonref19Sched.dec) ∘ Antiphonref19Sched.enc = Antiphonref19Sched.enc := funext fun x => by simp [Function.comp]
@[simp low] theorem Antiphonref19Sched.nthk {rows : List (List AV)} (j : Nat) (h : rows = (rows.map Antiphonref19Sched.dec).map Antiphonref19Sched.enc) : nthL rows j [.lit (.int .i64 0), .sl [] .no, .lit (.int .i64 0), .lit (.bool false)] = (nthI (rows.map Antiphonref19Sched.dec) (j : Int)).enc := nth_rowsk (f := Antiphonref19Sched.enc) rfl h j

structure Antiphonref20Flow where
  fId : Int
  fVideo : Bool
  fQ : Antiphonref18Queue
instance : Inhabited Antiphonref20Flow := ⟨Antiphonref20Flow.mk 0 false (Antiphonref18Queue.mk 0 0 [] false)⟩
@[simp] def Antiphonref20Flow.enc (x : Antiphonref20Flow) : List AV := [.lit (.int .i64 x.fId), .lit (.bool x.fVideo), .lit (.int .i64 x.fQ.fFrames), .lit (.int .i64 x.fQ.fMost), .sl (x.fQ.fL.map Antiphonref18Item.enc) .no, .lit (.bool x.fQ.fBroken)]
@[simp] def Antiphonref20Flow.dec : List AV → Antiphonref20Flow
  | [.lit (.int .i64 a0), .lit (.bool a1), .lit (.int .i64 a2), .lit (.int .i64 a3), .sl a4 _, .lit (.bool a5)] => (Antiphonref20Flow.mk a0 a1 (Antiphonref18Queue.mk a2 a3 (a4.map Antiphonref18Item.dec) a5))
  | _ => default
@[simp] theorem Antiphonref20Flow.eta (x : Antiphonref20Flow) : Antiphonref20Flow.mk x.fId x.fVideo x.fQ = x := by cases x; rfl
theorem Antiphonref20Flow.dec_enc (x : Antiphonref20Flow) : Antiphonref20Flow.dec x.enc = x := by simp
@[simp] theorem Antiphonref20Flow.comp : Antiphonref20Flow.dec ∘ Antiphonref20Flow.enc = id := funext Antiphonref20Flow.dec_enc
@[simp] theorem Antiphonref20Flow.comp2 : (Antiphonref20Flow.enc ∘ Antiphonref20Flow.dec) ∘ Antiphonref20Flow.enc = Antiphonref20Flow.enc := funext fun x => by simp [Function.comp]
@[simp low] theorem Antiphonref20Flow.nthk {rows : List (List AV)} (j : Nat) (h : rows = (rows.map Antiphonref20Flow.dec).map Antiphonref20Flow.enc) : nthL rows j [.lit (.int .i64 0), .lit (.bool false), .lit (.int .i64 0), .lit (.int .i64 0), .sl [] .no, .lit (.bool false)] = (nthI (rows.map Antiphonref20Flow.dec) (j : Int)).enc := nth_rowsk (f := Antiphonref20Flow.enc) rfl h j
structure Antiphonref20Out where
  fFrames : Int
  fBytes : Int
  fAge : Int
  fMost : Int
  fGuard : Int
  fL : List Antiphonref20Flow
  fS : Antiphonref19Sched
  fCredit : Int
  fSounds : Int
instance : Inhabited Antiphonref20Out := ⟨Antiphonref20Out.mk 0 0 0 0 0 [] (Antiphonref19Sched.mk 0 [] 0 false) 0 0⟩
@[simp] def Antiphonref20Out.enc (x : Antiphonref20Out) : List AV := [.lit (.int .i64 x.fFrames), .lit (.int .i64 x.fBytes), .lit (.int .i64 x.fAge), .lit (.int .i64 x.fMost), .lit (.int .i64 x.fGuard), .sl (x.fL.map Antiphonref20Flow.enc) .no, .lit (.int .i64 x.fS.fMost), .sl (x.fS.fL.map Antiphonref19Flow.enc) .no, .lit (.int .i64 x.fS.fAt), .lit (.bool x.fS.fGranted), .lit (.int .i64 x.fCredit), .lit (.int .i64 x.fSounds)]
@[simp] def Antiphonref20Out.dec : List AV → Antiphonref20Out
  | [.lit (.int .i64 a0), .lit (.int .i64 a1), .lit (.int .i64 a2), .lit (.int .i64 a3), .lit (.int .i64 a4), .sl a5 _, .lit (.int .i64 a6), .sl a7 _, .lit (.int .i64 a8), .lit (.bool a9), .lit (.int .i64 a10), .lit (.int .i64 a11)] => (Antiphonref20Out.mk a0 a1 a2 a3 a4 (a5.map Antiphonref20Flow.dec) (Antiphonref19Sched.mk a6 (a7.map Antiphonref19Flow.dec) a8 a9) a10 a11)
  | _ => default
@[simp] theorem Antiphonref20Out.eta (x : Antiphonref20Out) : Antiphonref20Out.mk x.fFrames x.fBytes x.fAge x.fMost x.fGuard x.fL x.fS x.fCredit x.fSounds = x := by cases x; rfl
theorem Antiphonref20Out.dec_enc (x : Antiphonref20Out) : Antiphonref20Out.dec x.enc = x := by simp
@[simp] theorem Antiphonref20Out.comp : Antiphonref20Out.dec ∘ Antiphonref20Out.enc = id := funext Antiphonref20Out.dec_enc
@[simp] theorem Antiphonref20Out.comp2 : (Antiphonref20Out.enc ∘ Antiphonref20Out.dec) ∘ Antiphonref20Out.enc = Antiphonref20Out.enc := funext fun x => by simp [Function.comp]
@[simp low] theorem Antiphonref20Out.nthk {rows : List (List AV)} (j : Nat) (h : rows = (rows.map Antiphonref20Out.dec).map Antiphonref20Out.enc) : nthL rows j [.lit (.int .i64 0), .lit (.int .i64 0), .lit (.int .i64 0), .lit (.int .i64 0), .lit (.int .i64 0), .sl [] .no, .lit (.int .i64 0), .sl [] .no, .lit (.int .i64 0), .lit (.bool false), .lit (.int .i64 0), .lit (.int .i64 0)] = (nthI (rows.map Antiphonref20Out.dec) (j : Int)).enc := nth_rowsk (f := Antiphonref20Out.enc) rfl h j

structure Antiphonref20Sent where
  fId : Int
  fItem : Antiphonref18Item
instance : Inhabited Antiphonref20Sent := ⟨Antiphonref20Sent.mk 0 (Antiphonref18Item.mk 0 0 0 false)⟩
@[simp] def Antiphonref20Sent.enc (x : Antiphonref20Sent) : List AV := [.lit (.int .i64 x.fId), .lit (.int .i64 x.fItem.fN), .lit (.int .i64 x.fItem.fSize), .lit (.int .i64 x.fItem.fTick), .lit (.bool x.fItem.fKey)]
@[simp] def Antiphonref20Sent.dec : List AV → Antiphonref20Sent
  | [.lit (.int .i64 a0), .lit (.int .i64 a1), .lit (.int .i64 a2), .lit (.int .i64 a3), .lit (.bool a4)] => (Antiphonref20Sent.mk a0 (Antiphonref18Item.mk a1 a2 a3 a4))
  | _ => default
@[simp] theorem Antiphonref20Sent.eta (x : Antiphonref20Sent) : Antiphonref20Sent.mk x.fId x.fItem = x := by cases x; rfl
theorem Antiphonref20Sent.dec_enc (x : Antiphonref20Sent) : Antiphonref20Sent.dec x.enc = x := by simp
@[simp] theorem Antiphonref20Sent.comp : Antiphonref20Sent.dec ∘ Antiphonref20Sent.enc = id := funext Antiphonref20Sent.dec_enc
@[simp] theorem Antiphonref20Sent.comp2 : (Antiphonref20Sent.enc ∘ Antiphonref20Sent.dec) ∘ Antiphonref20Sent.enc = Antiphonref20Sent.enc := funext fun x => by simp [Function.comp]
@[simp] theorem Antiphonref20Sent.bel (l : List Antiphonref20Sent) (n : Nat) : belLL n (l.map Antiphonref20Sent.enc) := bel_map (fun x => by simp) l
@[simp] theorem Antiphonref20Sent.ren (σ : Nat → Nat) (l : List Antiphonref20Sent) : renLL σ (l.map Antiphonref20Sent.enc) = l.map Antiphonref20Sent.enc := ren_map (fun x => by simp) l
@[simp low] theorem Antiphonref20Sent.nthk {rows : List (List AV)} (j : Nat) (h : rows = (rows.map Antiphonref20Sent.dec).map Antiphonref20Sent.enc) : nthL rows j [.lit (.int .i64 0), .lit (.int .i64 0), .lit (.int .i64 0), .lit (.int .i64 0), .lit (.bool false)] = (nthI (rows.map Antiphonref20Sent.dec) (j : Int)).enc := nth_rowsk (f := Antiphonref20Sent.enc) rfl h j

structure EgressConfig where
  fFrames : Int
  fBytes : Int
  fAge : Int
  fMost : Int
  fGuard : Int
instance : Inhabited EgressConfig := ⟨EgressConfig.mk 0 0 0 0 0⟩
@[simp] def EgressConfig.enc (x : EgressConfig) : List AV := [.lit (.int .i64 x.fFrames), .lit (.int .i64 x.fBytes), .lit (.int .i64 x.fAge), .lit (.int .i64 x.fMost), .lit (.int .i64 x.fGuard)]
@[simp] def EgressConfig.dec : List AV → EgressConfig
  | [.lit (.int .i64 a0), .lit (.int .i64 a1), .lit (.int .i64 a2), .lit (.int .i64 a3), .lit (.int .i64 a4)] => (EgressConfig.mk a0 a1 a2 a3 a4)
  | _ => default
@[simp] theorem EgressConfig.eta (x : EgressConfig) : EgressConfig.mk x.fFrames x.fBytes x.fAge x.fMost x.fGuard = x := by cases x; rfl
theorem EgressConfig.dec_enc (x : EgressConfig) : EgressConfig.dec x.enc = x := by simp
@[simp] theorem EgressConfig.comp : EgressConfig.dec ∘ EgressConfig.enc = id := funext EgressConfig.dec_enc
@[simp] theorem EgressConfig.comp2 : (EgressConfig.enc ∘ EgressConfig.dec) ∘ EgressConfig.enc = EgressConfig.enc := funext fun x => by simp [Function.comp]
@[simp low] theorem EgressConfig.nthk {rows : List (List AV)} (j : Nat) (h : rows = (rows.map EgressConfig.dec).map EgressConfig.enc) : nthL rows j [.lit (.int .i64 0), .lit (.int .i64 0), .lit (.int .i64 0), .lit (.int .i64 0), .lit (.int .i64 0)] = (nthI (rows.map EgressConfig.dec) (j : Int)).enc := nth_rowsk (f := EgressConfig.enc) rfl h j

structure EgressFlow where
  fQueue : QueueQueue
  fVideo : Bool
instance : Inhabited EgressFlow := ⟨EgressFlow.mk (QueueQueue.mk 0 0 [] 0 false) false⟩
@[simp] def EgressFlow.dec : List AV → QueueQueue → EgressFlow
  | [.ptr _ _, .lit (.bool a1)], a0 => (EgressFlow.mk a0 a1)
  | _, _ => default
@[simp] theorem EgressFlow.eta (x : EgressFlow) : EgressFlow.mk x.fQueue x.fVideo = x := by cases x; rfl
@[simp] def EgressFlow.mem (x : EgressFlow) : List AObj := [.blk [.lit (.int .i64 x.fQueue.fFrames), .lit (.int .i64 x.fQueue.fMost), .sl (x.fQueue.fL.map Antiphonref18Item.enc) .no, .lit (.int .i64 x.fQueue.fSize), .lit (.bool x.fQueue.fBroken)]]
@[simp] def EgressFlow.val (x : EgressFlow) : AV := (.agg [.ptr 0 0, .lit (.bool x.fVideo)])
def EgressFlow.fl (x : EgressFlow) : AV := .agg [(vA QueueQueue.enc) x.fQueue, kB x.fVideo]
def EgressFlow.dfl (v : AV) : EgressFlow := (EgressFlow.mk ((dvA QueueQueue.dec) (nthF v 0)) (dkB (nthF v 1)))
@[simp] theorem EgressFlow.dfl_fl (x : EgressFlow) : EgressFlow.dfl (EgressFlow.fl x) = x := by simp [EgressFlow.dfl, EgressFlow.fl, nthF]
@[simp] def EgressFlow.own (kk : IntKind) (rows : List (Int × EgressFlow)) (hole : Option Value) : Own := ownP (intKey kk) (Value.int kk) EgressFlow.fl EgressFlow.mem EgressFlow.val rows hole
@[simp] theorem EgressFlow.mdec (kk : IntKind) (m : List (Int × EgressFlow)) : decM dkI EgressFlow.dfl (encM (kI kk) EgressFlow.fl m) = m := decM_encM (fun _ => rfl) EgressFlow.dfl_fl m

structure EgressOut where
  fConfig : EgressConfig
  fFlows : List (Int × EgressFlow)
  fSched : DrrSched
  fCredit : Int
  fSounds : Int
instance : Inhabited EgressOut := ⟨EgressOut.mk (EgressConfig.mk 0 0 0 0 0) [] (DrrSched.mk 0 [] [] 0 false) 0 0⟩
@[simp] def EgressOut.enc (x : EgressOut) (i0 : Nat) (i1 : Nat) : List AV := [.lit (.int .i64 x.fConfig.fFrames), .lit (.int .i64 x.fConfig.fBytes), .lit (.int .i64 x.fConfig.fAge), .lit (.int .i64 x.fConfig.fMost), .lit (.int .i64 x.fConfig.fGuard), .mp i0, .ptr i1 0, .lit (.int .i64 x.fCredit), .lit (.int .i64 x.fSounds)]
@[simp] def EgressOut.dec : List AV → (List (Int × EgressFlow)) → DrrSched → EgressOut
  | [.lit (.int .i64 a0), .lit (.int .i64 a1), .lit (.int .i64 a2), .lit (.int .i64 a3), .lit (.int .i64 a4), .mp _, .ptr _ _, .lit (.int .i64 a7), .lit (.int .i64 a8)], a5, a6 => (EgressOut.mk (EgressConfig.mk a0 a1 a2 a3 a4) a5 a6 a7 a8)
  | _, _, _ => default
@[simp] theorem EgressOut.eta (x : EgressOut) : EgressOut.mk x.fConfig x.fFlows x.fSched x.fCredit x.fSounds = x := by cases x; rfl

structure Antiphonlaw20State where
  fO : EgressOut
  fX : Antiphonref20Out
  fNow : Int
  fN : Int
instance : Inhabited Antiphonlaw20State := ⟨Antiphonlaw20State.mk (EgressOut.mk (EgressConfig.mk 0 0 0 0 0) [] (DrrSched.mk 0 [] [] 0 false) 0 0) (Antiphonref20Out.mk 0 0 0 0 0 [] (Antiphonref19Sched.mk 0 [] 0 false) 0 0) 0 0⟩
structure Antiphonlaw20Act where
  fKind : Int
  fId : Int
  fN : Int
  fKey : Bool
  fVideo : Bool
instance : Inhabited Antiphonlaw20Act := ⟨Antiphonlaw20Act.mk 0 0 0 false false⟩
@[simp] def Antiphonlaw20Act.enc (x : Antiphonlaw20Act) : List AV := [.lit (.int .i64 x.fKind), .lit (.int .i64 x.fId), .lit (.int .i64 x.fN), .lit (.bool x.fKey), .lit (.bool x.fVideo)]
@[simp] def Antiphonlaw20Act.dec : List AV → Antiphonlaw20Act
  | [.lit (.int .i64 a0), .lit (.int .i64 a1), .lit (.int .i64 a2), .lit (.bool a3), .lit (.bool a4)] => (Antiphonlaw20Act.mk a0 a1 a2 a3 a4)
  | _ => default
@[simp] theorem Antiphonlaw20Act.eta (x : Antiphonlaw20Act) : Antiphonlaw20Act.mk x.fKind x.fId x.fN x.fKey x.fVideo = x := by cases x; rfl
theorem Antiphonlaw20Act.dec_enc (x : Antiphonlaw20Act) : Antiphonlaw20Act.dec x.enc = x := by simp
@[simp] theorem Antiphonlaw20Act.comp : Antiphonlaw20Act.dec ∘ Antiphonlaw20Act.enc = id := funext Antiphonlaw20Act.dec_enc
@[simp] theorem Antiphonlaw20Act.comp2 : (Antiphonlaw20Act.enc ∘ Antiphonlaw20Act.dec) ∘ Antiphonlaw20Act.enc = Antiphonlaw20Act.enc := funext fun x => by simp [Function.comp]
@[simp low] theorem Antiphonlaw20Act.nthk {rows : List (List AV)} (j : Nat) (h : rows = (rows.map Antiphonlaw20Act.dec).map Antiphonlaw20Act.enc) : nthL rows j [.lit (.int .i64 0), .lit (.int .i64 0), .lit (.int .i64 0), .lit (.bool false), .lit (.bool false)] = (nthI (rows.map Antiphonlaw20Act.dec) (j : Int)).enc := nth_rowsk (f := Antiphonlaw20Act.enc) rfl h j
end Go.Ab
