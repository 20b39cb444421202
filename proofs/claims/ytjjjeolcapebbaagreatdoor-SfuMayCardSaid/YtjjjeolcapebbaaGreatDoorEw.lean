/- Runs on fixed data, reckoned. No condition: over any program. -/
import Derived.Test.YtjjjeolcapebbaaGreatDoorEo
namespace Go.Ab

def pickX (A : Env) (t : Nat) (a b : Operand) : Option (AV × Option (List AObj)) := match ent A t with
  | some (none, .lit (.bool true)) => (evX A [] a).map fun v => (v, none)
  | some (none, .lit (.bool false)) => (evX A [] b).map fun v => (v, none)
  | _ => none
def opX (ty : TyTab) (Γ : Gam) (A : Env) (M : List AObj) (o : Oper) : Option (AV × Option (List AObj)) := match evOp ty Γ A [] M o with
  | some out => if obB ty A [] M o then some (out.av, out.M) else none
  | none => none
def doX (ty : TyTab) (Γ : Gam) (A : Env) (M : List AObj) (o : Oper) : Option (AV × Option (List AObj)) := match o.op with
  | .pick (.tmp t) a b => pickX A t a b
  | _ => opX ty Γ A M o
def oneX (ty : TyTab) (Γ : Gam) (ops : Array Oper) (A : Env) (M : List AObj) (o : Oper) : Option (AV × Option (List AObj)) := match tagOf ops o with
  | none => none
  | some none => doX ty Γ A M o
  | some (some (t, b)) => if isU A t then some (.lit undef, none) else match ent A t with
    | some (none, .lit (.bool p)) => if p == b then doX ty Γ A M o else some (.lit undef, none)
    | _ => none
def runX (ty : TyTab) (Γ : Gam) (ops : Array Oper) : List Oper → Env → List AObj → Option (Env × List AObj)
  | [], A, M => some (A, M)
  | o :: r, A, M => match oneX ty Γ ops A M o with
    | some (av, M') => runX ty Γ ops r (putE A o.dst none av) (M'.getD M)
    | none => none

def holdsB (A : Env) : List (Nat × Bool) → Bool → Bool
  | [], q => q
  | (t, b) :: r, q => match ent A t with
    | some (_, .lit (.bool p)) => if p == b then holdsB A r q else true
    | _ => holdsB A r q
def oblB (ty : TyTab) : List Oper → List Rec → Bool
  | o :: r, c :: s => holdsB c.A c.vs (obB ty c.A c.vs c.M o) && oblB ty r s
  | _, _ => true

/-- What a run goes by: the functions' texts, contracts; wr: the types that are Writers, and of what their bytes are; rd: functions that may only read. -/
structure EvT where
  ty : TyTab
  look : FuncId → Option Func
  lib : Gam
  wr : TypeId → Option TypeId := fun _ => none
  rd : FuncId → Bool := fun _ => false

def flatA : Nat → AV → Bool
  | 0, _ => false
  | n + 1, av => match av with
    | .lit _ => true
    | .agg l => l.all (flatA n)
    | .tup l => l.all (flatA n)
    | .sl els .no => els.all fun q => q.all (flatA n)
    | .sl els .nn => els.all fun q => q.all (flatA n)
    | .sl els .full => els.all fun q => q.all (flatA n)
    | .iface _ v => flatA n v
    | .cptr l => l.all (flatA n)
    | _ => false

def resX (ty : TyTab) (A : Env) (M : List AObj) : List ResultVar → Option (List AV)
  | [] => some []
  | .tmp t :: r => match getE A [] t, resX ty A M r with
    | some v, some l => some (v :: l)
    | _, _ => none
  | .cell a t :: r => match ty t, getE A [] a, resX ty A M r with
    | some i, some x, some l => match loadOut i M x with
      | some o => if loadB i M x then some (o.av :: l) else none
      | none => none
    | _, _, _ => none

def unmap : AObj → AObj
  | .mapr es _ _ _ => .mapo es
  | o => o
def isMapr : AObj → Bool
  | .mapr _ _ _ _ => true
  | _ => false
/-- No map is ranged over any more that was not so at first. -/
def unmapZ : List AObj → List AObj → List AObj
  | _, [] => []
  | [], o :: r => unmap o :: unmapZ [] r
  | o0 :: r0, o :: r => (if isMapr o0 then o else unmap o) :: unmapZ r0 r
def unmapM (M0 M : List AObj) : List AObj := if M.any isMapr then unmapZ M0 M else M
def bodyX (T : EvT) (run : Nat → Code → St → Option (Exit × St)) (fn : Func) (l : List AV) (M : List AObj) : Option (AV × List AObj) :=
  match fn.body with
  | some c => if l.length ≤ fn.ntmps then match run fn.ntmps c ⟨argsE 0 l, M⟩ with
    | some (.normal, σ) => (resX T.ty σ.A σ.M fn.results.toList).map fun vs => (resV vs, unmapM M σ.M)
    | some (.ret, σ) => (resX T.ty σ.A σ.M fn.results.toList).map fun vs => (resV vs, unmapM M σ.M)
    | _ => none else none
  | none => none
def callX (T : EvT) (run : Nat → Code → St → Option (Exit × St)) : Gam := fun f l M =>
  match T.lib f l M with
  | some o => some o
  | none => match T.look f with
    | some fn => if l.all (flatA 8) then match bodyX T run fn l [] with
        | some (av, M') => if flatA 8 av then some { av := av } else some { av := av.ren (into [] 0 M.length), M := some (M ++ M'.map (AObj.ren (into [] 0 M.length))) }
        | none => none
      else (bodyX T run fn l M).map fun p => if T.rd f && memE p.2 M && belB M.length 12 p.1 then { av := p.1 } else { av := p.1, M := some p.2 }
    | none => none

end Go.Ab
