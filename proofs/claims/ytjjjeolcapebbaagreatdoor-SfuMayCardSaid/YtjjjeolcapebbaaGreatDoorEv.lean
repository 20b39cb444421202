/- What an operation asks, as a Bool: for runs on fixed data. No condition: over any program. -/
import Derived.Test.YtjjjeolcapebbaaGreatDoorAb9
namespace Go.Ab

def lensB (n : Nat) (els : List (List AV)) : Bool := els.all fun q => q.length == n
theorem lensB_spec {n : Nat} {els : List (List AV)} (h : lensB n els = true) : ∀ q ∈ els, q.length = n := fun q hq => by simpa using List.all_eq_true.1 h q hq

def binB (op : BinOp) : AV → AV → Bool
  | .lit (.int _ _), .lit (.int _ b) => match op with
    | .quo => decide (b ≠ 0)
    | .rem => decide (b ≠ 0)
    | .shl => decide (0 ≤ b)
    | .shr => decide (0 ≤ b)
    | _ => true
  | .lit (.string a), .lit (.string b) => match op with
    | .add => decide (CatB a b)
    | _ => true
  | _, _ => true
theorem intB_spec {op : BinOp} {k k' : IntKind} {a b : Int} {o : Out} (h : intOut op k a b = some o) (hb : binB op (.lit (.int k a)) (.lit (.int k' b)) = true) : o.obl := by
  cases op <;> simp only [intOut, Option.some.injEq, reduceCtorEq] at h <;> subst h <;> first | trivial | exact of_decide_eq_true hb
theorem shiftB_spec {op : BinOp} {k k' : IntKind} {a b : Int} {o : Out} (h : shiftOut op k a b = some o) (hb : binB op (.lit (.int k a)) (.lit (.int k' b)) = true) : o.obl := by
  cases op <;> simp only [shiftOut, Option.some.injEq, reduceCtorEq] at h <;> subst h <;> first | trivial | exact of_decide_eq_true hb
theorem strB_spec {op : BinOp} {a b : ByteArray} {o : Out} (h : strOut op a b = some o) (hb : binB op (.lit (.string a)) (.lit (.string b)) = true) : o.obl := by
  cases op <;> simp only [strOut, Option.some.injEq, reduceCtorEq] at h <;> subst h <;> first | trivial | exact of_decide_eq_true hb
theorem binB_spec {kx : TyK} {op : BinOp} {x y : AV} {o : Out} (h : binOut kx op x y = some o) (hb : binB op x y = true) : o.obl := by
  unfold binOut at h
  split at h
  · split at h
    · exact shiftB_spec h hb
    · split at h
      · exact intB_spec h hb
      · cases h
  · exact strB_spec h hb
  · split at h <;> first | cases h; trivial | cases h
  · split at h <;> first | cases h; trivial | cases h
  · split at h <;> first | cases h; trivial | cases h
  · cases h
theorem binB2_spec {ty : TyTab} {t : TypeId} {i : TyI} {op : BinOp} {x y : AV} {o : Out} (h : binOut2 ty t i op x y = some o) (hb : binB op x y = true) : o.obl := by
  unfold binOut2 at h
  split at h
  · split at h
    · split at h
      · obtain ⟨p, _, rfl⟩ := Option.map_eq_some_iff.1 h; trivial
      · obtain ⟨p, _, rfl⟩ := Option.map_eq_some_iff.1 h; trivial
      · cases h
    · cases h
  · exact binB_spec h hb
theorem nilIB_spec {k : TyK} {op : BinOp} {x : AV} {o : Out} (h : nilIOut k op x = some o) : o.obl := by
  unfold nilIOut at h
  split at h <;> first | cases h; trivial | cases h
theorem nilCmpB_spec {k : TyK} {op : BinOp} {x : AV} {o : Out} (h : nilCmpOut k op x = some o) : o.obl := by
  unfold nilCmpOut at h
  split at h <;> first | cases h; trivial | cases h
theorem unB_spec {op : UnOp} {x : AV} {o : Out} (h : unOut op x = some o) : o.obl := by
  unfold unOut at h
  split at h <;> first | cases h; trivial | cases h
theorem nilB_spec {x : AV} {o : Out} (h : nilOut x = some o) : o.obl := by
  unfold nilOut at h
  split at h <;> first | cases h; trivial | cases h
theorem fieldAddrB_spec {off : Nat} {x : AV} {o : Out} (h : fieldAddrOut off x = some o) : o.obl := by
  unfold fieldAddrOut at h
  split at h <;> first | cases h; trivial | cases h

def fillB (place : Nat → Option (Nat × Nat)) (cells : List AV) : List (Nat × AV) → Bool
  | [] => true
  | (i, v) :: rest => match place i with
    | some (off, size) => v.var && (v.cellsOf.length == size) && decide (off + v.cellsOf.length ≤ cells.length) && fillB place (splice cells off v.cellsOf) rest
    | none => true
theorem fillB_spec {place : Nat → Option (Nat × Nat)} : ∀ {l : List (Nat × AV)} {cells cs : List AV} {p : Prop}, fillL place cells l = some (cs, p) → fillB place cells l = true → p
  | [], _, _, _, h, _ => by cases h; trivial
  | (i, v) :: rest, cells, cs, p, h, hb => by
    unfold fillL at h
    unfold fillB at hb
    split at h
    · rename_i off size hp
      rw [hp] at hb
      simp only [Bool.and_eq_true, beq_iff_eq, decide_eq_true_eq] at hb
      split at h
      · rename_i cs' p' hr
        cases h
        exact ⟨⟨hb.1.1.1, hb.1.1.2, hb.1.2⟩, fillB_spec hr hb.2⟩
      · cases h
    · cases h
def buildB (ty : TyTab) (i : TyI) (parts : List (Nat × AV)) : Bool := match i.k with
  | .struct fs => match structPlaces ty fs with
    | some pl => fillB (pl[·]?) (zTok i.zero) parts
    | none => true
  | .arr _ e => match ty e with
    | some ie => fillB (fun j => some (j * ie.size, ie.size)) i.zero parts
    | none => true
  | _ => true
theorem buildB_spec {ty : TyTab} {i : TyI} {parts : List (Nat × AV)} {o : Out} (h : buildOut ty i parts = some o) (hb : buildB ty i parts = true) : o.obl := by
  unfold buildOut at h
  unfold buildB at hb
  split at h
  · rename_i fs hk
    rw [hk] at hb
    simp only at hb
    split at h
    · rename_i pl hp
      rw [hp] at hb
      split at h
      · rename_i cs p hf; cases h; exact fillB_spec hf hb
      · cases h
    · cases h
  · rename_i n e hk
    rw [hk] at hb
    simp only at hb
    split at h
    · rename_i ie hp
      rw [hp] at hb
      split at h
      · rename_i cs p hf; cases h; exact fillB_spec hf hb
      · cases h
    · cases h
  · cases h
def buildSliceB (ie : TyI) (len : Nat) (parts : List (Nat × AV)) : Bool :=
  fillB (fun i => some (i * ie.size, ie.size)) (zeros (len * ie.size) ie.zero) parts && decide (len * ie.size ≤ 16777216) && (ie.zero.length == ie.size) && (match fillL (fun i => some (i * ie.size, ie.size)) (zeros (len * ie.size) ie.zero) parts with
    | some (cs, _) => cs.length == len * ie.size
    | none => true)
theorem buildSliceB_spec {ie : TyI} {len : Nat} {parts : List (Nat × AV)} {o : Out} (h : buildSliceOut ie len parts = some o) (hb : buildSliceB ie len parts = true) : o.obl := by
  unfold buildSliceOut at h
  unfold buildSliceB at hb
  simp only [Bool.and_eq_true, beq_iff_eq, decide_eq_true_eq] at hb
  obtain ⟨⟨⟨h1, h2⟩, h3⟩, h4⟩ := hb
  split at h
  · rename_i cs p hf
    rw [hf] at h4
    cases h
    exact ⟨fillB_spec hf h1, h2, by simpa using h4, h3⟩
  · cases h

def loadB (i : TyI) (M : List AObj) (x : AV) : Bool := match peek M x with
  | some cs => if i.k.agg then decide (i.size ≤ cs.length) else decide (0 < cs.length)
  | none => true
theorem loadB_spec {i : TyI} {M : List AObj} {x : AV} {o : Out} (h : loadOut i M x = some o) (hb : loadB i M x = true) : o.obl := by
  unfold loadOut at h
  unfold loadB at hb
  split at h
  · rename_i cs hp
    rw [hp] at hb
    simp only at hb
    split at h
    · rename_i hk; rw [if_pos hk] at hb; cases h; exact of_decide_eq_true hb
    · rename_i hk; rw [if_neg hk] at hb; cases h; exact of_decide_eq_true hb
  · cases h
def storeB (i : TyI) (M : List AObj) (x v : AV) : Bool := v.var && (v.cellsOf.length == i.size) && match x with
  | .ptr k off => match M[k]? with
    | some (.blk cells) => decide (off + v.cellsOf.length ≤ cells.length)
    | _ => true
  | .aptr k idx off _ => match M[k]? with
    | some (.arr _ els) => decide (idx < els.length) && decide (off + v.cellsOf.length ≤ (rowAt els idx).length)
    | _ => true
  | _ => true
theorem storeB_spec {i : TyI} {M : List AObj} {x v : AV} {o : Out} (h : storeOut i M x v = some o) (hb : storeB i M x v = true) : o.obl := by
  unfold storeB at hb
  simp only [Bool.and_eq_true, beq_iff_eq] at hb
  obtain ⟨⟨h1, h2⟩, h3⟩ := hb
  unfold storeOut at h
  split at h
  · split at h
    · rename_i cells hM
      simp only [hM] at h3
      cases h
      exact ⟨h1, h2, of_decide_eq_true h3⟩
    · cases h
  · split at h
    · rename_i z' els hM
      simp only [hM, Bool.and_eq_true, decide_eq_true_eq] at h3
      split at h
      · cases h; exact ⟨h1, h2, h3.1, h3.2⟩
      · cases h
    · cases h
  · cases h
def fieldB (fi : TyI) (off : Nat) : AV → Bool
  | .agg cs => if fi.k.agg then decide (off + fi.size ≤ cs.length) else decide (off < cs.length)
  | _ => true
theorem fieldB_spec {fi : TyI} {off : Nat} {x : AV} {o : Out} (h : fieldOut fi off x = some o) (hb : fieldB fi off x = true) : o.obl := by
  unfold fieldOut at h
  split at h
  · unfold fieldB at hb
    simp only at hb
    split at h
    · rename_i hk; rw [if_pos hk] at hb; cases h; exact of_decide_eq_true hb
    · rename_i hk; rw [if_neg hk] at hb; cases h; exact of_decide_eq_true hb
  · cases h
def indexAddrB (ie : TyI) : AV → AV → Bool
  | .sl els _, .lit (.int _ n) => decide (InB n (lenL els)) && ((nthL els n.toNat (ie.zero.map noTok)).length == ie.size)
  | .slb _ m, .lit (.int _ n) => decide (InB n m)
  | .asl _ m _, .lit (.int _ n) => decide (InB n m)
  | _, _ => true
def arrB (k : TyK) : AV → AV → Bool
  | .ptr _ _, .lit (.int _ n) => match k with
    | .arr len _ => decide (InB n len)
    | _ => true
  | _, _ => true
theorem indexAddrB_spec {k : TyK} {ie : TyI} {x ix : AV} {o : Out} (h : indexAddrOut k ie x ix = some o) (hb : indexAddrB ie x ix = true) (ha : arrB k x ix = true) : o.obl := by
  unfold indexAddrOut at h
  split at h
  · simp only [indexAddrB, Bool.and_eq_true, beq_iff_eq, decide_eq_true_eq] at hb; cases h; exact hb
  · simp only [arrB, decide_eq_true_eq] at ha; cases h; exact ha
  · simp only [indexAddrB, decide_eq_true_eq] at hb; cases h; exact hb
  · simp only [indexAddrB, decide_eq_true_eq] at hb
    split at h
    · cases h; exact hb
    · cases h
  · cases h
def indexB : AV → AV → Bool
  | .lit (.string s), .lit (.int _ n) => decide (InB n (lenS s))
  | _, _ => true
theorem indexB_spec {k : TyK} {x ix : AV} {o : Out} (h : indexOut k x ix = some o) (hb : indexB x ix = true) : o.obl := by
  unfold indexOut at h
  split at h
  · simp only [indexB, decide_eq_true_eq] at hb; cases h; exact hb
  · cases h
def cutB (l h n : Option Int) : Bool := match l, h, n with
  | some l, some h, some n => decide (CutB l h n)
  | _, _, _ => true
def sliceB (size : Nat) (x : AV) (lo hi mx : Option AV) : Bool := match x with
  | .lit (.string s) => cutB (optInt 0 lo) (optInt (lenS s) hi) (some (lenS s))
  | .sl els _ => cutB (optInt 0 lo) (optInt (lenL els) hi) (some (lenL els)) && lensB size els && (match mx with
    | some (.lit (.int _ m)) => hi.isSome && (match optInt (lenL els) hi with | some h => decide (m = h) | none => true)
    | _ => true)
  | _ => true
theorem sliceB_spec {k : TyK} {size : Nat} {x : AV} {lo hi mx : Option AV} {o : Out} (h : sliceOut k size x lo hi mx = some o) (hb : sliceB size x lo hi mx = true) : o.obl := by
  unfold sliceOut at h
  split at h
  · split at h
    · rename_i h1 h2
      simp only [sliceB, cutB, h1, h2, decide_eq_true_eq] at hb
      cases h; exact hb
    · cases h
  · split at h
    · rename_i h1 h2
      simp only [sliceB, cutB, h1, h2, Bool.and_eq_true, decide_eq_true_eq] at hb
      cases h; exact ⟨hb.1.1, lensB_spec hb.1.2⟩
    · rename_i h1 h2
      simp only [sliceB, cutB, h1, h2, Bool.and_eq_true, decide_eq_true_eq] at hb
      cases h; exact ⟨hb.1.1, hb.2.2, hb.2.1, lensB_spec hb.1.2⟩
    · cases h
  · cases h
def makeB (ie : TyI) : AV → AV → Bool
  | .lit (.int _ n), .lit (.int _ m) => decide (RepB n m ie.bytes) && (ie.zero.length == ie.size)
  | _, _ => true
theorem makeB_spec {ie : TyI} {l c : AV} {o : Out} (h : makeOut ie l c = some o) (hb : makeB ie l c = true) : o.obl := by
  unfold makeOut at h
  split at h
  · simp only [makeB, Bool.and_eq_true, decide_eq_true_eq, beq_iff_eq] at hb; cases h; exact hb
  · cases h
def makeCB (ie : TyI) : AV → AV → Bool
  | .lit (.int _ n), .lit (.int _ m) => decide (n = 0) && decide (RepB m m ie.bytes) && (ie.zero.length == ie.size)
  | _, _ => true
theorem makeCB_spec {ie : TyI} {M : List AObj} {l c : AV} {o : Out} (h : makeOutC ie M l c = some o) (hb : makeCB ie l c = true) : o.obl := by
  unfold makeOutC at h
  split at h
  · simp only [makeCB, Bool.and_eq_true, decide_eq_true_eq, beq_iff_eq] at hb; cases h; exact ⟨hb.1.1, hb.1.2, hb.2⟩
  · cases h
theorem same_zero {l c : Operand} (h : sameO l c = true) : ¬ zeroO l c = true := by
  unfold sameO at h
  split at h
  · simp [zeroO]
  · cases h
theorem makeBB_spec {ie : TyI} {M : List AObj} {l c : AV} {o : Out} (h : makeOutB ie M l c = some o) (hb : makeB ie l c = true) : o.obl := by
  unfold makeOutB at h
  split at h
  · simp only [makeB, Bool.and_eq_true, decide_eq_true_eq, beq_iff_eq] at hb
    split at h
    · rename_i hs; cases h; exact ⟨hb.1, hb.2, hs⟩
    · cases h; exact ⟨hb.1, hb.2⟩
  · cases h
def numsB (k : IntKind) (els : List (List AV)) : Bool := els.all fun
  | [.lit (.int k' _)] => decide (k' = k)
  | _ => false
theorem numsB_spec {k : IntKind} {els : List (List AV)} (h : numsB k els = true) : ∀ e ∈ els, ∃ n, e = [.lit (.int k n)] := fun e he => by
  have := List.all_eq_true.1 h e he
  split at this
  · rename_i k' n; have := of_decide_eq_true this; subst this; exact ⟨n, rfl⟩
  · cases this
def convB (ty : TyTab) (ks kd : TyK) (x : AV) : Bool := match ks, kd, x with
  | .slice e, .str, .sl els _ => match ty e with
    | some ie => match ie.k with
      | .int k => numsB k els
      | _ => true
    | none => true
  | _, _, _ => true
theorem convB_spec {ty : TyTab} {ks kd : TyK} {x : AV} {o : Out} (h : convAll ty ks kd x = some o) (hb : convB ty ks kd x = true) : o.obl := by
  unfold convAll at h
  split at h
  · split at h
    · split at h
      · unfold bytesOut at h
        split at h
        · cases h; trivial
        · cases h
      · cases h
    · cases h
  · split at h
    · rename_i e ie hie
      split at h
      · rename_i hk
        unfold strOut2 at h
        split at h
        · simp only [convB, hie, hk] at hb; cases h; exact numsB_spec hb
        · cases h
      · rename_i hk
        unfold runesOut at h
        split at h
        · simp only [convB, hie, hk] at hb; cases h; exact numsB_spec hb
        · cases h
      · cases h
    · cases h
  · unfold convOut at h
    split at h <;> first | cases h; trivial | cases h
def notOwn (M : List AObj) : AV → Bool
  | .mp i => match M[i]? with
    | some (.own _ _) => false
    | _ => true
  | _ => true
theorem lookupB_spec {kt : TyK} {ie : TyI} {M : List AObj} {x k : AV} {ok : Bool} {o : Out} (h : lookupOut kt ie M x k ok = some o) (hb : notOwn M x = true) : o.obl := by
  unfold lookupOut at h
  split at h
  · split at h
    · split at h
      · obtain ⟨b, _, rfl⟩ := Option.map_eq_some_iff.1 h; trivial
      · cases h
    · rename_i hM; simp [notOwn, hM] at hb
    · rename_i hM; simp [notOwn, hM] at hb
    · cases h
  · cases h
theorem mapSetB_spec {kt : TyK} {M : List AObj} {x k v : AV} {o : Out} (h : mapSetOut kt M x k v = some o) (hb : notOwn M x = true) : o.obl := by
  unfold mapSetOut at h
  split at h
  · split at h
    · split at h
      · obtain ⟨b, _, rfl⟩ := Option.map_eq_some_iff.1 h; trivial
      · cases h
    · rename_i hM; simp [notOwn, hM] at hb
    · cases h
  · cases h
theorem mapDelB_spec {kt : TyK} {M : List AObj} {x k : AV} {o : Out} (h : mapDelOut kt M x k = some o) (hb : notOwn M x = true) : o.obl := by
  unfold mapDelOut at h
  split at h
  · split at h
    · split at h
      · obtain ⟨b, _, rfl⟩ := Option.map_eq_some_iff.1 h; trivial
      · cases h
    · split at h
      · obtain ⟨b, _, rfl⟩ := Option.map_eq_some_iff.1 h; trivial
      · cases h
    · rename_i hM; simp [notOwn, hM] at hb
    · cases h
  · cases h
theorem lookupSB_spec {ty : TyTab} {kt : TypeId} {ie : TyI} {M : List AObj} {x : AV} {k : List AV} {ok : Bool} {o : Out} (h : lookupSOut ty kt ie M x k ok = some o) : o.obl := by
  unfold lookupSOut at h
  split at h
  · split at h
    · split at h
      · obtain ⟨b, _, rfl⟩ := Option.map_eq_some_iff.1 h; trivial
      · cases h
    · cases h
  · cases h
theorem mapSetSB_spec {ty : TyTab} {kt : TypeId} {M : List AObj} {x : AV} {k : List AV} {v : AV} {o : Out} (h : mapSetSOut ty kt M x k v = some o) : o.obl := by
  unfold mapSetSOut at h
  split at h
  · split at h
    · split at h
      · obtain ⟨b, _, rfl⟩ := Option.map_eq_some_iff.1 h; trivial
      · cases h
    · cases h
  · cases h
theorem mapDelSB_spec {ty : TyTab} {kt : TypeId} {M : List AObj} {x : AV} {k : List AV} {o : Out} (h : mapDelSOut ty kt M x k = some o) : o.obl := by
  unfold mapDelSOut at h
  split at h
  · split at h
    · split at h
      · obtain ⟨b, _, rfl⟩ := Option.map_eq_some_iff.1 h; trivial
      · cases h
    · split at h
      · obtain ⟨b, _, rfl⟩ := Option.map_eq_some_iff.1 h; trivial
      · cases h
    · cases h
  · cases h
def appendB (ie : TyI) (x : AV) (els' : List (List AV)) : Bool := match x with
  | .sl els _ => lensB ie.size els && lensB ie.size els' && decide (AppB (lenL els) (lenL els') ie.bytes) && (ie.zero.length == ie.size)
  | _ => true
theorem appendB_spec {ie : TyI} {M : List AObj} {x : AV} {els' : List (List AV)} {o : Out} (h : appendOut ie M x els' = some o) (hb : appendB ie x els' = true) : o.obl := by
  unfold appendOut at h
  split at h
  · simp only [appendB, Bool.and_eq_true, decide_eq_true_eq, beq_iff_eq] at hb
    obtain ⟨⟨⟨h1, h2⟩, h3⟩, h4⟩ := hb
    split at h
    · split at h
      · cases h; exact ⟨lensB_spec h1, lensB_spec h2, h3, h4⟩
      · cases h
    · cases h
  · simp only [appendB, Bool.and_eq_true, decide_eq_true_eq, beq_iff_eq] at hb
    obtain ⟨⟨⟨h1, h2⟩, h3⟩, h4⟩ := hb
    split at h
    · split at h
      · cases h; exact ⟨lensB_spec h2, h3, h4⟩
      · cases h
    · cases h; exact ⟨lensB_spec h1, lensB_spec h2, h3, h4⟩
  · cases h
def copyB (ie : TyI) (M : List AObj) (i j : Nat) (n m : Int) : Bool := match M[i]?, M[j]? with
  | some (.blk cs), some (.blk ds) => decide (n = m) && decide (lenL cs = n) && decide (lenL ds = n) && (ie.size == 1)
  | _, _ => true
theorem copyB_spec {ie : TyI} {M : List AObj} {i j : Nat} {n m : Int} {o : Out} (h : copyOut ie M i j n m = some o) (hb : copyB ie M i j n m = true) : o.obl := by
  unfold copyOut at h
  split at h
  · rename_i h1 h2
    simp only [copyB, h1, h2, Bool.and_eq_true, decide_eq_true_eq, beq_iff_eq] at hb
    cases h; exact ⟨hb.1.1.1, hb.1.1.2, hb.1.2, hb.2⟩
  · cases h
def builtinB (ty : TyTab) (M : List AObj) (b : Builtin) (ts : List TypeId) (l : List AV) : Bool := match b, ts, l with
  | .delete, _, [x, _] => notOwn M x
  | .append, [t, _], [x, .sl els' _] => match ty t with
    | some i => match i.k with
      | .slice e => match ty e with
        | some ie => appendB ie x els'
        | none => true
      | _ => true
    | none => true
  | .copy, [t, _], [.slb i n, .slb j m] => match ty t with
    | some ti => match ti.k with
      | .slice e => match ty e with
        | some ie => copyB ie M i j n m
        | none => true
      | _ => true
    | none => true
  | _, _, _ => true
theorem builtinB_spec {ty : TyTab} {M : List AObj} {b : Builtin} {ts : List TypeId} {l : List AV} {o : Out} (h : builtinOut ty M b ts l = some o) (hb : builtinB ty M b ts l = true) : o.obl := by
  unfold builtinOut at h
  split at h
  · split at h
    · split at h
      · unfold mapLenOut at h
        split at h
        · split at h
          · cases h; trivial
          · cases h
        · cases h
      · unfold lenOut at h
        split at h <;> first | cases h; trivial | cases h
    · cases h
  · simp only [builtinB] at hb
    split at h
    · split at h
      · split at h
        · split at h
          · exact mapDelSB_spec h
          · exact mapDelB_spec h hb
        · cases h
      · cases h
    · cases h
  · unfold minmaxOut at h
    split at h <;> first | cases h; trivial | cases h
  · unfold minmaxOut at h
    split at h <;> first | cases h; trivial | cases h
  · split at h
    · rename_i i j hi hj
      split at h
      · rename_i e e' hk hk'
        split at h
        · rename_i ie hie
          simp only [builtinB, hi, hk, hie] at hb
          split at h
          · rename_i o' ho; cases h; exact appendB_spec ho hb
          · cases h
        · cases h
      · cases h
    · cases h
  · split at h
    · rename_i ti hi
      split at h
      · rename_i e hk
        split at h
        · rename_i ie hie
          simp only [builtinB, hi, hk, hie] at hb
          exact copyB_spec h hb
        · cases h
      · cases h
    · cases h
  · cases h

/-- What the contracts of a table ask is nothing. -/
def Free (Γ : Gam) : Prop := ∀ f l M o, Γ f l M = some o → o.obl
theorem callB_spec {Γ : Gam} (hf : Free Γ) {f : FuncId} {l : List AV} {M : List AObj} {o : Out} (h : callOut Γ f l M = some o) (hb : (lentL l).isNone = true) : o.obl := by
  unfold callOut at h
  split at h
  · exact hf _ _ _ _ h
  · rename_i i hi; rw [hi] at hb; cases hb

/-- What an operation asks. -/
def obB (ty : TyTab) (A : Env) (vs : List (Nat × Bool)) (M : List AObj) (o : Oper) : Bool :=
  match o.op with
  | .box _ x => match evX A vs x with
    | some a => a.var
    | none => true
  | .build t ps => match ty t, evPs A vs ps.toList with
    | some i, some l => buildB ty i l
    | _, _ => true
  | .buildSlice t n ps => match (ty t).bind fun i => i.k.elem.bind fun e => ty e, evPs A vs ps.toList with
    | some ie, some l => buildSliceB ie n l
    | _, _ => true
  | .load t x => match ty t, evX A vs x with
    | some i, some a => loadB i M a
    | _, _ => true
  | .store t x v => match ty t, evX A vs x, evX A vs v with
    | some i, some a, some u => storeB i M a u
    | _, _, _ => true
  | .binOp op _ x y _ => match evX A vs x, evX A vs y with
    | some a, some b => binB op a b
    | _, _ => true
  | .convert s d x => match ty s, ty d, evX A vs x with
    | some is, some id, some a => convB ty is.k id.k a
    | _, _, _ => true
  | .makeSlice t l c => match (ty t).bind fun i => i.k.elem.bind fun e => ty e, evX A vs l, evX A vs c with
    | some ie, some a, some b => if zeroO l c then makeCB ie a b else makeB ie a b
    | _, _, _ => true
  | .slice t x lo hi mx => match ty t, evX A vs x, evO A vs lo, evO A vs hi, evO A vs mx with
    | some i, some a, some l, some h, some m => match i.k with
      | .slice e => match ty e with
        | some ie => sliceB ie.size a l h m
        | none => true
      | _ => sliceB 0 a l h m
    | _, _, _, _, _ => true
  | .field s x f => match ty s, evX A vs x with
    | some i, some a => match i.k with
      | .struct fs => match fs[f]? with
        | some q => match ty q.2 with
          | some fi => fieldB fi q.1 a
          | none => true
        | none => true
      | _ => true
    | _, _ => true
  | .indexAddr t x ix => match ty t, evX A vs x, evX A vs ix with
    | some i, some a, some b => arrB i.k a b && match i.k.elem.bind fun e => ty e with
      | some ie => indexAddrB ie a b
      | none => true
    | _, _, _ => true
  | .index _ x ix => match evX A vs x, evX A vs ix with
    | some a, some b => indexB a b
    | _, _ => true
  | .lookup _ x _ _ => match evX A vs x with
    | some a => notOwn M a
    | none => true
  | .mapUpdate _ x _ _ => match evX A vs x with
    | some a => notOwn M a
    | none => true
  | .call c => match c.callee with
    | .builtin b => match evXs A vs c.args.toList with
      | some l => builtinB ty M b c.argTypes.toList l
      | none => true
    | .value fx => match evX A vs fx with
      | some (.clo _ cs) => match evXs A vs c.args.toList with
        | some l => (lentL (l ++ cs)).isNone
        | none => true
      | _ => match evXs A vs c.args.toList with
        | some l => (lentL l).isNone
        | none => true
    | .invoke r _ => match evX A vs r with
      | some (.iface _ x) => match evXs A vs c.args.toList with
        | some l => (lentL (x :: l)).isNone
        | none => true
      | _ => true
  | _ => true

theorem obB_spec {ty : TyTab} {Γ : Gam} (hf : Free Γ) {A : Env} {vs : List (Nat × Bool)} {M : List AObj} {o : Oper} {out : Out} (h : evOp ty Γ A vs M o = some out) (hb : obB ty A vs M o = true) : out.obl := by
  unfold evOp at h
  unfold obB at hb
  split at h
  · obtain ⟨a, _, rfl⟩ := Option.map_eq_some_iff.1 h; trivial
  · split at h
    · cases h; trivial
    · obtain ⟨a, _, rfl⟩ := Option.map_eq_some_iff.1 h; trivial
  · unfold pickOut at h
    split at h
    · split at h
      · cases h; trivial
      · cases h
    · cases h
  · obtain ⟨a, _, rfl⟩ := Option.map_eq_some_iff.1 h; trivial
  · rename_i x hop
    obtain ⟨a, ha, rfl⟩ := Option.map_eq_some_iff.1 h
    simp only [hop, ha] at hb
    exact hb
  · rename_i t ps hop
    obtain ⟨i, hi, h⟩ := Option.bind_eq_some_iff.1 h
    obtain ⟨l, hl, h⟩ := Option.bind_eq_some_iff.1 h
    simp only [hop, hi, hl] at hb
    exact buildB_spec h hb
  · rename_i t n ps hop
    obtain ⟨i, hi, h⟩ := Option.bind_eq_some_iff.1 h
    obtain ⟨e, he, h⟩ := Option.bind_eq_some_iff.1 h
    obtain ⟨ie, hie, h⟩ := Option.bind_eq_some_iff.1 h
    obtain ⟨l, hl, h⟩ := Option.bind_eq_some_iff.1 h
    simp only [hop, hi, hl, Option.bind_some, he, hie] at hb
    split at h
    · exact buildSliceB_spec h hb
    · cases h
  · rename_i t x hop
    obtain ⟨i, hi, h⟩ := Option.bind_eq_some_iff.1 h
    obtain ⟨a, ha, h⟩ := Option.bind_eq_some_iff.1 h
    simp only [hop, hi, ha] at hb
    exact loadB_spec h hb
  · rename_i t x v hop
    obtain ⟨i, hi, h⟩ := Option.bind_eq_some_iff.1 h
    obtain ⟨a, ha, h⟩ := Option.bind_eq_some_iff.1 h
    obtain ⟨u, hu, h⟩ := Option.bind_eq_some_iff.1 h
    simp only [hop, hi, ha, hu] at hb
    exact storeB_spec h hb
  · obtain ⟨a, _, h⟩ := Option.bind_eq_some_iff.1 h
    exact nilB_spec h
  · rename_i op t x y _ hop
    obtain ⟨i, hi, h⟩ := Option.bind_eq_some_iff.1 h
    obtain ⟨a, ha, h⟩ := Option.bind_eq_some_iff.1 h
    split at h
    · exact nilCmpB_spec h
    split at h
    · exact nilIB_spec h
    · obtain ⟨b, hb', h⟩ := Option.bind_eq_some_iff.1 h
      simp only [hop, ha, hb'] at hb
      exact binB2_spec h hb
  · obtain ⟨a, _, h⟩ := Option.bind_eq_some_iff.1 h
    exact unB_spec h
  · rename_i s d x hop
    obtain ⟨i, hi, h⟩ := Option.bind_eq_some_iff.1 h
    obtain ⟨j, hj, h⟩ := Option.bind_eq_some_iff.1 h
    obtain ⟨a, ha, h⟩ := Option.bind_eq_some_iff.1 h
    simp only [hop, hi, hj, ha] at hb
    exact convB_spec h hb
  · obtain ⟨i, _, h⟩ := Option.bind_eq_some_iff.1 h
    obtain ⟨a, _, h⟩ := Option.bind_eq_some_iff.1 h
    unfold ifaceOut at h
    split at h
    · cases h
    · cases h; trivial
  · rename_i t l c hop
    obtain ⟨i, hi, h⟩ := Option.bind_eq_some_iff.1 h
    obtain ⟨e, he, h⟩ := Option.bind_eq_some_iff.1 h
    obtain ⟨ie, hie, h⟩ := Option.bind_eq_some_iff.1 h
    obtain ⟨a, ha, h⟩ := Option.bind_eq_some_iff.1 h
    obtain ⟨b, hb', h⟩ := Option.bind_eq_some_iff.1 h
    simp only [hop, hi, Option.bind_some, he, hie, ha, hb'] at hb
    split at h
    · split at h
      · rename_i hs
        rw [if_neg (same_zero hs)] at hb
        exact makeBB_spec h hb
      · split at h
        · rename_i hz; rw [if_pos hz] at hb; exact makeCB_spec h hb
        · rename_i hz; rw [if_neg hz] at hb; exact makeB_spec h hb
    · cases h
  · split at h
    · obtain ⟨l, _, h⟩ := Option.bind_eq_some_iff.1 h
      cases h; trivial
    · cases h
  · rename_i t x lo hi mx hop
    obtain ⟨i, hi', h⟩ := Option.bind_eq_some_iff.1 h
    obtain ⟨a, ha, h⟩ := Option.bind_eq_some_iff.1 h
    obtain ⟨l, hl, h⟩ := Option.bind_eq_some_iff.1 h
    obtain ⟨u, hu, h⟩ := Option.bind_eq_some_iff.1 h
    obtain ⟨m, hm, h⟩ := Option.bind_eq_some_iff.1 h
    simp only [hop, hi', ha, hl, hu, hm] at hb
    split at h
    · rename_i e hk
      obtain ⟨ie, hie, h⟩ := Option.bind_eq_some_iff.1 h
      simp only [hk, hie] at hb
      exact sliceB_spec h hb
    · rename_i hk
      split at hb
      · rename_i e hk'; exact absurd hk' (hk e)
      · exact sliceB_spec h hb
  · obtain ⟨i, _, h⟩ := Option.bind_eq_some_iff.1 h
    obtain ⟨a, _, h⟩ := Option.bind_eq_some_iff.1 h
    split at h
    · obtain ⟨q, _, h⟩ := Option.bind_eq_some_iff.1 h
      obtain ⟨fi, _, h⟩ := Option.bind_eq_some_iff.1 h
      split at h
      · cases h
      · exact fieldAddrB_spec h
    · cases h
  · rename_i s x f hop
    obtain ⟨i, hi, h⟩ := Option.bind_eq_some_iff.1 h
    obtain ⟨a, ha, h⟩ := Option.bind_eq_some_iff.1 h
    split at h
    · rename_i fs hk
      obtain ⟨q, hq, h⟩ := Option.bind_eq_some_iff.1 h
      obtain ⟨fi, hfi, h⟩ := Option.bind_eq_some_iff.1 h
      simp only [hop, hi, ha, hk, hq, hfi] at hb
      exact fieldB_spec h hb
    · cases h
  · rename_i t x ix hop
    obtain ⟨i, hi, h⟩ := Option.bind_eq_some_iff.1 h
    obtain ⟨e, he, h⟩ := Option.bind_eq_some_iff.1 h
    obtain ⟨ie, hie, h⟩ := Option.bind_eq_some_iff.1 h
    obtain ⟨a, ha, h⟩ := Option.bind_eq_some_iff.1 h
    obtain ⟨b, hb', h⟩ := Option.bind_eq_some_iff.1 h
    simp only [hop, hi, ha, hb', he, Option.bind_some, hie, Bool.and_eq_true] at hb
    exact indexAddrB_spec h hb.2 hb.1
  · rename_i t x ix hop
    obtain ⟨i, hi, h⟩ := Option.bind_eq_some_iff.1 h
    obtain ⟨a, ha, h⟩ := Option.bind_eq_some_iff.1 h
    obtain ⟨b, hb', h⟩ := Option.bind_eq_some_iff.1 h
    simp only [hop, ha, hb'] at hb
    exact indexB_spec h hb
  · obtain ⟨i, _, h⟩ := Option.bind_eq_some_iff.1 h
    obtain ⟨a, _, h⟩ := Option.bind_eq_some_iff.1 h
    unfold rangeOut at h
    split at h
    · cases h; trivial
    · split at h
      · cases h; trivial
      · cases h
    · cases h
  · split at h
    · obtain ⟨a, _, h⟩ := Option.bind_eq_some_iff.1 h
      unfold nextOut at h
      split at h
      · split at h
        · cases h; split <;> trivial
        · cases h
      · cases h
    · cases h
  · obtain ⟨a, _, h⟩ := Option.bind_eq_some_iff.1 h
    unfold entry2Out at h
    split at h
    · split at h
      · unfold entryKOut at h
        repeat' split at h
        all_goals first | (cases h; trivial) | cases h
      · unfold entryOut at h
        repeat' split at h
        all_goals first | (cases h; trivial) | cases h
    · cases h
  · obtain ⟨a, _, h⟩ := Option.bind_eq_some_iff.1 h
    unfold extractOut at h
    split at h
    · split at h <;> first | cases h; trivial | cases h
    · cases h
  · split at h
    · cases h; trivial
    · cases h
  · rename_i t x ix ok hop
    obtain ⟨i, _, h⟩ := Option.bind_eq_some_iff.1 h
    obtain ⟨a, ha, h⟩ := Option.bind_eq_some_iff.1 h
    obtain ⟨b, _, h⟩ := Option.bind_eq_some_iff.1 h
    simp only [hop, ha] at hb
    split at h
    · obtain ⟨ik, _, h⟩ := Option.bind_eq_some_iff.1 h
      obtain ⟨ie, _, h⟩ := Option.bind_eq_some_iff.1 h
      split at h
      · exact lookupSB_spec h
      · exact lookupB_spec h hb
    · cases h
  · rename_i t x ix v hop
    obtain ⟨i, _, h⟩ := Option.bind_eq_some_iff.1 h
    obtain ⟨a, ha, h⟩ := Option.bind_eq_some_iff.1 h
    obtain ⟨b, _, h⟩ := Option.bind_eq_some_iff.1 h
    obtain ⟨u, _, h⟩ := Option.bind_eq_some_iff.1 h
    simp only [hop, ha] at hb
    split at h
    · obtain ⟨ik, _, h⟩ := Option.bind_eq_some_iff.1 h
      split at h
      · exact mapSetSB_spec h
      · exact mapSetB_spec h hb
    · cases h
  · rename_i c hop
    simp only [hop] at hb
    split at h
    · rename_i fx hc
      simp only [hc] at hb
      split at h
      · rename_i f he
        obtain ⟨l, hl, h⟩ := Option.bind_eq_some_iff.1 h
        simp only [he, hl] at hb
        exact callB_spec hf h hb
      · rename_i f cs he
        obtain ⟨l, hl, h⟩ := Option.bind_eq_some_iff.1 h
        simp only [he, hl] at hb
        exact callB_spec hf h hb
      · cases h
    · rename_i b hc
      obtain ⟨l, hl, h⟩ := Option.bind_eq_some_iff.1 h
      simp only [hc, hl] at hb
      exact builtinB_spec h hb
    · rename_i r n hc
      simp only [hc] at hb
      split at h
      · rename_i t x he
        obtain ⟨f, _, h⟩ := Option.bind_eq_some_iff.1 h
        obtain ⟨l, hl, h⟩ := Option.bind_eq_some_iff.1 h
        simp only [he, hl] at hb
        exact callB_spec hf h hb
      · cases h
  · rename_i x _ t ok hop
    obtain ⟨i, _, h⟩ := Option.bind_eq_some_iff.1 h
    obtain ⟨a, _, h⟩ := Option.bind_eq_some_iff.1 h
    unfold assertOut at h
    split at h
    · split at h
      · split at h <;> first | cases h; trivial | cases h
      · split at h
        · cases h; trivial
        · split at h
          · cases h; trivial
          · cases h
    · cases h
  · cases h
end Go.Ab
