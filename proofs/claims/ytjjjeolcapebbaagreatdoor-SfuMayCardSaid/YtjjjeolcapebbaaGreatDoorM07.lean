/- The types of these functions. No condition. -/
import Derived.Test.YtjjjeolcapebbaaGreatDoorM13
import Derived.Test.YtjjjeolcapebbaaGreatDoorM09
import Derived.Test.YtjjjeolcapebbaaGreatDoorM12
import Derived.Shelf.SlIter.Nil
section
namespace Go.Ab

structure ReorderConfig where
  fMost : Int
  fWait : Int
instance : Inhabited ReorderConfig := ⟨ReorderConfig.mk 0 0⟩
@[simp] def ReorderConfig.enc (x : ReorderConfig) : List AV := [.lit (.int .i64 x.fMost), .lit (.int .i64 x.fWait)]
@[simp] def ReorderConfig.dec : List AV → ReorderConfig
  | [.lit (.int .i64 a0), .lit (.int .i64 a1)] => (ReorderConfig.mk a0 a1)
  | _ => default
@[simp] theorem ReorderConfig.eta (x : ReorderConfig) : ReorderConfig.mk x.fMost x.fWait = x := by cases x; rfl
theorem ReorderConfig.dec_enc (x : ReorderConfig) : ReorderConfig.dec x.enc = x := by simp
@[simp] theorem ReorderConfig.comp : ReorderConfig.dec ∘ ReorderConfig.enc = id := funext ReorderConfig.dec_enc
structure FrameConfig where
  fVideo : Bool
  fBytes : Int
  fUnits : Int
  fWait : Int
instance : Inhabited FrameConfig := ⟨FrameConfig.mk false 0 0 0⟩
@[simp] def FrameConfig.enc (x : FrameConfig) : List AV := [.lit (.bool x.fVideo), .lit (.int .i64 x.fBytes), .lit (.int .i64 x.fUnits), .lit (.int .i64 x.fWait)]
@[simp] def FrameConfig.dec : List AV → FrameConfig
  | [.lit (.bool a0), .lit (.int .i64 a1), .lit (.int .i64 a2), .lit (.int .i64 a3)] => (FrameConfig.mk a0 a1 a2 a3)
  | _ => default
@[simp] theorem FrameConfig.eta (x : FrameConfig) : FrameConfig.mk x.fVideo x.fBytes x.fUnits x.fWait = x := by cases x; rfl
theorem FrameConfig.dec_enc (x : FrameConfig) : FrameConfig.dec x.enc = x := by simp
@[simp] theorem FrameConfig.comp : FrameConfig.dec ∘ FrameConfig.enc = id := funext FrameConfig.dec_enc
structure IngressConfig where
  fOrder : ReorderConfig
  fFrame : FrameConfig
instance : Inhabited IngressConfig := ⟨IngressConfig.mk (ReorderConfig.mk 0 0) (FrameConfig.mk false 0 0 0)⟩
@[simp] def IngressConfig.enc (x : IngressConfig) : List AV := [.lit (.int .i64 x.fOrder.fMost), .lit (.int .i64 x.fOrder.fWait), .lit (.bool x.fFrame.fVideo), .lit (.int .i64 x.fFrame.fBytes), .lit (.int .i64 x.fFrame.fUnits), .lit (.int .i64 x.fFrame.fWait)]
@[simp] def IngressConfig.dec : List AV → IngressConfig
  | [.lit (.int .i64 a0), .lit (.int .i64 a1), .lit (.bool a2), .lit (.int .i64 a3), .lit (.int .i64 a4), .lit (.int .i64 a5)] => (IngressConfig.mk (ReorderConfig.mk a0 a1) (FrameConfig.mk a2 a3 a4 a5))
  | _ => default
@[simp] theorem IngressConfig.eta (x : IngressConfig) : IngressConfig.mk x.fOrder x.fFrame = x := by cases x; rfl
theorem IngressConfig.dec_enc (x : IngressConfig) : IngressConfig.dec x.enc = x := by simp
@[simp] theorem IngressConfig.comp : IngressConfig.dec ∘ IngressConfig.enc = id := funext IngressConfig.dec_enc
structure EgressConfig where
  fFrames : Int
  fBytes : Int
  fAge : Int
  fMost : Int
  fGuard : Int
instance : Inhabited EgressConfig := ⟨EgressConfig.mk 0 0 0 0 0⟩
@[simp] def EgressConfig.enc (x : EgressConfig) : List AV := [.lit (.int .i64 x.fFrames), .lit (.int .i64 x.fBytes), .lit (.int .i64 x.fAge), .lit (.int .i64 x.fMost), .lit (.int .i64 x.fGuard)]
@[simp] def EgressConfig.dec : List AV → EgressConfig
  | [.lit (.int .i64 a0), .lit (.int .i64 a1), .lit (.int .i64 a2), .lit (.int .i64 a3), .lit (.int .i64 a4)] => (EgressConfig.mk a0 a1 a2 a3 a4)
  | _ => default
@[simp] theorem EgressConfig.eta (x : EgressConfig) : EgressConfig.mk x.fFrames x.fBytes x.fAge x.fMost x.fGuard = x := by cases x; rfl
theorem EgressConfig.dec_enc (x : EgressConfig) : EgressConfig.dec x.enc = x := by simp
@[simp] theorem EgressConfig.comp : EgressConfig.dec ∘ EgressConfig.enc = id := funext EgressConfig.dec_enc
structure PliConfig where
  fFirst : Int
  fMost : Int
instance : Inhabited PliConfig := ⟨PliConfig.mk 0 0⟩
@[simp] def PliConfig.enc (x : PliConfig) : List AV := [.lit (.int .i64 x.fFirst), .lit (.int .i64 x.fMost)]
@[simp] def PliConfig.dec : List AV → PliConfig
  | [.lit (.int .i64 a0), .lit (.int .i64 a1)] => (PliConfig.mk a0 a1)
  | _ => default
@[simp] theorem PliConfig.eta (x : PliConfig) : PliConfig.mk x.fFirst x.fMost = x := by cases x; rfl
theorem PliConfig.dec_enc (x : PliConfig) : PliConfig.dec x.enc = x := by simp
@[simp] theorem PliConfig.comp : PliConfig.dec ∘ PliConfig.enc = id := funext PliConfig.dec_enc
structure StallConfig where
  fAfter : Int
  fRest : Int
instance : Inhabited StallConfig := ⟨StallConfig.mk 0 0⟩
@[simp] def StallConfig.enc (x : StallConfig) : List AV := [.lit (.int .i64 x.fAfter), .lit (.int .i64 x.fRest)]
@[simp] def StallConfig.dec : List AV → StallConfig
  | [.lit (.int .i64 a0), .lit (.int .i64 a1)] => (StallConfig.mk a0 a1)
  | _ => default
@[simp] theorem StallConfig.eta (x : StallConfig) : StallConfig.mk x.fAfter x.fRest = x := by cases x; rfl
theorem StallConfig.dec_enc (x : StallConfig) : StallConfig.dec x.enc = x := by simp
@[simp] theorem StallConfig.comp : StallConfig.dec ∘ StallConfig.enc = id := funext StallConfig.dec_enc
structure LadderConfig where
  fDown : Int
  fUp : Int
  fSpare : Int
instance : Inhabited LadderConfig := ⟨LadderConfig.mk 0 0 0⟩
@[simp] def LadderConfig.enc (x : LadderConfig) : List AV := [.lit (.int .i64 x.fDown), .lit (.int .i64 x.fUp), .lit (.int .i64 x.fSpare)]
@[simp] def LadderConfig.dec : List AV → LadderConfig
  | [.lit (.int .i64 a0), .lit (.int .i64 a1), .lit (.int .i64 a2)] => (LadderConfig.mk a0 a1 a2)
  | _ => default
@[simp] theorem LadderConfig.eta (x : LadderConfig) : LadderConfig.mk x.fDown x.fUp x.fSpare = x := by cases x; rfl
theorem LadderConfig.dec_enc (x : LadderConfig) : LadderConfig.dec x.enc = x := by simp
@[simp] theorem LadderConfig.comp : LadderConfig.dec ∘ LadderConfig.enc = id := funext LadderConfig.dec_enc
structure LadderLadder where
  fConfig : LadderConfig
  fNeeds : List Int
  fAt : Int
  fMost : Int
  fBad : Int
  fGood : Int
  fMoves : Int
instance : Inhabited LadderLadder := ⟨LadderLadder.mk (LadderConfig.mk 0 0 0) [] 0 0 0 0 0⟩
@[simp] def LadderLadder.enc (x : LadderLadder) : List AV := [.lit (.int .i64 x.fConfig.fDown), .lit (.int .i64 x.fConfig.fUp), .lit (.int .i64 x.fConfig.fSpare), .sl (x.fNeeds.map (eNum .i64)) .no, .lit (.int .i64 x.fAt), .lit (.int .i64 x.fMost), .lit (.int .i64 x.fBad), .lit (.int .i64 x.fGood), .lit (.int .i64 x.fMoves)]
@[simp] def LadderLadder.dec : List AV → LadderLadder
  | [.lit (.int .i64 a0), .lit (.int .i64 a1), .lit (.int .i64 a2), .sl a3 _, .lit (.int .i64 a4), .lit (.int .i64 a5), .lit (.int .i64 a6), .lit (.int .i64 a7), .lit (.int .i64 a8)] => (LadderLadder.mk (LadderConfig.mk a0 a1 a2) (a3.map decI) a4 a5 a6 a7 a8)
  | _ => default
@[simp] theorem LadderLadder.eta (x : LadderLadder) : LadderLadder.mk x.fConfig x.fNeeds x.fAt x.fMost x.fBad x.fGood x.fMoves = x := by cases x; rfl
theorem LadderLadder.dec_enc (x : LadderLadder) : LadderLadder.dec x.enc = x := by simp
@[simp] theorem LadderLadder.comp : LadderLadder.dec ∘ LadderLadder.enc = id := funext LadderLadder.dec_enc
structure RatePart where
  fTick : Int
  fBytes : Int
instance : Inhabited RatePart := ⟨RatePart.mk 0 0⟩
@[simp] def RatePart.enc (x : RatePart) : List AV := [.lit (.int .i64 x.fTick), .lit (.int .i64 x.fBytes)]
@[simp] def RatePart.dec : List AV → RatePart
  | [.lit (.int .i64 a0), .lit (.int .i64 a1)] => (RatePart.mk a0 a1)
  | _ => default
@[simp] theorem RatePart.eta (x : RatePart) : RatePart.mk x.fTick x.fBytes = x := by cases x; rfl
theorem RatePart.dec_enc (x : RatePart) : RatePart.dec x.enc = x := by simp
@[simp] theorem RatePart.comp : RatePart.dec ∘ RatePart.enc = id := funext RatePart.dec_enc
@[simp] theorem RatePart.ren (σ : Nat → Nat) (l : List RatePart) : renLL σ (l.map RatePart.enc) = l.map RatePart.enc := ren_map (fun x => by simp) l
structure RateMeter where
  fWindow : Int
  fL : List RatePart
  fSum : Int
  fTotal : Int
  fCap : Int
instance : Inhabited RateMeter := ⟨RateMeter.mk 0 [] 0 0 0⟩
@[simp] def RateMeter.enc (x : RateMeter) : List AV := [.lit (.int .i64 x.fWindow), .sl (x.fL.map RatePart.enc) .no, .lit (.int .i64 x.fSum), .lit (.int .i64 x.fTotal), .lit (.int .i64 x.fCap)]
@[simp] def RateMeter.dec : List AV → RateMeter
  | [.lit (.int .i64 a0), .sl a1 _, .lit (.int .i64 a2), .lit (.int .i64 a3), .lit (.int .i64 a4)] => (RateMeter.mk a0 (a1.map RatePart.dec) a2 a3 a4)
  | _ => default
@[simp] theorem RateMeter.eta (x : RateMeter) : RateMeter.mk x.fWindow x.fL x.fSum x.fTotal x.fCap = x := by cases x; rfl
theorem RateMeter.dec_enc (x : RateMeter) : RateMeter.dec x.enc = x := by simp
@[simp] theorem RateMeter.comp : RateMeter.dec ∘ RateMeter.enc = id := funext RateMeter.dec_enc
structure SfuConfig where
  fIngress : IngressConfig
  fEgress : EgressConfig
  fPli : PliConfig
  fStall : StallConfig
  fLadder : LadderConfig
  fNeeds : List Int
  fWindow : Int
  fRing : Int
  fAgain : Int
  fGap : Int
  fShare : Int
  fReports : Int
instance : Inhabited SfuConfig := ⟨SfuConfig.mk (IngressConfig.mk (ReorderConfig.mk 0 0) (FrameConfig.mk false 0 0 0)) (EgressConfig.mk 0 0 0 0 0) (PliConfig.mk 0 0) (StallConfig.mk 0 0) (LadderConfig.mk 0 0 0) [] 0 0 0 0 0 0⟩
@[simp] def SfuConfig.enc (x : SfuConfig) : List AV := [.lit (.int .i64 x.fIngress.fOrder.fMost), .lit (.int .i64 x.fIngress.fOrder.fWait), .lit (.bool x.fIngress.fFrame.fVideo), .lit (.int .i64 x.fIngress.fFrame.fBytes), .lit (.int .i64 x.fIngress.fFrame.fUnits), .lit (.int .i64 x.fIngress.fFrame.fWait), .lit (.int .i64 x.fEgress.fFrames), .lit (.int .i64 x.fEgress.fBytes), .lit (.int .i64 x.fEgress.fAge), .lit (.int .i64 x.fEgress.fMost), .lit (.int .i64 x.fEgress.fGuard), .lit (.int .i64 x.fPli.fFirst), .lit (.int .i64 x.fPli.fMost), .lit (.int .i64 x.fStall.fAfter), .lit (.int .i64 x.fStall.fRest), .lit (.int .i64 x.fLadder.fDown), .lit (.int .i64 x.fLadder.fUp), .lit (.int .i64 x.fLadder.fSpare), .sl (x.fNeeds.map (eNum .i64)) .no, .lit (.int .i64 x.fWindow), .lit (.int .i64 x.fRing), .lit (.int .i64 x.fAgain), .lit (.int .i64 x.fGap), .lit (.int .i64 x.fShare), .lit (.int .i64 x.fReports)]
@[simp] def SfuConfig.dec : List AV → SfuConfig
  | [.lit (.int .i64 a0), .lit (.int .i64 a1), .lit (.bool a2), .lit (.int .i64 a3), .lit (.int .i64 a4), .lit (.int .i64 a5), .lit (.int .i64 a6), .lit (.int .i64 a7), .lit (.int .i64 a8), .lit (.int .i64 a9), .lit (.int .i64 a10), .lit (.int .i64 a11), .lit (.int .i64 a12), .lit (.int .i64 a13), .lit (.int .i64 a14), .lit (.int .i64 a15), .lit (.int .i64 a16), .lit (.int .i64 a17), .sl a18 _, .lit (.int .i64 a19), .lit (.int .i64 a20), .lit (.int .i64 a21), .lit (.int .i64 a22), .lit (.int .i64 a23), .lit (.int .i64 a24)] => (SfuConfig.mk (IngressConfig.mk (ReorderConfig.mk a0 a1) (FrameConfig.mk a2 a3 a4 a5)) (EgressConfig.mk a6 a7 a8 a9 a10) (PliConfig.mk a11 a12) (StallConfig.mk a13 a14) (LadderConfig.mk a15 a16 a17) (a18.map decI) a19 a20 a21 a22 a23 a24)
  | _ => default
@[simp] theorem SfuConfig.eta (x : SfuConfig) : SfuConfig.mk x.fIngress x.fEgress x.fPli x.fStall x.fLadder x.fNeeds x.fWindow x.fRing x.fAgain x.fGap x.fShare x.fReports = x := by cases x; rfl
theorem SfuConfig.dec_enc (x : SfuConfig) : SfuConfig.dec x.enc = x := by simp
@[simp] theorem SfuConfig.comp : SfuConfig.dec ∘ SfuConfig.enc = id := funext SfuConfig.dec_enc
end Go.Ab
end
section
namespace Go.Ab
open Go.Proofs Go.Shelf Go.Sort Go.Maps

def keysVS (es : List (AV × AV)) : List ByteArray := es.map fun e => dkS e.1
def StrKeys (es : List (AV × AV)) : Prop := ∀ e ∈ es, e.1 = kS (dkS e.1)
@[simp] theorem keysVS_nil : keysVS [] = [] := rfl
/-- What sorting them asks. -/
def KeysBS (l : List ByteArray) : Prop := (∀ x ∈ l, x.size ≤ maxLen) ∧ l.length * 16 ≤ 140737488355328
def kbytesOf (x : ByteArray) : List UInt8 := x.data.toList
def kofBytes (x : List UInt8) : ByteArray := ⟨x.toArray⟩
def sortS (l : List ByteArray) : List ByteArray := ((l.map kbytesOf).mergeSort fun x y => decide (x ≤ y)).map kofBytes

/-- A slice that owns its block, made by the call. -/
theorem R.ownsRowG {α : Type} (f : α → Value) (hf : ∀ a, (f a).oneCell' = true) {g : G} {w' : World} (sm : Sim g) {e : TypeId} {v : Value} {l : List α} (h : w'.ownsRow g.w.heap.size e 1 v l.length (l.map f)) :
    R { g with w := w' } (.sl (l.map fun a => [.lit (f a)]) .no) v := by
  rcases h.2 with ⟨rfl, hz⟩ | ⟨gb, cap, cur, rfl, hbase, hgb, hcap, _, hsz, htake⟩
  · have : l = [] := List.eq_nil_of_length_eq_zero hz
    subst this
    exact .nil _ trivial
  · have hlen : (l.map fun a => [AV.lit (f a)]).length = l.length := by simp
    have q : R { g with w := w' } (.sl (l.map fun a => [.lit (f a)]) .no) (.slice (some ⟨gb, 0, none⟩) (l.map fun a => [AV.lit (f a)]).length cap) := by
      have hcur : ∀ i (hi : i < l.length), cur[i]? = some (f l[i]) := fun i hi => by
        have : (cur.toList.take (l.length * 1))[i]? = some (f l[i]) := by
          rw [htake, List.getElem?_map]
          simp [hi]
        rw [List.getElem?_take_of_lt (by omega)] at this
        simpa using this
      refine .sl _ .no gb 0 1 cap (fun i _ => ((l[i]?).map f).getD undef) (fun i hi => by simp) (fun i j hi hj => ?_) (fun i j hi hj hr => ?_) (fun i j hi hj => ?_) (fun i j hi hj => ?_) trivial (by omega)
      · have hj0 : j = 0 := by omega
        subst hj0
        have hi' : i < l.length := by omega
        have := hcur i hi'
        simp only [World.cell?, hgb, Nat.zero_add, Nat.mul_one, Nat.add_zero]
        rw [List.getElem?_eq_getElem hi']
        simpa using this
      · have := sm.inb _ hr
        simp only at this
        omega
      · have hj0 : j = 0 := by simp at hj; omega
        subst hj0
        have hi' : i < l.length := by omega
        simp only [List.getElem_map, List.getElem_cons_zero]
        rw [List.getElem?_eq_getElem hi']
        exact .lit _
      · have hi' : i < l.length := by omega
        rw [List.getElem?_eq_getElem hi']
        exact hf _
    rw [hlen] at q; exact q

theorem ownsS_of {g : G} (sm : Sim g) {i : Nat} {es : List (AV × AV)} (hM : g.M[i]? = some (.mapo es)) (hk : StrKeys es) (hb : KeysBS (keysVS es)) {P : Program} {k : TypeId} (hkt : P.underlying k = some .string) :
    ∃ (D0 : DataW Unit) (R0 : Value → Option (DataW Unit × List MemPlace)), g.w.ownsMap P k R0 (g.β i) es.length D0 ∧ (strKeys D0).Perm ((keysVS es).map kbytesOf) ∧ Maps.size D0 = es.length := by
  obtain ⟨ents, clock, hh, hst, he⟩ := map_at sm hM
  have hlen := he.len
  simp only [Array.length_toList] at hlen
  have hkey : ∀ (es : List (AV × AV)) (l : List MapEntry), EntR g es l → StrKeys es → l.map (·.key) = (keysVS es).map .string := by
    intro es l h
    induction h with
    | nil => intro _; rfl
    | @cons a v es e l hk hv r ih =>
      intro q
      have h1 := q (a, v) (.head _)
      simp only at h1
      rw [h1] at hk
      have h2 : e.key = .string (dkS a) := hk.lit_inv
      simp only [List.map_cons, keysVS, h2]
      rw [ih fun e he => q e (.tail _ he)]; rfl
  have hks := hkey es ents.toList he hk
  have hread : ∀ x ∈ ents.toList, ∃ n : ByteArray, x.key = .string n ∧ n ∈ keysVS es := fun x hx => by
    have : x.key ∈ ents.toList.map (·.key) := List.mem_map.2 ⟨x, hx, rfl⟩
    rw [hks] at this
    obtain ⟨n, hn, e⟩ := List.mem_map.1 this
    exact ⟨n, e.symm, hn⟩
  let R0 : Value → Option (DataW Unit × List MemPlace) := fun _ => some (.nil, [])
  have hrd : ∀ x ∈ ents.toList, ∃ n : ByteArray, x.key = .string n ∧ WideElems.rd P k R0 x = some (.string (kbytesOf n), .nil) := fun x hx => by
    obtain ⟨n, hn, hmem⟩ := hread x hx
    refine ⟨n, hn, ?_⟩
    have hsz := hb.1 n hmem
    simp only [WideElems.rd, hn, R0, Option.map_some]
    have : keyOf P k (.string n) = some (.string (kbytesOf n)) := by
      simp [keyOf, hkt, mapKey, kbytesOf]
      exact hsz
    rw [this]
    rfl
  refine ⟨.map ((ents.toList.map (WideElems.rg P k R0)).foldr DataW.insert []), R0, ⟨ents, clock, hh, ⟨?_, hst, fun x hx => ?_⟩, by omega, rfl⟩, ?_, ?_⟩
  · have := hb.2
    simp only [keysVS, List.length_map] at this
    simp only [maxLen]; omega
  · obtain ⟨n, _, h⟩ := hrd x hx
    exact ⟨_, h⟩
  · show (((ents.toList.map (WideElems.rg P k R0)).foldr DataW.insert []).map fun p => strOf p.1).Perm _
    refine ((WideShapes.sorted_perm _).map _).trans ?_
    rw [List.map_map]
    have : ents.toList.map ((fun p => strOf p.1) ∘ WideElems.rg P k R0) = (keysVS es).map kbytesOf := by
      have h2 : (ents.toList.map (·.key)).map (fun v => match v with | .string n => kbytesOf n | _ => []) = (keysVS es).map kbytesOf := by
        rw [hks, List.map_map]
        exact List.map_congr_left fun n _ => rfl
      rw [← h2, List.map_map]
      refine List.map_congr_left fun x hx => ?_
      obtain ⟨n, h3, h4⟩ := hrd x hx
      simp only [Function.comp, WideElems.rg, h4, Option.getD_some, strOf, h3]
    rw [this]
  · rw [Maps.size_eq, Go.length_read]; omega

theorem keysS_okZ {P : Program} {ρ : Ren} (L : SlLaysZ.n7 P ρ) {f k : Nat} (hf : ρ.f 7 = f) (hk : ρ.f 10 = k) (hent : ∀ args w, (callFunc f args).run P w = .ok (.enter f args) w) : SpecOk P f (keysS k) := by
  subst hf; subst hk
  intro l M out h
  unfold keysS at h
  split at h
  · rename_i i
    have h : some ({ av := .fn (ρ.f 10) [.mp i] } : Out) = some out := by
      split at h
      · exact h
      · exact h
      · cases h
    · cases h
      intro g vs hM sm hr _
      cases hr with | cons hv hr => cases hr with | nil =>
      cases hv with
      | mp _ hi =>
      refine ⟨hent _ _, ?_⟩
      refine ((callsIn_wide (n := 5)).1 (AnyZ.keys_in L Fence.wide 5 trivial rfl _ _)).mono fun e w' => ?_
      rintro ⟨rfl, rfl⟩
      have hw : (g.w.alloc (.cells #[.map (some (g.β i))] (ρ.t 23))).heap = g.w.heap.push (.cells #[.map (some (g.β i))] (ρ.t 23)) := rfl
      refine ⟨_, rfl, g.β, g.ρ, ?_, ?_, ?_⟩
      · simp only [G.out, Option.getD_none]
        exact sim_push hw sm
      · simp only [G.out, Option.getD_none]
        have q : R { g with w := g.w.alloc (.cells #[.map (some (g.β i))] (ρ.t 23)) } (.fn (ρ.f 10) [.mp i]) (.func (.func (ρ.f 10)) #[] ((List.range [AV.mp i].length).map fun j => Value.pointer (some ⟨(fun _ => g.w.heap.size) j, 0, none⟩)).toArray) := by
          refine .fn (ρ.f 10) [.mp i] (fun _ => g.w.heap.size) (fun _ => .map (some (g.β i))) (fun j hj => ?_) (fun j hj hreg => ?_) (fun j hj => ?_)
          · simp [World.cell?, hw]
          · have := sm.inb _ hreg
            simp at this
          · have hj0 : j = 0 := by simp at hj; omega
            subst hj0
            exact .mp (g := { g with w := g.w.alloc (.cells #[.map (some (g.β i))] (ρ.t 23)) }) i hi
        exact q
      · simp only [G.out, Option.getD_none]
        exact keep_push hw
  · cases h

/-- 'slices.Sorted' of a map's keys that are strings. -/
@[simp] def sortedSS (k : Nat) : Sp
  | [.fn k' [.mp i]], M => if k' = k then (match M[i]? with
    | some (.mapo es) => some { av := .sl ((sortS (keysVS es)).map eTxt) .no, obl := StrKeys es ∧ KeysBS (keysVS es) }
    | _ => none) else none
  | _, _ => none

theorem sortedS_ok {P : Program} {ρ ρ' : Ren} (L : SlLaysZ.n6 P ρ) (L' : SlLaysZ.n10 P ρ') {f k : Nat} (hf : ρ.f 6 = f) (hk : ρ'.f 10 = k) (hent : ∀ args w, (callFunc f args).run P w = .ok (.enter f args) w)
    (hsort : ∀ m, AnyZ.SortsIn P ρ Fence.wide m) (e9 : ∀ args w, (callFunc (ρ.f 9) args).run P w = .ok (.enter (ρ.f 9) args) w) (eg : ∀ args w, (callFunc k args).run P w = .ok (.enter k args) w) : SpecOk P f (sortedSS k) := by
  subst hf; subst hk
  intro l M out h
  unfold sortedSS at h
  split at h
  · rename_i k' i
    split at h
    · rename_i hkk
      subst hkk
      split at h
      · rename_i es hMi
        cases h
        intro g vs hM sm hr ho
        subst hM
        cases hr with | cons hv hr => cases hr with | nil =>
        obtain ⟨b, rfl, hcell, hi⟩ := fn_inv hv
        refine ⟨hent _ _, ?_⟩
        obtain ⟨D0, R0, hown, hperm, hsize⟩ := ownsS_of sm hMi ho.1 ho.2 (P := P) (k := ρ'.t 26) L'.t26
        have hseq : SeqGives Fence.wide 2 P (ρ'.f 10) #[.pointer (some ⟨b, 0, none⟩)] encStr (fun ss => ss.Perm (strKeys D0)) (Maps.size D0) g.w :=
          AnyZ.keys_gives L' Fence.wide 2 trivial rfl (by omega) b (g.β i) es.length D0 g.w (cell_lt hcell) hcell hown
        have hbd := ho.2.2
        simp only [keysVS, List.length_map] at hbd
        have cS := AnyZ.sorted_in L Fence.wide 5 trivial trivial trivial trivial rfl (by omega) (hsort _) e9 (ρ'.f 10) #[.pointer (some ⟨b, 0, none⟩)] trivial eg _ _ (by rw [hsize]; simp only [maxLen]; omega) (by rw [hsize]; exact hbd) g.w hseq
        refine ((callsIn_wide (n := 5)).1 cS).mono fun e w' => ?_
        rintro ⟨v, ss, rfl, hS, hrow, _, hbel⟩
        have hss : ss.mergeSort (fun x y => decide (x ≤ y)) = ((keysVS es).map kbytesOf).mergeSort (fun x y => decide (x ≤ y)) := mergeSort_of_perm (hS.trans hperm)
        rw [hss] at hrow
        have hl : ss.length = (((keysVS es).map kbytesOf).mergeSort (fun x y => decide (x ≤ y))).length := by rw [← hss]; simp
        rw [hl] at hrow
        refine ⟨_, rfl, g.β, g.ρ, ?_, ?_, ?_⟩
        · simp only [G.out, Option.getD_none]; exact sim_below hbel sm
        · simp only [G.out, Option.getD_none]
          have q := R.ownsRowG encStr (fun _ => rfl) sm hrow
          have e : (sortS (keysVS es)).map eTxt = (((keysVS es).map kbytesOf).mergeSort (fun x y => decide (x ≤ y))).map fun a => [AV.lit (encStr a)] := by
            unfold sortS
            rw [List.map_map]; rfl
          rw [e]; exact q
        · simp only [G.out, Option.getD_none]; exact keep_below hbel
      · cases h
    · cases h
  · cases h
end Go.Ab
end
