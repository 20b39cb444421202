/- What these functions compute, as plain functions. No condition. -/
import Derived.Test.YtbijdlgffebenaaGreatTs
import Derived.Test.YtbijdlgffebenaaGreatM06
import Derived.Test.YtbijdlgffebenaaGreatM09
import Derived.Test.YtbijdlgffebenaaGreatSh
import Derived.Test.YtbijdlgffebenaaGreatTy
import Derived.Test.YtbijdlgffebenaaGreatM03
import Derived.Test.YtbijdlgffebenaaGreatM05
import Derived.Test.YtbijdlgffebenaaGreatM01
section
namespace Go.Proofs
open Go.Ab
noncomputable def gaM (x0 : ByteArray) (x1 : Int) : Option ByteArray :=
 bif (ltI x1 (lenS x0)) then (
  need (CutB 0 x1 (lenS x0)) <|
  some (cutS x0 0 x1)
 ) else (
  some x0
 )
end Go.Proofs
end
section
namespace Go.Proofs
open Go.Ab
noncomputable def gaB (x0 : Int) (x1 : Int) : Option Int :=
 need (NonZ x1) <|
 ((
  bif (ltI (remI x0 x1) 0) then (
   some (.go (addI .i64 (remI x0 x1) x1))
  ) else (
   some (.go (remI x0 x1))
  )
  : Option (Fl Int Int)).bind fun f => flC f fun (v1 : Int) =>
  some v1
 )

noncomputable def gaL (x0 : Int) (x1 : Int) (x2 : Int) : Option Int :=
 ((gaB (subI .i64 x0 x1) x2)).bind fun r1 =>
 need (NonZ 2) <|
 bif (ltI r1 (quoI .i64 x2 2)) then (
  some r1
 ) else (
  some (subI .i64 r1 x2)
 )

noncomputable def gaC (x0 : Int) (x1 : Int) (x2 : Int) : Option Int :=
 ((gaB x0 x2)).bind fun r1 =>
 ((gaL x1 r1 x2)).bind fun r2 =>
 some (addI .i64 x0 r2)

noncomputable def gaI (x0 : Tv) (x1 : Int) : Option (Tv × Int × Bool) :=
 bif (notB x0.fd) then (
  some ((Tv.mk true (addI .i64 1048576 x1) (-1) 0 0), (addI .i64 1048576 x1), true)
 ) else (
  ((gaC x0.fk x1 65536)).bind fun r1 =>
  bif (pickB (leqI r1 (addI .i64 x0.fk 3000)) (leqI (subI .i64 x0.fk 3000) r1) false) then (
   some ((Tv.mk x0.fd (maxI x0.fk r1) (-1) 0 x0.fA), r1, true)
  ) else (
   ((
    bif (eqI x0.fV x1) then (
     some (.go (Tv.mk x0.fd x0.fk x0.fV (addI .i64 x0.fK 1) x0.fA))
    ) else (
     some (.go (Tv.mk x0.fd x0.fk x0.fV 1 x0.fA))
    )
    : Option (Fl Tv (Tv × Int × Bool))).bind fun f => flC f fun (v1 : Tv) =>
    need (NonZ 65536) <|
    bif (ltI v1.fK 2) then (
     some ((Tv.mk v1.fd v1.fk (remI (addI .i64 x1 1) 65536) v1.fK v1.fA), 0, false)
    ) else (
     need (NonZ 65536) <|
     some ((Tv.mk v1.fd (addI .i64 (mulI .i64 (addI .i64 (quoI .i64 v1.fk 65536) 2) 65536) x1) (-1) 0 (addI .i64 v1.fA 1)), (addI .i64 (mulI .i64 (addI .i64 (quoI .i64 v1.fk 65536) 2) 65536) x1), true)
    )
   )
  )
 )

noncomputable def gaG (x0 : Int) (x1 : Int) : Option (Int × Int) :=
 bif (ltI x0 0) then (
  some ((addI .i64 68719476736 x1), (addI .i64 68719476736 x1))
 ) else (
  ((gaC x0 x1 4294967296)).bind fun r1 =>
  some ((maxI x0 r1), r1)
 )
end Go.Proofs
end
section
namespace Go.Proofs
open Go.Ab
noncomputable def gau (x0 : Ts) : Option Ts :=
 some (Ts.mk x0.fu x0.fw x0.fj x0.fp [] x0.fy (addI .i64 x0.fe (lenL x0.fv)))

noncomputable def gah.loop1 (x0 : List Tc) (s1 : Int × Int) : Option (Fl (Int × Int) (Fl Int Int)) :=
 bif (ltI s1.1 (lenL x0)) then (
  need (InB s1.1 (lenL x0)) <|
  some (.go ((addI .i64 s1.1 1), (addI .i64 s1.2 (lenS ((nthI x0 s1.1).fU)))))
 ) else (
  some (.out (.go s1.2))
 )

noncomputable def gah (x0 : List Tc) : Option Int :=
 ((loopF (gah.loop1 x0) (0, 0)).bind fun f => flC f fun (v1 : Int) =>
  some v1
 )

noncomputable def gaF (x0 : Ts) (x1 : Tc) : Option (Ts × List Tc) :=
 ((
  bif (ltI 0 (lenL x0.fv)) then (
   need (InB (subI .i64 (lenL x0.fv) 1) (lenL x0.fv)) <|
   some (.go (pickB (pickB (eqI x1.fAt (addI .i64 ((nthI x0.fv (subI .i64 (lenL x0.fv) 1)).fAt) 1)) (eqI x1.fT ((nthI x0.fv (subI .i64 (lenL x0.fv) 1)).fT)) false) (notB x1.fz) false))
  ) else (
   some (.go false)
  )
  : Option (Fl Bool (Ts × List Tc))).bind fun f => flC f fun (v1 : Bool) =>
  ((
   bif (notB v1) then (
    ((gau x0)).bind fun r1 =>
    some (.go r1)
   ) else (
    some (.go x0)
   )
   : Option (Fl Ts (Ts × List Tc))).bind fun f => flC f fun (v2 : Ts) =>
   bif (pickB (pickB (notB v1) v2.fu false) (notB x1.fz) false) then (
    some ((Ts.mk v2.fu v2.fw v2.fj v2.fp v2.fv v2.fy (addI .i64 v2.fe 1)), [])
   ) else (
    need (AppB 0 (lenL v2.fv) 48) <|
    need (AppB (lenL v2.fv) 1 48) <|
    need (Under (ltI v2.fj ((lenL v2.fv) + 1)) false ((gah (appL (appL [] v2.fv) [x1])).isSome = true)) <|
    bif (pickB (ltI v2.fj ((lenL v2.fv) + 1)) true (ltI v2.fw ((gah (appL (appL [] v2.fv) [x1])).getD dflt))) then (
     ((gau (Ts.mk v2.fu v2.fw v2.fj v2.fp (appL (appL [] v2.fv) [x1]) v2.fy v2.fe))).bind fun r2 =>
     some (r2, [])
    ) else (
     bif (pickB v2.fu (notB x1.fC) false) then (
      some ((Ts.mk v2.fu v2.fw v2.fj v2.fp (appL (appL [] v2.fv) [x1]) v2.fy v2.fe), [])
     ) else (
      some ((Ts.mk v2.fu v2.fw v2.fj v2.fp [] (addI .i64 v2.fy 1) v2.fe), (appL (appL [] v2.fv) [x1]))
     )
    )
   )
  )
 )

noncomputable def gaH (x0 : Ts) (x1 : Int) : Option (Ts × Bool) :=
 need (Under (eqI (lenL x0.fv) 0) false (InB 0 (lenL x0.fv))) <|
 bif (pickB (eqI (lenL x0.fv) 0) true (ltI (subI .i64 x1 ((nthI x0.fv 0).fO)) x0.fp)) then (
  some (x0, false)
 ) else (
  ((gau x0)).bind fun r1 =>
  some (r1, true)
 )
end Go.Proofs
end
section
namespace Go.Proofs
open Go.Ab
noncomputable def gaO (x0 : Te) (x1 : ByteArray) : Option Bool :=
 need (Under (pickB (pickB x0.fz (eqI x0.fD 0) false) (ltI 0 (lenS x1)) false) true (InB 0 (lenS x1))) <|
 need (Under (pickB (pickB x0.fz (eqI x0.fD 0) false) (ltI 0 (lenS x1)) false) true (NonZ 2)) <|
 some (pickB (pickB (pickB x0.fz (eqI x0.fD 0) false) (ltI 0 (lenS x1)) false) (eqI (remI (idxS x1 0) 2) 0) false)

noncomputable def gab.loop1 (x0 : List Tj) (x1 : Int) (s1 : Int) : Option (Fl Int (Fl Unit Tb)) :=
 bif (ltI s1 (lenL x0)) then (
  need (InB s1 (lenL x0)) <|
  bif (eqI ((nthI x0 s1).fAt) x1) then (
   some (.out (.out ((nthI x0 s1).fP)))
  ) else (
   some (.go (addI .i64 s1 1))
  )
 ) else (
  some (.out (.go ()))
 )

noncomputable def gab (x0 : List Tj) (x1 : Int) : Option Tb :=
 ((loopF (gab.loop1 x0 x1) 0).bind fun f => flC f fun (_v1 : Unit) =>
  some (Tb.mk false 0 0 0 0 [] false 0 ⟨#[]⟩ ⟨#[]⟩ 0)
 )

noncomputable def gay (x0 : Td) (x1 : Ta) : Option (Td × Tc) :=
 ((gab x0.fL x1.fAt)).bind fun r1 =>
 ((gaG x0.fh (cvtI .i64 r1.fT))).bind fun r2 =>
 ((gaj r1.fF)).bind fun r3 =>
 ((
  bif (pickB x0.fc.fu (eqI r3.2.2 0) false) then (
   ((gaO r3.1 r3.2.1)).bind fun r4 =>
   some (.go (Tc.mk x1.fAt r2.2 (pickB r1.fC (neS r1.fF ⟨#[]⟩) false) (pickB r3.1.fz (eqI r3.1.fD 0) false) r4 r1.fF x1.fO))
  ) else (
   some (.go (Tc.mk x1.fAt r2.2 (pickB r1.fC (neS r1.fF ⟨#[]⟩) false) false false r1.fF x1.fO))
  )
  : Option (Fl Tc (Td × Tc))).bind fun f => flC f fun (v1 : Tc) =>
  some ((Td.mk x0.ff r2.1 x0.fm x0.fc x0.fL x0.fq x0.fo), v1)
 )

noncomputable def gG.loop1 (x1 : List Ta) (s1 : Int × List (List Tc) × Td) : Option (Fl (Int × List (List Tc) × Td) (Fl (List (List Tc) × Td) (Td × List (List Tc)))) :=
 bif (ltI s1.1 (lenL x1)) then (
  need (InB s1.1 (lenL x1)) <|
  ((gay s1.2.2 (nthI x1 s1.1))).bind fun r1 =>
  ((gaF r1.1.fc r1.2)).bind fun r2 =>
  bif (ltI 0 (lenL r2.2)) then (
   need (AppB (lenL s1.2.1) 1 24) <|
   need (InB 0 (lenL r2.2)) <|
   bif (nthI r2.2 0).fJ then (
    some (.go ((addI .i64 s1.1 1), (appL s1.2.1 [r2.2]), (Td.mk r1.1.ff r1.1.fh r1.1.fm r2.1 r1.1.fL r1.1.fq (addI .i64 r1.1.fo 1))))
   ) else (
    some (.go ((addI .i64 s1.1 1), (appL s1.2.1 [r2.2]), (Td.mk r1.1.ff r1.1.fh r1.1.fm r2.1 r1.1.fL r1.1.fq r1.1.fo)))
   )
  ) else (
   some (.go ((addI .i64 s1.1 1), s1.2.1, (Td.mk r1.1.ff r1.1.fh r1.1.fm r2.1 r1.1.fL r1.1.fq r1.1.fo)))
  )
 ) else (
  some (.out (.go (s1.2.1, s1.2.2)))
 )

noncomputable def gG (x0 : Td) (x1 : List Ta) : Option (Td × List (List Tc)) :=
 ((loopF (gG.loop1 x1) (0, [], x0)).bind fun f => flC f fun (v1 : List (List Tc) × Td) =>
  some (v1.2, v1.1)
 )

noncomputable def gaN (x0 : Td) (x1 : Tb) (x2 : Int) : Option (Td × List (List Tc) × Int) :=
 ((gaI x0.ff (cvtI .i64 x1.ff))).bind fun r1 =>
 bif (notB r1.2.2) then (
  some ((Td.mk r1.1 x0.fh x0.fm x0.fc x0.fL (addI .i64 x0.fq 1) x0.fo), [], 13)
 ) else (
  ((gB x0.fm (Ta.mk r1.2.1 ⟨#[]⟩ x2))).bind fun r2 =>
  bif (neI r2.2.2 0) then (
   some ((Td.mk r1.1 x0.fh r2.1 x0.fc x0.fL (addI .i64 x0.fq 1) x0.fo), [], r2.2.2)
  ) else (
   need (AppB 0 (lenL x0.fL) 96) <|
   need (AppB (lenL x0.fL) 1 96) <|
   ((gG (Td.mk r1.1 x0.fh r2.1 x0.fc (appL (appL [] x0.fL) [(Tj.mk r1.2.1 x1)]) x0.fq x0.fo) r2.2.1)).bind fun r3 =>
   some (r3.1, r3.2, 0)
  )
 )

noncomputable def gaD (x0 : Td) (x1 : Int) : Option (Td × List (List Tc)) :=
 ((gag x0.fm x1)).bind fun r1 =>
 ((gG (Td.mk x0.ff x0.fh r1.1 x0.fc x0.fL x0.fq x0.fo) r1.2)).bind fun r2 =>
 ((gaH r2.1.fc x1)).bind fun r3 =>
 some ((Td.mk r2.1.ff r2.1.fh r2.1.fm r3.1 r2.1.fL r2.1.fq r2.1.fo), r2.2)
end Go.Proofs
end
section
namespace Go.Proofs
open Go.Ab Go.Shelf
theorem libKeys.gaP.ok : SpecOk Tryz.prog 61 (keysS 84) :=
  keys_ok Tryz.keysA rfl rfl (enters_of Tryz.func61 (by kernel_rfl) rfl)
theorem Tryz.sorts (m : Nat) : AnyZI.SortsIn Tryz.prog Tryz.sortedA_ren Fence.wide m :=
  ⟨fun blk off cap ss W hH hblk hsz => callsIn_wide.2 (AnyM.slices_Sort_int Tryz.sortA blk off cap ss W hH hblk hsz),
   fun p cap W => callsIn_wide.2 (AnyM.slices_Sort_int_none Tryz.sortA p cap W)⟩
theorem libSorted.gSlicesSortedInt64.ok : SpecOk Tryz.prog 60 (sortedS 84) :=
  sorted_ok Tryz.sortedA { Tryz.keysA with } rfl rfl (enters_of Tryz.func60 (by kernel_rfl) rfl) Tryz.sorts (enters_of Tryz.func83 (by kernel_rfl) rfl) (enters_of Tryz.func84 (by kernel_rfl) rfl)
theorem libCollect.gSlicesCollectInt64.ok : SpecOk Tryz.prog 82 (collectS 84) :=
  collect_ok Tryz.collectA { Tryz.keysA with } rfl rfl (enters_of Tryz.func82 (by kernel_rfl) rfl) (enters_of Tryz.func84 (by kernel_rfl) rfl)
theorem libMin.gk.ok : SpecOk Tryz.prog 81 minS :=
  min_ok (fun l M hb => by
    have h := _root_.Go.Proofs.gk.ok [.sl (l.map (Go.Ab.eNum IntKind.i64)) .no] M _ rfl
    intro g vs hM sm hr _
    have h2 := h g vs hM sm hr (by simp [min_plain hb])
    simpa [min_plain hb] using h2)
    (fun l l' hp hb => by
      have hne : l' ≠ [] := fun e => by rw [e] at hb; exact absurd hb.1 (by simp)
      exact minL_of (hp.mem_iff.2 (minL_mem hne)) fun x hx => minL_le x (hp.mem_iff.1 hx))
end Go.Proofs
end
section
namespace Go.Proofs
open Go.Ab
@[simp] def gaM.out (_x0 : ByteArray) (_x1 : Int) (r : ByteArray) : Out := { av := .lit (.string r), M := none }
set_option maxHeartbeats 4000000 in
set_option maxRecDepth 100000 in
theorem gaM.can (x0 : ByteArray) (x1 : Int) (r : ByteArray) (hr : gaM x0 x1 = some r) : CallOk Tryz.prog 8 [.lit (.string x0), .lit (.int .i64 x1)] [] (gaM.out x0 x1 r) := by
 unfold gaM at hr
 have hΓ := gamL_nil (P := Tryz.prog)
 refine Le Tryz.tyOk Tryz.func8 rfl (by kernel_rfl) rfl rfl (by simp) ?_
 intro _ _ _
 refine AWp.then ⟨[⟨0, none, .s x0⟩, ⟨1, none, .n x1⟩], []⟩ (AWp.reg Tryz.tyOk hΓ [] [] (by kernel_rfl) rfl (by simp)) ?_
 refine AWp.seq ?_
 refine AWp.then ⟨[⟨8, none, .b (ltI x1 (lenS x0))⟩, ⟨0, none, .s x0⟩, ⟨1, none, .n x1⟩], []⟩ (AWp.reg Tryz.tyOk hΓ [8] [] (by kernel_rfl) rfl (by simp)) ?_
 refine AWp.cond (b := (ltI x1 (lenS x0))) (by simp) (fun h3 => ?_) (fun h3 => ?_)
 ·have hr := Li h3 hr
  obtain ⟨h4, hr⟩ := Lc hr
  refine AWp.thenA [⟨4, none, .s (cutS x0 0 x1)⟩] (AWp.reg Tryz.tyOk hΓ [4] [8, 0, 1] (by kernel_rfl) rfl (by simp [h3, h4])) ?_
  refine AWp.ret ?_
  obtain rfl := La hr
  refine Lf ?_
  simp
 ·have hr := Lj h3 hr
  refine AWp.skip ?_
  refine AWp.then ⟨[⟨4, none, .s x0⟩], []⟩ (AWp.reg Tryz.tyOk hΓ [4] [8, 0, 1] (by kernel_rfl) rfl (by simp [h3])) ?_
  refine AWp.ret ?_
  obtain rfl := La hr
  refine Lf ?_
  simp

@[simp] noncomputable def gaM.S : Sp
 | [.lit (.string x0), .lit (.int .i64 x1)], _ => some { av := .lit (.string ((gaM x0 x1).getD dflt)), M := none, obl := (gaM x0 x1).isSome = true }
 | _, _ => none

set_option maxHeartbeats 1000000 in
theorem gaM.ok : SpecOk Tryz.prog 8 gaM.S := by
 intro l M out h
 unfold gaM.S at h
 split at h
 ·rename_i x0 x1
  cases h
  refine callOk_of fun ho => ?_
  have hs := ho
  obtain ⟨r, hr⟩ := Option.isSome_iff_exists.1 hs
  simp only [hr, Option.getD_some]
  have q := Lg (M := M) [] (gaM.can x0 x1 r hr) (by simp) rfl (by intro k i hk; simp at hk)
  exact callOk_conv q trivial (by simp) (by simp [frameOut, gaM.out]) (by simp [frameOut, gaM.out])
 ·cases h
end Go.Proofs
end
section
namespace Go.Ab
@[simp] theorem encL_d {α : Type} (e : α → List AV) (x : List α) : encL e x = [.sl (x.map e) .no] := rfl
@[simp] theorem encLL_bel {α : Type} {e : α → List AV} {n : Nat} (h : ∀ l : List α, belLL n (l.map e)) (l : List (List α)) : belLL n (l.map (encL e)) :=
  bel_map (fun x => by simp [h x]) l
@[simp] theorem encLL_ren {α : Type} {e : α → List AV} {σ : Nat → Nat} (h : ∀ l : List α, renLL σ (l.map e) = l.map e) (l : List (List α)) : renLL σ (l.map (encL e)) = l.map (encL e) :=
  ren_map (fun x => by simp [h x]) l
@[simp high] theorem encL_nth {α : Type} {e : α → List AV} {l : List (List α)} (n : Int) : nthL (l.map (encL e)) n.toNat [.sl [] .no] = [.sl ((nthI l n).map e) .no] := by
  simp only [nthL, nthI, List.getD_eq_getElem?_getD, List.getElem?_map]
  cases l[n.toNat]? <;> rfl
@[simp] theorem decL_d {α : Type} (d : List AV → α) (els : List (List AV)) (tok : Tok) : decL d [.sl els tok] = els.map d := rfl
@[simp] theorem map_decencL {α : Type} {e : α → List AV} {d : List AV → α} (h : d ∘ e = id) (l : List (List α)) : l.map (decL d ∘ encL e) = l := by
  rw [encL_comp h, List.map_id]

/-! ### One state says what another one says: twice -/
theorem Weak.trans {a b : AV} (h : Weak a b) : ∀ {c : AV}, Weak b c → Weak a c := by
  induction h with
  | refl a => intro c h; exact h
  | tok els tok =>
    intro c h
    cases h with
    | refl => exact .tok _ _
    | tok => exact .tok _ _
  | agg l l' hl h ih =>
    intro c h'
    cases h' with
    | refl => exact .agg _ _ hl h
    | agg _ l'' hl' h'' => exact .agg _ _ (hl.trans hl') fun j h1 h2 => ih j h1 (by omega) (h'' j (by omega) h2)
  | tup l l' hl h ih =>
    intro c h'
    cases h' with
    | refl => exact .tup _ _ hl h
    | tup _ l'' hl' h'' => exact .tup _ _ (hl.trans hl') fun j h1 h2 => ih j h1 (by omega) (h'' j (by omega) h2)
theorem WObj.trans {a b c : AObj} (h : WObj a b) (h' : WObj b c) : WObj a c := by
  cases h with
  | refl => exact h'
  | dead =>
    cases h' with
    | refl => exact .dead _
    | dead => exact .dead _
  | mapr es vis cur t =>
    cases h' with
    | refl => exact .mapr _ _ _ _
    | dead => exact .dead _
  | blk l l' hl h =>
    cases h' with
    | refl => exact .blk _ _ hl h
    | dead => exact .dead _
    | blk _ l'' hl' h'' => exact .blk _ _ (hl.trans hl') fun j h1 h2 => (h j h1 (by omega)).trans (h'' j (by omega) h2)
theorem WMem.trans {a b : List AObj} (h : WMem a b) : ∀ {c : List AObj}, WMem b c → WMem a c := by
  induction h with
  | nil => intro c h; exact h
  | cons h _ ih =>
    intro c h'
    cases h' with
    | cons q r => exact .cons (h.trans q) (ih r)
theorem WMem.take {a b : List AObj} (h : WMem a b) : ∀ n : Nat, WMem (a.take n) (b.take n) := by
  induction h with
  | nil => intro n; simp only [List.take_nil]; exact .nil
  | cons h _ ih =>
    intro n
    cases n with
    | zero => exact .nil
    | succ n => exact .cons h (ih n)
theorem subE_mem {A : Env} : ∀ {A' : Env}, subE A A' → ∀ e ∈ A', e.tag = none ∧ ∃ av, ent A e.t = some (none, av) ∧ Weak av e.av
  | ⟨t, tag, av⟩ :: r, h, e, he => by
    obtain ⟨h1, h2⟩ := h
    rcases List.mem_cons.1 he with rfl | he
    · split at h1
      · rename_i av' htag hent
        exact ⟨htag, av', hent, h1⟩
      · exact h1.elim
    · exact subE_mem h2 e he
theorem subE_of {A : Env} : ∀ {A' : Env}, (∀ e ∈ A', e.tag = none ∧ ∃ av, ent A e.t = some (none, av) ∧ Weak av e.av) → subE A A'
  | [], _ => trivial
  | ⟨t, tag, av⟩ :: r, h => by
    obtain ⟨h1, av', h2, h3⟩ := h _ (.head _)
    simp only at h1 h2 h3
    refine ⟨?_, subE_of fun e he => h e (.tail _ he)⟩
    simp only [h1, h2]
    exact h3
theorem Conv.trans {B m m' : Nat} {σ σ' σ'' : St} (h : Conv B m σ σ') (h' : Conv B m' σ' σ'') : Conv B m' σ σ'' := by
  obtain ⟨a1, a2, a3, a4, a5, a6⟩ := h
  obtain ⟨b1, b2, b3, b4, b5, b6⟩ := h'
  have hl := a5.length
  rw [List.length_take] at hl
  have hm : m' ≤ m := by omega
  refine ⟨b1, by omega, subE_of fun e he => ?_, b4, ?_, b6⟩
  · obtain ⟨e1, av, e2, e3⟩ := subE_mem b3 e he
    obtain ⟨_, av', e5, e6⟩ := subE_mem a3 _ (ent_mem e2)
    exact ⟨e1, av', e5, e6.trans e3⟩
  · have := a5.take m'
    rw [List.take_take, Nat.min_eq_left hm] at this
    exact this.trans b5
end Go.Ab
end
section
namespace Go.Proofs
open Go.Ab
end Go.Proofs
end
