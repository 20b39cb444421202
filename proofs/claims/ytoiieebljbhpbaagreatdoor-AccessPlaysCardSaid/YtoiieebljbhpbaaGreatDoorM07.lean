import Derived.Test.YtoiieebljbhpbaaGreatDoorTs
import Derived.Test.YtoiieebljbhpbaaGreatDoorM08
import Derived.Test.YtoiieebljbhpbaaGreatDoorM11
import Derived.Test.YtoiieebljbhpbaaGreatDoorM13
import Derived.Test.YtoiieebljbhpbaaGreatDoorM15
import Derived.Test.YtoiieebljbhpbaaGreatDoorM19
import Derived.Test.YtoiieebljbhpbaaGreatDoorTy
import Derived.Test.YtoiieebljbhpbaaGreatDoorNq
import Derived.Shelf.Strings.CaseAny
section
namespace Go.Proofs
open Go.Ab
noncomputable def gad.loop2 (r6 : List Ta) (r7 : List Ta) (s2 : Int) : Option (Fl Int (Fl Unit (Fl Int (Fl Unit Int)))) :=
 bif (ltI s2 (lenL r7)) then (
  need (InB s2 (lenL r6)) <|
  need (InB s2 (lenL r7)) <|
  bif (notB (pickB (eqI ((nthI r6 s2).fN) ((nthI r7 s2).fN)) (pickB (eqS ((nthI r6 s2).fo) ((nthI r7 s2).fo)) (eqS ((nthI r6 s2).fk) ((nthI r7 s2).fk)) false) false)) then (
   some (.out (.out (.out (.out (-1)))))
  ) else (
    some (.go (addI .i64 s2 1))
  )
 ) else (
   some (.out (.go ()))
 )
noncomputable def gad.loop1 (x0 : Tq) (x1 : Tl) (r3 : List ByteArray) (s1 : Int) : Option (Fl Int (Fl Unit Int)) :=
 bif (ltI s1 (lenL r3)) then (
  need (InB s1 (lenL r3)) <|
  ((gE x0 (nthI r3 s1))).bind fun r6 =>
  ((gak x1 (nthI r3 s1))).bind fun r7 =>
  need (Under (ltI 0 s1) true (InB (subI .i64 s1 1) (lenL r3))) <|
  bif (pickB (pickB (pickB (pickB (ltI 0 s1) (notB (ltS (nthI r3 (subI .i64 s1 1)) (nthI r3 s1))) false) true (neI (lenL r6) (lenL r7))) true (eqI (lenL r6) 0)) true (ltI 16 (lenL r6))) then (
   some (.out (.out (-1)))
  ) else (
    ((loopF (gad.loop2 r6 r7) 0).bind fun f => flC f fun (_v2 : Unit) =>
      some (.go (addI .i64 s1 1))
    )
  )
 ) else (
   some (.out (.go ()))
 )
noncomputable def gad (x0 : Tq) (x1 : Tl) (x2 : Int) : Option Int :=
 ((gaa x0 x2)).bind fun r1 =>
 ((gQ x1 x2)).bind fun r2 =>
 ((gN x0)).bind fun r3 =>
 ((gY x1)).bind fun r4 =>
 ((gZ x0)).bind fun r5 =>
 bif (pickB (pickB (pickB (pickB (neI r5 (lenL x1.fL)) true (notB (pickB (eqI r1.1.fN r2.1.fN) (pickB (eqS r1.1.fo r2.1.fo) (eqS r1.1.fk r2.1.fk) false) false))) true (neB r1.2 r2.2)) true (neI (lenL r3) (lenL r4))) true (ltI 8 (lenL r3))) then (
  some (-1)
 ) else (
   ((loopF (gad.loop1 x0 x1 r3) 0).bind fun f => flC f fun (_v1 : Unit) =>
     some 0
   )
 )
end Go.Proofs
end
section
namespace Go.Proofs
open Go.Ab
@[simp] theorem peer_setVI (k : IntKind) (x a : Int) (b c : ByteArray) (m : List (Int × Ta)) : setV (.int k x) (.agg [.lit (.int .i64 a), .lit (.string b), .lit (.string c)]) (encM (kI k) (vA Ta.enc) m) = encM (kI k) (vA Ta.enc) (setM eqI x (Ta.mk a b c) m) :=
  setV_I (vE := vA Ta.enc) (v := Ta.mk a b c) (by simp [vA]) x m
theorem keysM_setM {k : ByteArray} {v : Int} : ∀ {m : List (ByteArray × Int)} {x : ByteArray}, x ∈ keysM (setM eqS k v m) ↔ x = k ∨ x ∈ keysM m
 | [], x => by simp [setM, keysM]
 | e :: r, x => by
   rw [setM];split
   ·rename_i h;have h' : k = e.1 := (eqS_iff _ _).1 h;simp only [keysM, List.map_cons, List.mem_cons];rw [← h'];constructor
    ·rintro (h | h)
     ·exact .inl h
     ·exact .inr (.inr h)
    ·rintro (h | h | h)
     ·exact .inl h
     ·exact .inl h
     ·exact .inr h
   ·have ih := keysM_setM (k := k) (v := v) (m := r) (x := x);simp only [keysM, List.map_cons, List.mem_cons] at ih ⊢;rw [ih];constructor
    ·rintro (h | h | h)
     ·exact .inr (.inl h)
     ·exact .inl h
     ·exact .inr (.inr h)
    ·rintro (h | h | h)
     ·exact .inr (.inl h)
     ·exact .inl h
     ·exact .inr (.inr h)
theorem nodup_setM {k : ByteArray} {v : Int} : ∀ {m : List (ByteArray × Int)}, (keysM m).Nodup → (keysM (setM eqS k v m)).Nodup
 | [], _ => by simp [setM, keysM]
 | e :: r, h => by
   rw [setM];simp only [keysM, List.map_cons, List.nodup_cons] at h;split
   ·rename_i hk;have h' : k = e.1 := (eqS_iff _ _).1 hk;simp only [keysM, List.map_cons, List.nodup_cons];rw [h']; exact h
   ·rename_i hk;simp only [keysM, List.map_cons, List.nodup_cons];refine ⟨fun q => ?_, nodup_setM h.2⟩;rcases keysM_setM.1 q with q | q
    ·exact hk ((eqS_iff _ _).2 q.symm)
    ·exact h.1 q
set_option maxHeartbeats 4000000 in
set_option maxRecDepth 100000 in
theorem gaG.can (x0 : Tq) (r : List ByteArray) (hr : gaG x0 = some r) : CallOk Tryz.prog 84 [.ptr 0 0] [.blk [.mp 1, .lit (.int .i64 x0.fh)], .mapo (encM (kI .i64) (vA Ta.enc) x0.fg)] { av := .sl (r.map eTxt) .no, M := none } := by
 unfold gaG at hr;obtain ⟨hf, hr⟩ := Ld hr;obtain ⟨hk, hr⟩ := Ld hr;obtain rfl := La hr;have hΓ := (gamL_cons gW.ok (gamL_cons libKeys.gMapsKeysMapStringIntStringInt.ok (gamL_cons libSorted.gSlicesSortedString.ok (gamL_nil))) : GamOk Tryz.prog _);refine call_of_awp Tryz.tyOk Tryz.func84 rfl (by kernel_rfl) rfl rfl (by simp) ?_;intro _ _ _;refine AWp.then ⟨[⟨0, none, .ptr 0 0⟩], [.blk [.mp 1, .n x0.fh], .mapo (encM (kI .i64) (vA Ta.enc) x0.fg)]⟩ (AWp.reg Tryz.tyOk hΓ [] [] (by kernel_rfl) rfl (by simp)) ?_;refine AWp.then ⟨[⟨3, none, .mp 2⟩, ⟨0, none, .ptr 0 0⟩], [.blk [.mp 1, .n x0.fh], .mapo (encM (kI .i64) (vA Ta.enc) x0.fg), .mapo (encM kS (kI .i64) ([] : List (ByteArray × Int)))]⟩ (AWp.reg Tryz.tyOk hΓ [3] [] (by kernel_rfl) rfl (by simp)) ?_;refine AWp.seq ?_;refine AWp.then ⟨[⟨11, none, .it 3⟩, ⟨3, none, .mp 2⟩], [.blk [.mp 1, .n x0.fh], .mapr (encM (kI .i64) (vA Ta.enc) x0.fg) [] none 3, .mapo (encM kS (kI .i64) ([] : List (ByteArray × Int))), .dead]⟩ (AWp.reg Tryz.tyOk hΓ [11] [0] (by kernel_rfl) rfl (by simp)) ?_
 refine AWp.rangeM (kk := .i64) (vE := vA Ta.enc) (i := 1) (u := 3) (mm := 4) x0.fg
  (fun done x => (keysM x).Nodup ∧ (∀ e ∈ done, e ∈ x0.fg) ∧ ∀ s, s ∈ keysM x ↔ s ∈ foldsM done)
  (fun (x : List (ByteArray × Int)) vis cur => ⟨[⟨11, none, .it 3⟩, ⟨3, none, .mp 2⟩], [.blk [.mp 1, .lit (.int .i64 x0.fh)], .mapr (encM (kI .i64) (vA Ta.enc) x0.fg) vis cur 3, .mapo (encM kS (kI .i64) x), .dead]⟩)
  (fun x => ⟨[⟨3, none, .mp 2⟩], [.blk [.mp 1, .lit (.int .i64 x0.fh)], .mapo (encM (kI .i64) (vA Ta.enc) x0.fg), .mapo (encM kS (kI .i64) x)]⟩)
  (fun _ _ _ => rfl) ([] : List (ByteArray × Int)) (by simp) ⟨.nil, (fun _ h => by cases h), fun s => Iff.rfl⟩ (fun x vis cur done hN hI hv => ?_) (fun x σ1 mx done hp hI hc => ?_)
 ·refine AWp.seq (AWp.regNextI Tryz.tyOk hΓ (t := 11) (u := 3) (i := 1) (d1 := 12) rfl rfl rfl rfl (keep := [13]) (dead := []) (by kernel_rfl) rfl (by simp) rfl
   (fun h15 => ⟨⟨[⟨13, none, .lit (.bool false)⟩, ⟨11, none, .it 3⟩, ⟨3, none, .mp 2⟩], [.blk [.mp 1, .lit (.int .i64 x0.fh)], .mapr (encM (kI .i64) (vA Ta.enc) x0.fg) vis cur 3, .mapo (encM kS (kI .i64) x), .dead]⟩, by simp, ?_⟩)
   (fun k v _ h16 h17 h18 => ⟨⟨[⟨13, none, .lit (.bool true)⟩, ⟨11, none, .it 3⟩, ⟨3, none, .mp 2⟩], [.blk [.mp 1, .lit (.int .i64 x0.fh)], .mapr (encM (kI .i64) (vA Ta.enc) x0.fg) (.int .i64 k :: vis) (some (.int .i64 k)) 3, .mapo (encM kS (kI .i64) x), .dead]⟩, by simp, ?_⟩))
  ·refine AWp.seq ?_;refine AWp.cond (b := false) (by simp) (fun hb => ?_) (fun hb => ?_)
   ·cases hb
   ·refine AWp.exit ?_;exact .inl ⟨rfl, h15, 3, by simp⟩
  ·refine AWp.seq ?_;refine AWp.cond (b := true) (by simp) (fun hb => ?_) (fun hb => ?_)
   ·refine AWp.skip ?_;refine AWp.block ?_;have hat := getV_at (kk := .i64) (vE := vA Ta.enc) (z := .lit undef) hN h17;refine AWp.then ⟨[⟨5, none, .ptr 4 0⟩, ⟨11, none, .it 3⟩, ⟨3, none, .mp 2⟩], [.blk [.mp 1, .n x0.fh], .mapr (encM (kI .i64) (vA Ta.enc) x0.fg) (.int .i64 k :: vis) (some (.int .i64 k)) 3, .mapo (encM kS (kI .i64) x), .dead, .blk v.enc]⟩ (AWp.reg Tryz.tyOk hΓ [5] [13] (by kernel_rfl) rfl (by simp [h18, hat, vA])) ?_;obtain ⟨s, hs⟩ := Option.isSome_iff_exists.1 (hf _ h17);simp only at hs;refine AWp.last ⟨[⟨11, none, .it 3⟩, ⟨3, none, .mp 2⟩], [.blk [.mp 1, .n x0.fh], .mapr (encM (kI .i64) (vA Ta.enc) x0.fg) (.int .i64 k :: vis) (some (.int .i64 k)) 3, .mapo (encM kS (kI .i64) (setM eqS s (addI .i64 (getM eqS s 0 x) 1) x)), .dead, .blk v.enc]⟩ (AWp.reg Tryz.tyOk hΓ [] [5] (by kernel_rfl) rfl (by simp [hs])) ?_;refine .inr ⟨rfl, k, v, h16, h17, setM eqS s (addI .i64 (getM eqS s 0 x) 1) x, ⟨nodup_setM hI.1, fun e he => ?_, fun q => ?_⟩, 4, by simp⟩
    ·rcases List.mem_cons.1 he with rfl | he
     ·exact h17
     ·exact hI.2.1 e he
    ·rw [keysM_setM, hI.2.2 q];simp only [foldsM, List.map_cons, List.mem_cons, hs, Option.getD_some]
   ·cases hb
 ·refine AWp.conv hc ?_
  have hperm : (keysM x).Perm (nubL (foldsM x0.fg)) := by
   refine (List.perm_ext_iff_of_nodup hI.1 (nodup_nubL _)).2 fun s => ?_;rw [hI.2.2 s, mem_nubL];exact (hp.map _).mem_iff
  have hsort : sortS (keysM x) = sortS (nubL (foldsM x0.fg)) := sortS_perm hperm
  have hkb : KeysBS (keysM x) := by
   refine ⟨fun q hq => hk.1 q (mem_nubL.1 (hperm.mem_iff.1 hq)), ?_⟩;have h1 := hk.2;have h2 : (keysM x).length ≤ (foldsM x0.fg).length := nodup_len hI.1 fun q hq => mem_nubL.1 (hperm.mem_iff.1 hq);omega
  refine AWp.then ⟨[⟨2, none, .sl ((sortS (nubL (foldsM x0.fg))).map eTxt) .no⟩], [.blk [.mp 1, .n x0.fh], .mapo (encM (kI .i64) (vA Ta.enc) x0.fg), .mapo (encM kS (kI .i64) x)]⟩ (AWp.reg Tryz.tyOk hΓ [2] [3] (by kernel_rfl) rfl (by simp [hsort, hkb])) ?_;refine AWp.ret ?_;refine Lb ?_;simp
end Go.Proofs
end
section
namespace Go.Proofs
open Go.Ab
@[simp] def gN.m (x0 : Tq) : List AObj := [.blk [.mp 1, .lit (.int .i64 x0.fh)], .mapo (encM (kI .i64) (vA Ta.enc) x0.fg)]
@[simp] def gN.out (_x0 : Tq) (r : List ByteArray) : Out := { av := .sl (r.map eTxt) .no, M := none }
set_option maxHeartbeats 4000000 in
set_option maxRecDepth 100000 in
theorem gN.can (x0 : Tq) (r : List ByteArray) (hr : gN x0 = some r) : CallOk Tryz.prog 84 [.ptr 0 0] (gN.m x0) (gN.out x0 r) := by
 unfold gN at hr;obtain ⟨r1, h1, hr⟩ := Lc (show (gaG x0).bind (fun r1 => some r1) = some r from hr);obtain rfl := La hr;exact gaG.can x0 _ h1
@[simp] noncomputable def gN.S : Sp
  | [.ptr i0 0], M => (rdB M i0).bind fun c0 => (rdM c0 0).bind fun i1 => (rdE M i1).bind fun c1 => some { av := .sl (((gN (Tq.dec c0 (decM dkI (dvA Ta.dec) c1))).getD dflt).map eTxt) .no, M := none, obl := c0 = Tq.enc (Tq.dec c0 (decM dkI (dvA Ta.dec) c1)) i1 ∧ c1 = encM (kI .i64) (vA Ta.enc) ((Tq.dec c0 (decM dkI (dvA Ta.dec) c1)).fg) ∧ (gN (Tq.dec c0 (decM dkI (dvA Ta.dec) c1))).isSome = true ∧ i0 ≠ i1 }
  | _, _ => none
set_option maxHeartbeats 1000000 in
theorem gN.ok : SpecOk Tryz.prog 84 gN.S := by
 intro l M out h;unfold gN.S at h;split at h
 ·rename_i i0;obtain ⟨c0, hM0, h⟩ := bB h;obtain ⟨i1, he1, h⟩ := bM h;obtain ⟨c1, hM1, h⟩ := bE h;cases h;refine callOk_of fun ho => ?_;obtain ⟨oc0, oc1, hs, hne0⟩ := ho;generalize (Tq.dec c0 (decM dkI (dvA Ta.dec) c1)) = y0 at *
  subst oc0;subst oc1;obtain ⟨r, hr⟩ := so1 hs;simp only [hr, gd1];have q := Lf (M := M) [i0, i1] (gN.can y0 r hr) (by simp [hne0]) rfl (ix (by simp [hM0, into]) (ix (by simp [hM1]) ixn));exact callOk_conv q trivial (by simp [into]) (by simp [frameOut, into]) (by simp only [frameOut, gN.out, Option.getD_some, Option.getD_none]; simp [into, hM0, hM1, set_same])
 ·cases h
end Go.Proofs
end
section
namespace Go.Proofs
open Go.Ab Go.Lib
theorem lower_rng {r : Int} (h0 : 0 ≤ r) (h1 : r ≤ 1114111) : I32B (lowerR r) := by
 obtain ⟨n, rfl⟩ : ∃ n : Nat, r = n := ⟨r.toNat, by omega⟩;have := toLowerU_range n (by omega);unfold lowerR;exact ⟨by omega, by omega⟩
theorem lower_S (s : ByteArray) (pos : Nat) : I32B (lowerR (runeS s pos)) := by
 rw [runeS_d];have := rune_rng (restS s pos);exact lower_rng this.1 this.2
noncomputable def foldS (s : ByteArray) : ByteArray := runesBytes ((scan s 0).map lowerR)
theorem foldS_b (s : ByteArray) : bytesOf (foldS s) = ((scan s 0).map lowerR).flatMap encodeRune := runes_b _
theorem runeZ_len (r : Int) : 1 ≤ (runeZ r).length ∧ (runeZ r).length ≤ 4 := encodeRuneZ_length r
theorem fold_loop (s : ByteArray) : ∀ (m pos : Nat) (out : List Int), (restS s pos).length ≤ m → out.length + 4 * m ≤ 100000000 →
  loopF (gW.loop1 s) (out, pos) = some (.go (out ++ (scan s pos).flatMap fun r => runeZ (lowerR r))) := by
 intro m
 induction m with
 | zero =>
   intro pos out hm _;have h : restS s pos = [] := List.eq_nil_of_length_eq_zero (by omega);rw [loopF_eq];simp [gW.loop1, nextB_f h, scan_f h]
 | succ m ih =>
   intro pos out hm hb;by_cases h : restS s pos = []
   ·rw [loopF_eq];simp [gW.loop1, nextB_f h, scan_f h]
   have hst := step_gt s pos;have hl := restS_len s pos;have hl' := restS_len s (stepS s pos);have hpos := List.length_pos_iff.2 h;have hz := runeZ_len (lowerR (runeS s pos));rw [loopF_eq, scan_t h];simp only [gW.loop1, nextB_t h, cond_true];rw [Lh (lower_S s pos), Lh (by unfold AppB lenL; omega)];simp only [];rw [ih _ _ (by omega) (by simp only [appL, List.length_append]; omega)];simp [appL]
theorem fold_d {s : ByteArray} (hs : s.size ≤ 1000000) (h0 : bytesOf s ≠ []) : gW s = some (foldS s) := by
 unfold gW;rw [fold_loop s s.size 0 [] (by rw [restS_len]; exact Nat.le_refl _) (by simp only [List.length_nil]; omega)];simp only [Lg, flC_go, List.nil_append];have e : ((scan s 0).flatMap fun r => runeZ (lowerR r)) = ((scan s 0).map lowerR).flatMap runeZ := by rw [List.flatMap_map]
 rw [e, Lh]
 ·congr 1;exact bytes_ext (by rw [numsRune_b, foldS_b])
 ·refine ⟨?_, fun x hx => ?_⟩
  ·have hb0 : restS s 0 = bytesOf s := rfl;rw [scan_t (by rw [hb0]; exact h0), List.map_cons, List.flatMap_cons];intro q;have := congrArg List.length q;have hz := runeZ_len (lowerR (runeS s 0));simp only [List.length_append, List.length_nil] at this;omega
  ·obtain ⟨r, _, hx⟩ := List.mem_flatMap.1 hx;exact encodeRuneZ_byte r x hx
theorem rfold_loop (s : ByteArray) : ∀ (m pos : Nat) (out : List Int), (restS s pos).length ≤ m → out.length + m ≤ 10000000 →
  loopF (gF.loop1 s) (out, pos) = some (.go (out ++ (scan s pos).map lowerR)) := by
 intro m
 induction m with
 | zero =>
   intro pos out hm _;have h : restS s pos = [] := List.eq_nil_of_length_eq_zero (by omega);rw [loopF_eq];simp [gF.loop1, nextB_f h, scan_f h]
 | succ m ih =>
   intro pos out hm hb;by_cases h : restS s pos = []
   ·rw [loopF_eq];simp [gF.loop1, nextB_f h, scan_f h]
   have hst := step_gt s pos;have hl := restS_len s pos;have hl' := restS_len s (stepS s pos);have hpos := List.length_pos_iff.2 h;rw [loopF_eq, scan_t h];simp only [gF.loop1, nextB_t h, cond_true];rw [Lh (by unfold AppB lenL; omega)];simp only [];rw [ih _ _ (by omega) (by simp only [appL, List.length_append, List.length_cons, List.length_nil]; omega)];simp [appL]
theorem rfold_d {s : ByteArray} (hs : s.size ≤ 1000000) : gF s = some (foldS s) := by
 unfold gF;rw [rfold_loop s s.size 0 [] (by rw [restS_len]; exact Nat.le_refl _) (by simp only [List.length_nil]; omega)];rfl
theorem same_d {a b : ByteArray} (ha : a.size ≤ 1000000) (hb : b.size ≤ 1000000) (ha0 : bytesOf a ≠ []) (hb0 : bytesOf b ≠ []) : gan a b = some (eqS (foldS a) (foldS b)) := by
 unfold gan;rw [fold_d ha ha0, fold_d hb hb0];rfl
theorem eqS_self (a : ByteArray) : eqS a a = true := (eqS_iff a a).2 rfl
end Go.Proofs
end
