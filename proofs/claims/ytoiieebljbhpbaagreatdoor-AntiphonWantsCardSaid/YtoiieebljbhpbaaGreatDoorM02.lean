import Derived.Test.YtoiieebljbhpbaaGreatDoorM04
import Derived.Test.YtoiieebljbhpbaaGreatDoorM09
import Derived.Test.YtoiieebljbhpbaaGreatDoorM20
import Derived.Test.YtoiieebljbhpbaaGreatDoorM12
import Derived.Test.YtoiieebljbhpbaaGreatDoorM14
section
set_option maxRecDepth 100000
namespace Go.Proofs
open Go.Ab
theorem AWp.lastC {P : Program} {n B : Nat} {Q : Exit → St → Prop} {σ : St} {x : Code} (σ' : St) (h : AWp P n B x (fun e s => e = .normal ∧ ∃ mx, Conv B mx s σ') σ) (h2 : Q .normal σ') : AWp P n B x Q σ := by
 intro g0 g a at_;refine wp_mono (h g0 g a at_) fun e a' w' => ?_;rintro ⟨σ1, g1, ⟨rfl, mx, hc⟩, hw, at1⟩;obtain ⟨g2, q1, q2⟩ := hc.at at1;exact ⟨σ', g2, h2, q1.trans hw, q2⟩
section
abbrev linksM (m : List (Tb × Tf)) : List (AV × AV) := qas (vA Tb.enc) (vA Tf.enc) m
theorem del_can {f : Nat} {box : List AV} (p : Tb → Bool) {S : Sp} (hS : qap Tryz.prog f S)
  (hs : ∀ (l : Tb) (s : Tf) (M : List qau), M[1]? = some (.blk box) → S [.agg [.lit (.int .i64 l.fu), .lit (.int .i64 l.fOf.fc), .lit (.int .i64 l.fOf.ff)], .agg [.lit (.int .i64 s.fo), .lit (.bool s.fw)], .ptr 1 0] M = some { av := .lit (.bool (!(p l))), M := none })
  (hb : ∀ n, belL n box) (m : List (Tb × Tf)) :
  qao Tryz.prog 87 [.mp 0, .clo f [.ptr 1 0]] [.mapo (linksM m), .blk box] { av := .tup [], M := some [.mapo (linksM (keepK p m)), .blk box] } := by
 have hΓ := (qab hS (qae) : qbc Tryz.prog _);refine cw Tryz.func87 rfl (by kernel_rfl) rfl rfl (by simp) fun _ _ _ => ?_;refine tq hΓ [7] [] ?_;refine AWp.lastC ⟨[⟨0, none, .mp 0⟩, ⟨1, none, .clo f [.ptr 1 0]⟩], [.mapo (linksM (keepK p m)), .blk box]⟩ ?_ (fin_norm (by simp [hb]));refine AWp.pruneK (kE := vA Tb.enc) (vE := vA Tf.enc) (i := 0) (u := 2) (mm := 3) Tb.kval_enc Tb.kinj Tb.eq_iff p m (fun m1 vis1 cur1 => ⟨[⟨7, none, .it 2⟩, ⟨0, none, .mp 0⟩, ⟨1, none, .clo f [.ptr 1 0]⟩], [.mapr (linksM m1) vis1 cur1 2, .blk box, .dead]⟩) (fun m1 => ⟨[⟨0, none, .mp 0⟩, ⟨1, none, .clo f [.ptr 1 0]⟩], [.mapo (linksM m1), .blk box]⟩) (fun _ _ _ => rfl) (by simp [hb]) (fun m1 vis1 cur1 => ?_) (fun σ1 mx hc => ⟨rfl, mx, hc⟩);refine AWp.seq (AWp.regNextK Tryz.tyOk hΓ (t := 7) (u := 2) (i := 0) (d1 := 8) rfl rfl rfl rfl (keep := [9]) (dead := []) (by kernel_rfl) rfl (by simp) rfl (fun q hq => ?_) (fun h15 => ⟨⟨[⟨9, none, .b false⟩, ⟨7, none, .it 2⟩, ⟨0, none, .mp 0⟩, ⟨1, none, .clo f [.ptr 1 0]⟩], [.mapr (linksM m1) vis1 cur1 2, .blk box, .dead]⟩, by simp, ?_⟩) (fun c k v x q1 q2 q3 => ?_))
 ·obtain ⟨e, _, rfl⟩ := List.mem_map.1 hq;exact ⟨_, Tb.kval_enc e.1⟩
 ·refine AWp.seq ?_;refine AWp.cond (b := false) (by simp) (fun hx => ?_) (fun hx => ?_)
  ·cases hx
  ·refine AWp.exit ?_;refine .inl ⟨rfl, fun k v hm => ?_, 2, by simp [hb]⟩;exact h15 _ _ _ (List.mem_map.2 ⟨(k, v), hm, rfl⟩) (Tb.kval_enc k)
 ·obtain ⟨⟨l, s0⟩, hm, he⟩ := List.mem_map.1 q3;simp only [Prod.mk.injEq] at he;obtain ⟨rfl, rfl⟩ := he;rw [Tb.kval_enc l] at q1;obtain rfl := Option.some.inj q1;have hc0 := hasC_enc (vE := vA Tf.enc) Tb.sameL_enc l m1;rw [hasM_memK Tb.eq_iff hm] at hc0;simp only [Tb.enc] at hc0;have hc1 := fun z => getC_enc (vE := vA Tf.enc) Tb.sameL_enc l z default m1 (hasM_memK Tb.eq_iff hm);simp only [Tb.enc] at hc1;generalize getM Tb.eq l default m1 = s at hc1;refine ⟨⟨[⟨9, none, .lit (.bool true)⟩, ⟨7, none, .it 2⟩, ⟨0, none, .mp 0⟩, ⟨1, none, .clo f [.ptr 1 0]⟩], [.mapr (linksM m1) (keyVal l.enc :: vis1) (some (keyVal l.enc)) 2, .blk box, .dead]⟩, by simp, ?_⟩;refine AWp.seq ?_;refine AWp.cond (b := true) (by simp) (fun hx => ?_) (fun hx => ?_)
  ·refine AWp.skip ?_;refine AWp.block ?_;refine tq hΓ [4, 5] [9] ?_ (by simp [keyVal, litV, isLit, hc0, hc1, vA]; exact rr);refine tq hΓ [16] [] ?_ (by simp [hs]; exact rr);refine AWp.cond (b := !(p l)) (by simp) (fun h19 => ?_) (fun h19 => ?_)
   ·refine tl hΓ [] [16, 4, 5] ?_ (by simp; exact rr);exact .inr ⟨rfl, l, s0, q2, hm, 3, by simp [linksM, keyVal, litV, hb, show p l = false by simpa using h19]⟩
   ·refine AWp.skip ?_;exact .inr ⟨rfl, l, s0, q2, hm, 3, by simp [linksM, keyVal, litV, hb, show p l = true by simpa using h19]⟩
  ·cases hx
end
@[simp] noncomputable def deleteLS : Sp
  | [.mp i, .clo f [.ptr b 0]], M => (rdE M i).bind fun es => (rdB M b).bind fun c => if f = 126 then
    some { av := .tup [], M := some (M.set i (.mapo (linksM (keepK (fun l => !(Tc.eq l.fOf (Tc.dec c))) (decM (dvA Tb.dec) (dvA Tf.dec) es))))), obl := es = linksM (decM (dvA Tb.dec) (dvA Tf.dec) es) ∧ c = Tc.enc (Tc.dec c) ∧ i ≠ b }
    else if f = 88 then
     some { av := .tup [], M := some (M.set i (.mapo (linksM (keepK (fun l => !(eqI l.fu (decI c))) (decM (dvA Tb.dec) (dvA Tf.dec) es))))), obl := es = linksM (decM (dvA Tb.dec) (dvA Tf.dec) es) ∧ c = (eNum .i64) (decI c) ∧ i ≠ b }
    else none
  | _, _ => none
theorem libDelete.gav.ok : qap Tryz.prog 87 deleteLS := by
 intro l M out h;unfold deleteLS at h;split at h
 ·rename_i i f b;obtain ⟨es, hM, h⟩ := bE h;obtain ⟨c, hB, h⟩ := bB h;split at h
  ·rename_i hf;cases h;subst hf;refine qad fun ho => ?_;obtain ⟨he, hc, hne⟩ := ho;generalize decM (dvA Tb.dec) (dvA Tf.dec) es = m at *
   generalize Tc.dec c = key at *
   subst he;subst hc;have q := Lf (M := M) [i, b] (del_can (box := key.enc) (fun l => !(Tc.eq l.fOf key)) gN.ok (fun l s M hM => ?_) (fun _ => by simp) m) (by simp [hne]) rfl (ix (by simp [hM]) (ix (by simp [hB]) ixn))
   ·exact qac q trivial (by simp [into]) (by simp [qaa]) (by simp only [qaa, Option.getD_some]; simp [hB, hne, set_same])
   ·simp [gN, hM, Tc.eq, pickB_andB]
  ·split at h
   ·rename_i hf;cases h;subst hf;refine qad fun ho => ?_;obtain ⟨he, hc, hne⟩ := ho;generalize decM (dvA Tb.dec) (dvA Tf.dec) es = m at *
    generalize decI c = key at *
    subst he;subst hc;have q := Lf (M := M) [i, b] (del_can (box := [.lit (.int .i64 key)]) (fun l => !(eqI l.fu key)) gT.ok (fun l s M hM => ?_) (fun _ => by simp) m) (by simp [hne]) rfl (ix (by simp [hM]) (ix (by simp [hB]) ixn))
    ·exact qac q trivial (by simp [into]) (by simp [qaa]) (by simp only [qaa, Option.getD_some]; simp [hB, hne, set_same])
    ·simp [gT, hM]
   ·cases h
 ·cases h
end Go.Proofs
end
section
namespace Go.Proofs
open Go.Ab
@[simp] theorem peer_setVI (k : IntKind) (x a : Int) (b c : ByteArray) (m : List (Int × Ta)) : setV (.int k x) (.agg [.lit (.int .i64 a), .lit (.string b), .lit (.string c)]) (qas (kI k) (vA Ta.enc) m) = qas (kI k) (vA Ta.enc) (setM eqI x (Ta.mk a b c) m) :=
  setV_I (vE := vA Ta.enc) (v := Ta.mk a b c) (by simp [vA]) x m
theorem keysM_setM {k : ByteArray} {v : Int} : ∀ {m : List (ByteArray × Int)} {x : ByteArray}, x ∈ keysM (setM eqS k v m) ↔ x = k ∨ x ∈ keysM m
 | [], x => by simp [setM, keysM]
 | e :: r, x => by
   rw [setM];split
   ·rename_i h;have h' : k = e.1 := (eqS_iff _ _).1 h;simp only [keysM, List.map_cons, List.mem_cons];rw [← h'];constructor
    ·rintro (h | h)
     ·exact .inl h
     ·exact .inr (.inr h)
    ·rintro (h | h | h)
     ·exact .inl h
     ·exact .inl h
     ·exact .inr h
   ·have ih := keysM_setM (k := k) (v := v) (m := r) (x := x);simp only [keysM, List.map_cons, List.mem_cons] at ih ⊢;rw [ih];constructor
    ·rintro (h | h | h)
     ·exact .inr (.inl h)
     ·exact .inl h
     ·exact .inr (.inr h)
    ·rintro (h | h | h)
     ·exact .inr (.inl h)
     ·exact .inl h
     ·exact .inr (.inr h)
theorem nodup_setM {k : ByteArray} {v : Int} : ∀ {m : List (ByteArray × Int)}, (keysM m).Nodup → (keysM (setM eqS k v m)).Nodup
 | [], _ => by simp [setM, keysM]
 | e :: r, h => by
   rw [setM];simp only [keysM, List.map_cons, List.nodup_cons] at h;split
   ·rename_i hk;have h' : k = e.1 := (eqS_iff _ _).1 hk;simp only [keysM, List.map_cons, List.nodup_cons];rw [h']; exact h
   ·rename_i hk;simp only [keysM, List.map_cons, List.nodup_cons];refine ⟨fun q => ?_, nodup_setM h.2⟩;rcases keysM_setM.1 q with q | q
    ·exact hk ((eqS_iff _ _).2 q.symm)
    ·exact h.1 q
set_option maxHeartbeats 4000000 in
set_option maxRecDepth 100000 in
theorem gaK.can (x0 : Tp) (r : List ByteArray) (hr : gaK x0 = some r) : qao Tryz.prog 84 [.ptr 0 0] [.blk [.mp 1, .lit (.int .i64 x0.fj)], .mapo (qas (kI .i64) (vA Ta.enc) x0.fe)] { av := .sl (r.map eTxt) .no, M := none } := by
 unfold gaK at hr;obtain ⟨hf, hr⟩ := Lg hr;obtain ⟨hk, hr⟩ := Lg hr;obtain rfl := La hr;have hΓ := (qab gV.ok (qab libKeys.gMapsKeysMapStringIntStringInt.ok (qab libSorted.gSlicesSortedString.ok (qae))) : qbc Tryz.prog _);refine call_of_awp Tryz.tyOk Tryz.func84 rfl (by kernel_rfl) rfl rfl (by simp) ?_;intro _ _ _;refine AWp.then ⟨[⟨0, none, .ptr 0 0⟩], [.blk [.mp 1, .n x0.fj], .mapo (qas (kI .i64) (vA Ta.enc) x0.fe)]⟩ (AWp.reg Tryz.tyOk hΓ [] [] (by kernel_rfl) rfl (by simp)) ?_;refine AWp.then ⟨[⟨3, none, .mp 2⟩, ⟨0, none, .ptr 0 0⟩], [.blk [.mp 1, .n x0.fj], .mapo (qas (kI .i64) (vA Ta.enc) x0.fe), .mapo (qas kS (kI .i64) ([] : List (ByteArray × Int)))]⟩ (AWp.reg Tryz.tyOk hΓ [3] [] (by kernel_rfl) rfl (by simp)) ?_;refine AWp.seq ?_;refine AWp.then ⟨[⟨11, none, .it 3⟩, ⟨3, none, .mp 2⟩], [.blk [.mp 1, .n x0.fj], .mapr (qas (kI .i64) (vA Ta.enc) x0.fe) [] none 3, .mapo (qas kS (kI .i64) ([] : List (ByteArray × Int))), .dead]⟩ (AWp.reg Tryz.tyOk hΓ [11] [0] (by kernel_rfl) rfl (by simp)) ?_
 refine AWp.rangeM (kk := .i64) (vE := vA Ta.enc) (i := 1) (u := 3) (mm := 4) x0.fe
  (fun done x => (keysM x).Nodup ∧ (∀ e ∈ done, e ∈ x0.fe) ∧ ∀ s, s ∈ keysM x ↔ s ∈ foldsM done)
  (fun (x : List (ByteArray × Int)) vis cur => ⟨[⟨11, none, .it 3⟩, ⟨3, none, .mp 2⟩], [.blk [.mp 1, .lit (.int .i64 x0.fj)], .mapr (qas (kI .i64) (vA Ta.enc) x0.fe) vis cur 3, .mapo (qas kS (kI .i64) x), .dead]⟩)
  (fun x => ⟨[⟨3, none, .mp 2⟩], [.blk [.mp 1, .lit (.int .i64 x0.fj)], .mapo (qas (kI .i64) (vA Ta.enc) x0.fe), .mapo (qas kS (kI .i64) x)]⟩)
  (fun _ _ _ => rfl) ([] : List (ByteArray × Int)) (by simp) ⟨.nil, (fun _ h => by cases h), fun s => Iff.rfl⟩ (fun x vis cur done hN hI hv => ?_) (fun x σ1 mx done hp hI hc => ?_)
 ·refine AWp.seq (AWp.regNextI Tryz.tyOk hΓ (t := 11) (u := 3) (i := 1) (d1 := 12) rfl rfl rfl rfl (keep := [13]) (dead := []) (by kernel_rfl) rfl (by simp) rfl
   (fun h15 => ⟨⟨[⟨13, none, .lit (.bool false)⟩, ⟨11, none, .it 3⟩, ⟨3, none, .mp 2⟩], [.blk [.mp 1, .lit (.int .i64 x0.fj)], .mapr (qas (kI .i64) (vA Ta.enc) x0.fe) vis cur 3, .mapo (qas kS (kI .i64) x), .dead]⟩, by simp, ?_⟩)
   (fun k v _ h16 h17 h18 => ⟨⟨[⟨13, none, .lit (.bool true)⟩, ⟨11, none, .it 3⟩, ⟨3, none, .mp 2⟩], [.blk [.mp 1, .lit (.int .i64 x0.fj)], .mapr (qas (kI .i64) (vA Ta.enc) x0.fe) (.int .i64 k :: vis) (some (.int .i64 k)) 3, .mapo (qas kS (kI .i64) x), .dead]⟩, by simp, ?_⟩))
  ·refine AWp.seq ?_;refine AWp.cond (b := false) (by simp) (fun hb => ?_) (fun hb => ?_)
   ·cases hb
   ·refine AWp.exit ?_;exact .inl ⟨rfl, h15, 3, by simp⟩
  ·refine AWp.seq ?_;refine AWp.cond (b := true) (by simp) (fun hb => ?_) (fun hb => ?_)
   ·refine AWp.skip ?_;refine AWp.block ?_;have hat := getV_at (kk := .i64) (vE := vA Ta.enc) (z := .lit undef) hN h17;refine AWp.then ⟨[⟨5, none, .ptr 4 0⟩, ⟨11, none, .it 3⟩, ⟨3, none, .mp 2⟩], [.blk [.mp 1, .n x0.fj], .mapr (qas (kI .i64) (vA Ta.enc) x0.fe) (.int .i64 k :: vis) (some (.int .i64 k)) 3, .mapo (qas kS (kI .i64) x), .dead, .blk v.enc]⟩ (AWp.reg Tryz.tyOk hΓ [5] [13] (by kernel_rfl) rfl (by simp [h18, hat, vA])) ?_;obtain ⟨s, hs⟩ := Option.isSome_iff_exists.1 (hf _ h17);simp only at hs;refine AWp.last ⟨[⟨11, none, .it 3⟩, ⟨3, none, .mp 2⟩], [.blk [.mp 1, .n x0.fj], .mapr (qas (kI .i64) (vA Ta.enc) x0.fe) (.int .i64 k :: vis) (some (.int .i64 k)) 3, .mapo (qas kS (kI .i64) (setM eqS s (addI .i64 (getM eqS s 0 x) 1) x)), .dead, .blk v.enc]⟩ (AWp.reg Tryz.tyOk hΓ [] [5] (by kernel_rfl) rfl (by simp [hs])) ?_;refine .inr ⟨rfl, k, v, h16, h17, setM eqS s (addI .i64 (getM eqS s 0 x) 1) x, ⟨nodup_setM hI.1, fun e he => ?_, fun q => ?_⟩, 4, by simp⟩
    ·rcases List.mem_cons.1 he with rfl | he
     ·exact h17
     ·exact hI.2.1 e he
    ·rw [keysM_setM, hI.2.2 q];simp only [foldsM, List.map_cons, List.mem_cons, hs, Option.getD_some]
   ·cases hb
 ·refine AWp.conv hc ?_
  have hperm : (keysM x).Perm (nubL (foldsM x0.fe)) := by
   refine (List.perm_ext_iff_of_nodup hI.1 (nodup_nubL _)).2 fun s => ?_;rw [hI.2.2 s, mem_nubL];exact (hp.map _).mem_iff
  have hsort : sortS (keysM x) = sortS (nubL (foldsM x0.fe)) := sortS_perm hperm
  have hkb : KeysBS (keysM x) := by
   refine ⟨fun q hq => hk.1 q (mem_nubL.1 (hperm.mem_iff.1 hq)), ?_⟩;have h1 := hk.2;have h2 : (keysM x).length ≤ (foldsM x0.fe).length := nodup_len hI.1 fun q hq => mem_nubL.1 (hperm.mem_iff.1 hq);omega
  refine AWp.then ⟨[⟨2, none, .sl ((sortS (nubL (foldsM x0.fe))).map eTxt) .no⟩], [.blk [.mp 1, .n x0.fj], .mapo (qas (kI .i64) (vA Ta.enc) x0.fe), .mapo (qas kS (kI .i64) x)]⟩ (AWp.reg Tryz.tyOk hΓ [2] [3] (by kernel_rfl) rfl (by simp [hsort, hkb])) ?_;refine AWp.ret ?_;refine Ld ?_;simp
end Go.Proofs
end
