import Derived.Test.YtoiieebljbhpbaaGreatDoorTs
import Derived.Test.YtoiieebljbhpbaaGreatDoorM08
import Derived.Test.YtoiieebljbhpbaaGreatDoorM11
import Derived.Test.YtoiieebljbhpbaaGreatDoorM02
import Derived.Test.YtoiieebljbhpbaaGreatDoorM09
import Derived.Test.YtoiieebljbhpbaaGreatDoorTy
import Derived.Laws.Externs
section
namespace Go.Proofs
open Go.Ab
noncomputable def gam : Option Tn :=
 (gaF).bind fun r1 =>
 some (Tn.mk (Tq.mk r1.fg r1.fh) [] [] [])
noncomputable def gH (x0 : Tn) (x1 : Td) : Option (Th × Bool) :=
 need (AppB 0 (lenL ((getM Td.eq x1 (Th.mk false false []) x0.fa).fb)) 4) <|
 some ((getM Td.eq x1 (Th.mk false false []) x0.fa), (hasM Td.eq x1 x0.fa))
noncomputable def gag (x0 : Tn) (x1 : Tb) : Option (Tf × Bool) :=
 some ((getM Tb.eq x1 (Tf.mk 0 false) x0.fd), (hasM Tb.eq x1 x0.fd))
noncomputable def gy (x0 : Tn) (x1 : Int) : Option (Tj × Bool) :=
 some ((getM eqI x1 (Tj.mk (Td.mk 0 0) 0) x0.fj), (hasM eqI x1 x0.fj))
noncomputable def gm (x0 : Tn) : Option (List Tb) :=
 need (Keys3B (keysM x0.fd)) <|
 some (sortLk (keysM x0.fd))
noncomputable def gj.loop1 (x1 : Td) (r1 : List Tb) (s1 : Int × List Int) : Option (Fl (Int × List Int) (Fl (List Int) (List Int))) :=
 bif (ltI s1.1 (lenL r1)) then (
  need (InB s1.1 (lenL r1)) <|
  bif (pickB (eqI ((nthI r1 s1.1).fOf.fc) x1.fc) (eqI ((nthI r1 s1.1).fOf.ff) x1.ff) false) then (
   need (AppB (lenL s1.2) 1 8) <|
   some (.go ((addI .i64 s1.1 1), (appL s1.2 [(nthI r1 s1.1).fu])))
  ) else (
    some (.go ((addI .i64 s1.1 1), s1.2))
  )
 ) else (
   some (.out (.go s1.2))
 )
noncomputable def gj (x0 : Tn) (x1 : Td) : Option (List Int) :=
 ((gm x0)).bind fun r1 =>
 ((loopF (gj.loop1 x1 r1) (0, [])).bind fun f => flC f fun (v1 : List Int) =>
   some v1
 )
end Go.Proofs
end
section
set_option maxRecDepth 100000
namespace Go.Proofs
open Go.Ab
theorem AWp.lastC {P : Program} {n B : Nat} {Q : Exit → St → Prop} {σ : St} {x : Code} (σ' : St) (h : AWp P n B x (fun e s => e = .normal ∧ ∃ mx, Conv B mx s σ') σ) (h2 : Q .normal σ') : AWp P n B x Q σ := by
 intro g0 g a at_;refine wp_mono (h g0 g a at_) fun e a' w' => ?_;rintro ⟨σ1, g1, ⟨rfl, mx, hc⟩, hw, at1⟩;obtain ⟨g2, q1, q2⟩ := hc.at at1;exact ⟨σ', g2, h2, q1.trans hw, q2⟩
section
abbrev linksM (m : List (Tb × Tf)) : List (AV × AV) := encM (vA Tb.enc) (vA Tf.enc) m
theorem del_can {f : Nat} {box : List AV} (p : Tb → Bool) {S : Sp} (hS : SpecOk Tryz.prog f S)
  (hs : ∀ (l : Tb) (s : Tf) (M : List AObj), M[1]? = some (.blk box) → S [.agg [.lit (.int .i64 l.fu), .lit (.int .i64 l.fOf.fc), .lit (.int .i64 l.fOf.ff)], .agg [.lit (.int .i64 s.fp), .lit (.bool s.fw)], .ptr 1 0] M = some { av := .lit (.bool (!(p l))), M := none })
  (hb : ∀ n, belL n box) (m : List (Tb × Tf)) :
  CallOk Tryz.prog 87 [.mp 0, .clo f [.ptr 1 0]] [.mapo (linksM m), .blk box] { av := .tup [], M := some [.mapo (linksM (keepK p m)), .blk box] } := by
 have hΓ := (gamL_cons hS (gamL_nil) : GamOk Tryz.prog _);refine cw Tryz.func87 rfl (by kernel_rfl) rfl rfl (by simp) fun _ _ _ => ?_;refine tq hΓ [7] [] ?_;refine AWp.lastC ⟨[⟨0, none, .mp 0⟩, ⟨1, none, .clo f [.ptr 1 0]⟩], [.mapo (linksM (keepK p m)), .blk box]⟩ ?_ (fin_norm (by simp [hb]));refine AWp.pruneK (kE := vA Tb.enc) (vE := vA Tf.enc) (i := 0) (u := 2) (mm := 3) Tb.kval_enc Tb.kinj Tb.eq_iff p m (fun m1 vis1 cur1 => ⟨[⟨7, none, .it 2⟩, ⟨0, none, .mp 0⟩, ⟨1, none, .clo f [.ptr 1 0]⟩], [.mapr (linksM m1) vis1 cur1 2, .blk box, .dead]⟩) (fun m1 => ⟨[⟨0, none, .mp 0⟩, ⟨1, none, .clo f [.ptr 1 0]⟩], [.mapo (linksM m1), .blk box]⟩) (fun _ _ _ => rfl) (by simp [hb]) (fun m1 vis1 cur1 => ?_) (fun σ1 mx hc => ⟨rfl, mx, hc⟩);refine AWp.seq (AWp.regNextK Tryz.tyOk hΓ (t := 7) (u := 2) (i := 0) (d1 := 8) rfl rfl rfl rfl (keep := [9]) (dead := []) (by kernel_rfl) rfl (by simp) rfl (fun q hq => ?_) (fun h15 => ⟨⟨[⟨9, none, .b false⟩, ⟨7, none, .it 2⟩, ⟨0, none, .mp 0⟩, ⟨1, none, .clo f [.ptr 1 0]⟩], [.mapr (linksM m1) vis1 cur1 2, .blk box, .dead]⟩, by simp, ?_⟩) (fun c k v x q1 q2 q3 => ?_))
 ·obtain ⟨e, _, rfl⟩ := List.mem_map.1 hq;exact ⟨_, Tb.kval_enc e.1⟩
 ·refine AWp.seq ?_;refine AWp.cond (b := false) (by simp) (fun hx => ?_) (fun hx => ?_)
  ·cases hx
  ·refine AWp.exit ?_;refine .inl ⟨rfl, fun k v hm => ?_, 2, by simp [hb]⟩;exact h15 _ _ _ (List.mem_map.2 ⟨(k, v), hm, rfl⟩) (Tb.kval_enc k)
 ·obtain ⟨⟨l, s0⟩, hm, he⟩ := List.mem_map.1 q3;simp only [Prod.mk.injEq] at he;obtain ⟨rfl, rfl⟩ := he;rw [Tb.kval_enc l] at q1;obtain rfl := Option.some.inj q1;have hc0 := hasC_enc (vE := vA Tf.enc) Tb.sameL_enc l m1;rw [hasM_memK Tb.eq_iff hm] at hc0;simp only [Tb.enc] at hc0;have hc1 := fun z => getC_enc (vE := vA Tf.enc) Tb.sameL_enc l z default m1 (hasM_memK Tb.eq_iff hm);simp only [Tb.enc] at hc1;generalize getM Tb.eq l default m1 = s at hc1;refine ⟨⟨[⟨9, none, .lit (.bool true)⟩, ⟨7, none, .it 2⟩, ⟨0, none, .mp 0⟩, ⟨1, none, .clo f [.ptr 1 0]⟩], [.mapr (linksM m1) (keyVal l.enc :: vis1) (some (keyVal l.enc)) 2, .blk box, .dead]⟩, by simp, ?_⟩;refine AWp.seq ?_;refine AWp.cond (b := true) (by simp) (fun hx => ?_) (fun hx => ?_)
  ·refine AWp.skip ?_;refine AWp.block ?_;refine tq hΓ [4, 5] [9] ?_ (by simp [keyVal, litV, isLit, hc0, hc1, vA]; exact rr);refine tq hΓ [16] [] ?_ (by simp [hs]; exact rr);refine AWp.cond (b := !(p l)) (by simp) (fun h19 => ?_) (fun h19 => ?_)
   ·refine tl hΓ [] [16, 4, 5] ?_ (by simp; exact rr);exact .inr ⟨rfl, l, s0, q2, hm, 3, by simp [linksM, keyVal, litV, hb, show p l = false by simpa using h19]⟩
   ·refine AWp.skip ?_;exact .inr ⟨rfl, l, s0, q2, hm, 3, by simp [linksM, keyVal, litV, hb, show p l = true by simpa using h19]⟩
  ·cases hx
end
@[simp] noncomputable def deleteLS : Sp
  | [.mp i, .clo f [.ptr b 0]], M => (rdE M i).bind fun es => (rdB M b).bind fun c => if f = 126 then
    some { av := .tup [], M := some (M.set i (.mapo (linksM (keepK (fun l => !(Td.eq l.fOf (Td.dec c))) (decM (dvA Tb.dec) (dvA Tf.dec) es))))), obl := es = linksM (decM (dvA Tb.dec) (dvA Tf.dec) es) ∧ c = Td.enc (Td.dec c) ∧ i ≠ b }
    else if f = 88 then
     some { av := .tup [], M := some (M.set i (.mapo (linksM (keepK (fun l => !(eqI l.fu (decI c))) (decM (dvA Tb.dec) (dvA Tf.dec) es))))), obl := es = linksM (decM (dvA Tb.dec) (dvA Tf.dec) es) ∧ c = (eNum .i64) (decI c) ∧ i ≠ b }
    else none
  | _, _ => none
theorem libDelete.gaz.ok : SpecOk Tryz.prog 87 deleteLS := by
 intro l M out h;unfold deleteLS at h;split at h
 ·rename_i i f b;obtain ⟨es, hM, h⟩ := bE h;obtain ⟨c, hB, h⟩ := bB h;split at h
  ·rename_i hf;cases h;subst hf;refine callOk_of fun ho => ?_;obtain ⟨he, hc, hne⟩ := ho;generalize decM (dvA Tb.dec) (dvA Tf.dec) es = m at *
   generalize Td.dec c = key at *
   subst he;subst hc;have q := Lf (M := M) [i, b] (del_can (box := key.enc) (fun l => !(Td.eq l.fOf key)) gO.ok (fun l s M hM => ?_) (fun _ => by simp) m) (by simp [hne]) rfl (ix (by simp [hM]) (ix (by simp [hB]) ixn))
   ·exact callOk_conv q trivial (by simp [into]) (by simp [frameOut]) (by simp only [frameOut, Option.getD_some]; simp [hB, hne, set_same])
   ·simp [gO, hM, Td.eq, pickB_andB]
  ·split at h
   ·rename_i hf;cases h;subst hf;refine callOk_of fun ho => ?_;obtain ⟨he, hc, hne⟩ := ho;generalize decM (dvA Tb.dec) (dvA Tf.dec) es = m at *
    generalize decI c = key at *
    subst he;subst hc;have q := Lf (M := M) [i, b] (del_can (box := [.lit (.int .i64 key)]) (fun l => !(eqI l.fu key)) gU.ok (fun l s M hM => ?_) (fun _ => by simp) m) (by simp [hne]) rfl (ix (by simp [hM]) (ix (by simp [hB]) ixn))
    ·exact callOk_conv q trivial (by simp [into]) (by simp [frameOut]) (by simp only [frameOut, Option.getD_some]; simp [hB, hne, set_same])
    ·simp [gU, hM]
   ·cases h
 ·cases h
end Go.Proofs
end
section
namespace Go.Proofs
open Go.RowKit Go.Ab
theorem Tryz.bcSize : (Tryz.prog.info? 141).map (·.size) = some 2 := by kernel_rfl
theorem Tryz.bcLies : liesAt Tryz.prog Tryz.prog.depth 141 (2 / Tryz.prog.cellsOf 141) 0 141 1 = true := by kernel_rfl
theorem Tryz.bbyteI : (Tryz.prog.info? 5).map (fun i => (i.zero, i.size, i.bytes)) = some (some (.int .u8 0), 1, 1) := by kernel_rfl
set_option maxHeartbeats 1000000 in
set_option maxRecDepth 100000 in
theorem Tryz.bcFresh (b : Nat) (w : World) (v : Value) (hb : w.heap[b]? = some (.cells #[.pointer none, v] 141 (0, 0))) :
  Calls Tryz.prog 135 #[.pointer (some ⟨b, 0, none⟩)] w fun e w' => e = .returned (.tuple #[]) ∧ w' = w.setCell ⟨b, 0, none⟩ (.pointer (some ⟨b, 0, none⟩)) := by
 obtain ⟨j, hj, hjs⟩ := Option.map_eq_some_iff.1 Tryz.bcSize;have h0 : w.cell? ⟨b, 0, none⟩ = some (.pointer none) := by rw [Lib.cell_of_heap hb]; rfl
 have hsh : w.shape? b = some (141, 2) := by simp [World.shape?, hb]
 have hfz : w.frozen? ⟨b, 0, none⟩ = false := Lib.frozen_of_heap hb 0
 go_enter Tryz.func135, Tryz.ntmps135
 go_wp2;rw [Lib.run_to_unsafe w ⟨b, 0, none⟩ Tryz.underlying138 Tryz.underlying237 hj (by rw [hjs]; decide) hsh (Nat.zero_lt_succ 1)];simp only [Result.andThen];rw [Oper.upon_value];go_wp2;rw [run_callFunc_extern Tryz.func158 (by kernel_rfl) (by kernel_rfl) (by kernel_rfl) (e := Extern.AbiNoEscape.same) (by kernel_rfl)];rw [Lib.run_noEscape];simp only [Result.andThen];rw [Oper.upon_value];go_wp2;rw [Lib.run_from_unsafe w ⟨b, 0, none⟩ Tryz.underlying237 Tryz.underlying138 hj hsh Tryz.bcLies];simp only [Result.andThen];rw [Oper.upon_value];go_wp2
 go_end0
 exact ⟨rfl, rfl⟩
set_option maxHeartbeats 1000000 in
set_option maxRecDepth 100000 in
theorem Tryz.bcUsed (b : Nat) (w : World) (v : Value) (hb : w.heap[b]? = some (.cells #[.pointer (some ⟨b, 0, none⟩), v] 141 (0, 0))) :
  Calls Tryz.prog 135 #[.pointer (some ⟨b, 0, none⟩)] w fun e w' => e = .returned (.tuple #[]) ∧ w' = w := by
 obtain ⟨j, hj, hjs⟩ := Option.map_eq_some_iff.1 Tryz.bcSize;have h0 : w.cell? ⟨b, 0, none⟩ = some (.pointer (some ⟨b, 0, none⟩)) := by rw [Lib.cell_of_heap hb]; rfl
 go_enter Tryz.func135, Tryz.ntmps135
 go_wp2;rw [Lib.run_neq_ptr_same w _ Tryz.underlying138 hj];go_wp2
 go_end0
 exact ⟨rfl, rfl⟩
theorem Tryz.bcAny (b : Nat) (w : World) (p v : Value) (n : Nat) (xs : List Value) (hb : w.heap[b]? = some (.cells #[p, v] 141 (0, 0))) (hp : p = .pointer none ∨ p = .pointer (some ⟨b, 0, none⟩))
  (hown : w.ownsRow 0 5 1 v n xs) (hne : v.ownBlock ≠ some b) :
  Calls Tryz.prog 135 #[.pointer (some ⟨b, 0, none⟩)] w fun e w' => e = .returned (.tuple #[]) ∧ w'.heap[b]? = some (.cells #[.pointer (some ⟨b, 0, none⟩), v] 141 (0, 0)) ∧
   w'.ownsRow 0 5 1 v n xs ∧ w'.heap.size = w.heap.size ∧ WrKeep b v.ownBlock w w' ∧ ∀ k, k ≠ b → w'.heap[k]? = w.heap[k]? := by
 rcases hp with rfl | rfl
 ·refine (Tryz.bcFresh b w v hb).mono ?_;rintro e w' ⟨rfl, rfl⟩;refine ⟨rfl, by simp [World.setCell, Array.getElem?_modify, hb], ?_, by simp [World.setCell], WrKeep.setCell _ _ _ _ _, fun k hk => heap_setCell_ne hk⟩;exact hown.kept (row := some b) ⟨rfl, rfl, rfl, by simp [World.setCell], fun k _ hk => heap_setCell_ne (fun e => hk (by simp [e]))⟩ (.inr hne)
 ·refine (Tryz.bcUsed b w v hb).mono ?_;rintro e w' ⟨rfl, rfl⟩;exact ⟨rfl, hb, hown, rfl, WrKeep.refl _ _ _, fun _ _ => rfl⟩
end Go.Proofs
end
section
namespace Go.Proofs
open Go.Ab
@[simp] def gaA.out (_x0 : ByteArray) (_x1 : Int) (r : ByteArray) : Out := { av := .lit (.string r), M := none }
set_option maxHeartbeats 4000000 in
set_option maxRecDepth 100000 in
theorem gaA.can (x0 : ByteArray) (x1 : Int) (r : ByteArray) (hr : gaA x0 x1 = some r) : CallOk Tryz.prog 40 [.lit (.string x0), .lit (.int .i64 x1)] [] (gaA.out x0 x1 r) := by
 unfold gaA at hr;have hΓ := gamL_nil (P := Tryz.prog);refine cw Tryz.func40 rfl (by kernel_rfl) rfl rfl (by simp) fun _ _ _ => ?_;refine tq hΓ [] [] ?_;refine AWp.seq ?_;refine tq hΓ [8] [] ?_;refine AWp.cnd hr (by simp) (fun h3 hr => ?_) (fun h3 hr => ?_)
 ·obtain ⟨h4, hr⟩ := Ld hr;refine tq hΓ [4] [8, 0, 1] ?_ (by simp [h3, h4]; exact rr);obtain rfl := La hr;exact AWp.ret (Lb (by simp))
 ·refine AWp.skip ?_;refine tq hΓ [4] [8, 0, 1] ?_ (by simp [h3]; exact rr);obtain rfl := La hr;exact AWp.ret (Lb (by simp))
@[simp] noncomputable def gaA.S : Sp
  | [.lit (.string x0), .lit (.int .i64 x1)], _ => some { av := .lit (.string ((gaA x0 x1).getD dflt)), M := none, obl := (gaA x0 x1).isSome = true }
  | _, _ => none
set_option maxHeartbeats 1000000 in
theorem gaA.ok : SpecOk Tryz.prog 40 gaA.S := by
 intro l M out h;unfold gaA.S at h;split at h
 ·rename_i x0 x1;cases h;refine callOk_of fun ho => ?_;have hs := ho;obtain ⟨r, hr⟩ := so1 hs;simp only [hr, gd1];have q := Lf (M := M) [] (gaA.can x0 x1 r hr) (by simp) rfl ixn;exact callOk_conv q trivial (by simp) (by simp [frameOut]) (by simp [frameOut])
 ·cases h
end Go.Proofs
end
