import Derived.Test.YtoiieebljbhpbaaGreatDoorM06
import Derived.Test.YtoiieebljbhpbaaGreatDoorTy
import Derived.Test.YtoiieebljbhpbaaGreatDoorM12
import Derived.Test.YtoiieebljbhpbaaGreatDoorM02
import Derived.Test.YtoiieebljbhpbaaGreatDoorXb
import Derived.Test.YtoiieebljbhpbaaGreatDoorXa
import Derived.Test.YtoiieebljbhpbaaGreatDoorM13
import Derived.Test.YtoiieebljbhpbaaGreatDoorXe
import Derived.Test.YtoiieebljbhpbaaGreatDoorXd
import Derived.Test.YtoiieebljbhpbaaGreatDoorM18
import Derived.Test.YtoiieebljbhpbaaGreatDoorM17
import Derived.Test.YtoiieebljbhpbaaGreatDoorM08
section
namespace Go.Proofs
open Go.Ab
@[simp] def gt.out (_x0 : List Tc) (r : Bool) : Out := { av := .lit (.bool r), M := none }
def gt.fin (x0 : List Tc) (r : Bool) (σ : St) : Prop := finK (gt.out x0 r) [] σ.M (resA Tryz.ty σ.A σ.M Tryz.f8.results.toList)
set_option maxHeartbeats 4000000 in
set_option maxRecDepth 100000 in
theorem gt.can (x0 : List Tc) (r : Bool) (hr : gt x0 = some r) : CallOk Tryz.prog 8 [.sl (x0.map Tc.enc) .no] [] (gt.out x0 r) := by
 unfold gt at hr;have hΓ := (gamL_cons gl.ok (gamL_cons gH.ok (gamL_cons gj.ok (gamL_cons gam.ok (gamL_cons gax.ok (gamL_cons gaC.ok (gamL_cons gK.ok (gamL_cons gau.ok (gamL_cons gaE.ok (gamL_cons gk.ok (gamL_nil)))))))))) : GamOk Tryz.prog _);refine cw Tryz.func8 rfl (by kernel_rfl) rfl rfl (by simp) fun _ _ _ => ?_;refine tq hΓ [] [] ?_;refine AWp.seq ?_;obtain ⟨r1, h22, hr⟩ := Lc hr;refine tq hΓ [20] [] ?_ (by simp [h22]; exact rr);refine AWp.cnd hr (by simp) (fun h23 hr => ?_) (fun h23 hr => ?_)
 ·refine tq hΓ [2] [20, 0] ?_ (by simp [h23]; exact rr);obtain rfl := La hr;exact AWp.ret (Lb (by simp))
 ·refine AWp.skip ?_;obtain ⟨r2, h24, hr⟩ := Lc hr;refine tq hΓ [3] [20] ?_ (by simp [h23, h24]; exact rr);refine tq hΓ [4] [] ?_ (by simp; exact rr);refine AWp.seq ?_;refine tq hΓ [5] [] ?_ (by simp; exact rr);refine AWp.loopE (fun (s1 : Int × (List (Int × Ta)) × Int × (List (Td × Th)) × (List (Tb × Tf)) × (List (Int × Tj)) × Te) (γ1 : Unit) => ⟨[⟨5, none, .n s1.1⟩, ⟨4, none, .ptr 6 0⟩, ⟨3, none, .ptr 5 0⟩, ⟨0, none, .sl (x0.map Tc.enc) .no⟩], [.mapo (encM (kI .i64) (vA Ta.enc) s1.2.1), .blk [.mp 0, .n s1.2.2.1], .mapo (encM (vA Td.enc) (vA Th.enc) s1.2.2.2.1), .mapo (encM (vA Tb.enc) (vA Tf.enc) s1.2.2.2.2.1), .mapo (encM (kI .u32) (vA Tj.enc) s1.2.2.2.2.2.1), .blk [.ptr 1 0, .mp 2, .mp 3, .mp 4], .blk s1.2.2.2.2.2.2.enc]⟩) (fun (v1 : (List (Int × Ta)) × Int × (List (Td × Th)) × (List (Tb × Tf)) × (List (Int × Tj)) × Te) (γ1a : Unit) => ⟨[], [.mapo (encM (kI .i64) (vA Ta.enc) v1.1), .blk [.mp 0, .n v1.2.1], .mapo (encM (vA Td.enc) (vA Th.enc) v1.2.2.1), .mapo (encM (vA Tb.enc) (vA Tf.enc) v1.2.2.2.1), .mapo (encM (kI .u32) (vA Tj.enc) v1.2.2.2.2.1), .blk [.ptr 1 0, .mp 2, .mp 3, .mp 4], .blk v1.2.2.2.2.2.enc]⟩) (gt.fin x0) hr () 7 (by simp) (fun s1 f γ1 hr => ?_) (fun v1 γ1a σ1 m1 hr hc => ?_) (fun _ h => h)
  ·unfold gt.loop1 at hr;refine AWp.seq ?_;refine tq hΓ [30] [] ?_ (by simp; exact rr);refine AWp.cnd hr (by simp) (fun h25 hr => ?_) (fun h25 hr => ?_)
   ·refine AWp.skip ?_;refine AWp.seq ?_;refine AWp.block ?_;obtain ⟨h26, hr⟩ := Ld hr;obtain ⟨r3, h27, hr⟩ := Lc hr;refine tq hΓ [6] [30] ?_ (by simp [h25, h26, h27]; exact rr);obtain ⟨r4, h28, hr⟩ := Lc hr;refine tq hΓ [7, 8] [] ?_ (by simp [h28]; exact rr);obtain ⟨r5, h29, hr⟩ := Lc hr;obtain ⟨r6, h30, hr⟩ := Lc hr;refine td hΓ [9, 10, 11] [] [(0, 9), (1, 9), (2, 9), (3, 9), (4, 9), (5, 9), (6, 9), (6, 10), (7, 9), (7, 10)] [(false, []), (false, []), (false, []), (false, []), (false, []), (false, []), (false, []), (false, []), (true, []), (true, []), (false, []), (false, [])] (by simp [h29, h30]; exact rr) ?_;refine tq hΓ [] [9] ?_ (by simp; exact rr);refine AWp.seq ?_;obtain ⟨h31, hr⟩ := Ld hr;refine tq hΓ [66] [10, 11, 7, 8] ?_ (by simp [h31]; exact rr);refine AWp.cnd hr (by simp) (fun h32 hr => ?_) (fun h32 hr => ?_)
    ·refine tq hΓ [2] [66, 6, 5, 4, 3, 0] ?_ (by simp [h32]; exact rr);refine AWp.ret ?_;obtain rfl := La hr;refine Lr ?_;refine Lb ?_;simp
    ·refine AWp.skip ?_;refine tq hΓ [12] [66] ?_ (by simp [h32]; exact rr);obtain ⟨r7, h33, hr⟩ := Lc hr;refine tq hΓ [14] [] ?_ (by simp [h33]; exact rr);refine AWp.seq ?_;obtain ⟨r8, h34, hr⟩ := Lc hr;refine tq hΓ [86] [14] ?_ (by simp [h34]; exact rr);refine AWp.cnd hr (by simp) (fun h35 hr => ?_) (fun h35 hr => ?_)
     ·refine tq hΓ [2] [86, 12, 6, 5, 4, 3, 0] ?_ (by simp [h35]; exact rr);refine AWp.ret ?_;obtain rfl := La hr;refine Lr ?_;refine Lb ?_;simp
     ·refine AWp.skip ?_;obtain ⟨r9, h36, hr⟩ := Lc hr;refine tq hΓ [15] [86, 12] ?_ (by simp [h35, h36]; exact rr);refine tq hΓ [16] [] ?_ (by simp; exact rr);refine AWp.seq ?_;refine tq hΓ [91, 92, 93] [] ?_ (by simp; exact rr);refine AWp.loopE (fun (s2 : Int × Int) (γ2 : Unit) => ⟨[⟨91, none, .sl (r6.1.fd.map Tg.enc) .no⟩, ⟨92, none, .n (lenL r6.1.fd)⟩, ⟨93, none, .n s2.1⟩, ⟨16, none, .n s2.2⟩, ⟨15, none, .sl (r9.map (eNum .i64)) .no⟩, ⟨6, none, .ptr 7 0⟩, ⟨5, none, .n s1.1⟩, ⟨4, none, .ptr 6 0⟩, ⟨3, none, .ptr 5 0⟩, ⟨0, none, .sl (x0.map Tc.enc) .no⟩], [.mapo (encM (kI .i64) (vA Ta.enc) r4.2.2.fe.fg), .blk [.mp 0, .n r4.2.2.fe.fh], .mapo (encM (vA Td.enc) (vA Th.enc) r4.2.2.fa), .mapo (encM (vA Tb.enc) (vA Tf.enc) r4.2.2.fd), .mapo (encM (kI .u32) (vA Tj.enc) r4.2.2.fj), .blk [.ptr 1 0, .mp 2, .mp 3, .mp 4], .blk r6.1.enc, .blk r3.enc, .blk r6.1.enc, .blk [.n r3.fOf, .n r3.ff], .blk [.b r7.1.fq, .b r7.1.fy, .sl (r7.1.fb.map (eNum .u32)) .no]]⟩) (fun (v2 : Int) (γ2a : Unit) => ⟨[⟨16, none, .n v2⟩, ⟨15, none, .sl (r9.map (eNum .i64)) .no⟩, ⟨5, none, .n s1.1⟩, ⟨4, none, .ptr 6 0⟩, ⟨3, none, .ptr 5 0⟩, ⟨0, none, .sl (x0.map Tc.enc) .no⟩], [.mapo (encM (kI .i64) (vA Ta.enc) r4.2.2.fe.fg), .blk [.mp 0, .n r4.2.2.fe.fh], .mapo (encM (vA Td.enc) (vA Th.enc) r4.2.2.fa), .mapo (encM (vA Tb.enc) (vA Tf.enc) r4.2.2.fd), .mapo (encM (kI .u32) (vA Tj.enc) r4.2.2.fj), .blk [.ptr 1 0, .mp 2, .mp 3, .mp 4], .blk r6.1.enc, .blk r3.enc, .blk r6.1.enc, .blk [.n r3.fOf, .n r3.ff], .blk [.b r7.1.fq, .b r7.1.fy, .sl (r7.1.fb.map (eNum .u32)) .no]]⟩) (QRr (gt.fin x0)) hr () 11 (by simp) (fun s2 f γ2 hr => ?_) (fun v2 γ2a σ1 m1 hr hc => ?_) (fun _ h => QRr_ret h)
      ·unfold gt.loop2 at hr;refine tq hΓ [94] [] ?_ (by simp; exact rr);refine AWp.seq ?_;refine AWp.cnd hr (by simp) (fun h37 hr => ?_) (fun h37 hr => ?_)
       ·refine AWp.skip ?_;refine AWp.seq ?_;refine AWp.block ?_;obtain ⟨h38, hr⟩ := Ld hr;refine tq hΓ [18] [94] ?_ (by simp [h37, h38]; exact rr);refine tq hΓ [108] [] ?_ (by simp; exact rr);refine AWp.cnd hr (by simp) (fun h39 hr => ?_) (fun h39 hr => ?_)
        ·refine AWp.seq ?_;obtain ⟨h40, hr⟩ := Ld hr;refine td hΓ [121] [108, 18] [] [(false, []), (false, []), (false, []), (false, []), (false, []), (false, [113]), (false, [113]), (false, [113]), (false, [113]), (false, [113]), (false, [113]), (false, [113]), (false, [])] (by simp [h39, h40]; exact rr) ?_;refine AWp.cnd hr (by simp) (fun h41 hr => ?_) (fun h41 hr => ?_)
         ·refine tq hΓ [2] [121, 91, 92, 93, 16, 15, 6, 5, 4, 3, 0] ?_ (by simp [h41]; exact rr);refine AWp.ret ?_;obtain rfl := La hr;refine Lr ?_;refine ⟨_, rfl, ?_⟩;refine Lb ?_;simp
         ·refine AWp.skip ?_;refine tl hΓ [16] [121] ?_ (by simp [h41]; exact rr);refine tl hΓ [93] [] ?_ (by simp; exact rr);obtain rfl := La hr;exact Lj () 11 (by first | (simp; done) | simp [h22, h23, h24, h25, h26, h27, h28, h29, h30, h31, h32, h33, h34, h35, h36, h37, h38, h39, h40, h41])
        ·refine AWp.skip ?_;refine tl hΓ [93] [108, 18] ?_ (by simp [h39]; exact rr);obtain rfl := La hr;exact Lj () 11 (by first | (simp; done) | simp [h22, h23, h24, h25, h26, h27, h28, h29, h30, h31, h32, h33, h34, h35, h36, h37, h38, h39])
       ·refine AWp.exit ?_;obtain rfl := La hr;exact Ll () 11 (by first | (simp; done) | simp [h22, h23, h24, h25, h26, h27, h28, h29, h30, h31, h32, h33, h34, h35, h36, h37])
      ·refine AWp.conv hc ?_;refine tq hΓ [128] [16, 15] ?_ (by simp; exact rr);refine AWp.cnd hr (by simp) (fun h42 hr => ?_) (fun h42 hr => ?_)
       ·refine tq hΓ [2] [128, 5, 4, 3, 0] ?_ (by simp [h42]; exact rr);refine AWp.ret ?_;obtain rfl := La hr;refine Lr ?_;refine Lb ?_;simp
       ·refine AWp.skip ?_;refine tl hΓ [5] [128] ?_ (by simp [h42]; exact rr);obtain rfl := La hr;exact Lj () 7 (by first | (simp; done) | simp [h22, h23, h24, h25, h26, h27, h28, h29, h30, h31, h32, h33, h34, h35, h36, h42])
   ·refine AWp.exit ?_;obtain rfl := La hr;exact Ll () 7 (by first | (simp; done) | simp [h22, h23, h24, h25])
  ·refine AWp.conv hc ?_;refine tq hΓ [2] [] ?_ (by simp; exact rr);obtain rfl := La hr;exact AWp.ret (Lb (by simp))
end Go.Proofs
end
section
namespace Go.Proofs
open Go.Ab Go.Lib
theorem walk_rel {S T : Type} {body : S → Option (Fl S T)} (I : Nat → S → Prop) (Q : T → Prop) (n : Nat) (h : ∀ i s, i < n → I i s → ∃ s', body s = some (.go s') ∧ I (i + 1) s') (he : ∀ s, I n s → ∃ t, body s = some (.out t) ∧ Q t) {s : S} (hs : I 0 s) : ∃ t, loopF body s = some t ∧ Q t := by
 have key : ∀ k i s, i + k = n → I i s → ∃ t, loopF body s = some t ∧ Q t := by
  intro k
  induction k with
  | zero =>
    intro i s hi hI;have : i = n := by omega
    subst this;obtain ⟨t, h1, h2⟩ := he s hI;exact ⟨t, by rw [loopF_eq, h1], h2⟩
  | succ k ih =>
    intro i s hi hI;obtain ⟨s', h1, h2⟩ := h i s (by omega) hI;obtain ⟨t, h3, h4⟩ := ih (i + 1) s' (by omega) h2;exact ⟨t, by rw [loopF_eq, h1]; exact h3, h4⟩
 exact key n 0 s (by omega) hs
def Rl (n : Nat) (x : St4) (a : Tn) : Prop := ∃ m, Acc n x.L x.nx x.T x.S m ∧ a = stA x.L x.nx x.T m
theorem Rl.step {n : Nat} {x : St4} {a : Tn} (h : Rl n x a) (hn1 : n + 1 ≤ 1000) {c : Cm} (hr : c.fk.size ≤ 1000) (hn : c.fo.size ≤ 1000) (hl : c.fb.length ≤ 1000) {v : Int} (hv : gX c = some v) :
  ∃ a', gl a c = some ((doM x c v).2.1, (doM x c v).2.2, a') ∧ Rl (n + 1) (doM x c v).1 a' ∧ gaE (rfA x.L x.nx x.T x.S) c = some (rfA (doM x c v).1.L (doM x c v).1.nx (doM x c v).1.T (doM x c v).1.S, (doM x c v).2.1, (doM x c v).2.2) := by
 obtain ⟨m, h1, rfl⟩ := h;obtain ⟨m', h2, h3⟩ := do_d h1 hr hn hl hv;exact ⟨_, h2, ⟨m', h1.does hn1 hr hn hl hv h3, rfl⟩, rdo_d h1 hr hn hl hv⟩
theorem Rl.new : Rl 0 ⟨[], 0, [], []⟩ (stA [] 0 [] []) := ⟨[], Acc.new, rfl⟩
theorem new_d : gam = some (stA [] 0 [] []) := rfl
theorem eta_A (a : Tn) : Tn.mk (Tq.mk a.fe.fg a.fe.fh) a.fa a.fd a.fj = a := by cases a; rfl
theorem lcut_d (s : ByteArray) {n : Int} (h0 : 0 ≤ n) : ∃ t, gaA s n = some t ∧ (t.size : Int) ≤ n := by
 unfold gaA;by_cases h : n < lenS s
 ·rw [ltI_t h];refine ⟨cutS s 0 n, ?_, ?_⟩
  ·simp only [cond_true];rw [Lh ⟨Int.le_refl _, h0, by omega⟩]
  ·rw [← bytesOf_len, cutS_b];simp only [List.length_take];omega
 ·rw [ltI_f h];refine ⟨s, rfl, ?_⟩;unfold lenS at h;omega
theorem few_d (c : Cm) : ∃ d, gax c = some d ∧ d.fk.size ≤ 1000 ∧ d.fo.size ≤ 1000 ∧ d.fb.length ≤ 1000 := by
 obtain ⟨r, h1, h2⟩ := lcut_d c.fk (n := 70) (by omega);obtain ⟨n, h3, h4⟩ := lcut_d c.fo (n := 70) (by omega);unfold gax;rw [h1, h3];simp only [Lg];by_cases h : 5 < lenL c.fb
 ·rw [ltI_t h, Lh (show CutB _ _ _ from ⟨by omega, by omega, by omega⟩)];refine ⟨_, rfl, (show r.size ≤ 1000 by omega), (show n.size ≤ 1000 by omega), ?_⟩;show (cutL c.fb 0 5).length ≤ 1000;unfold cutL;simp only [List.length_take];omega
 ·rw [ltI_f h];refine ⟨_, rfl, (show r.size ≤ 1000 by omega), (show n.size ≤ 1000 by omega), ?_⟩;show c.fb.length ≤ 1000;unfold lenL at h;omega
def wantsL (S : List Sb) (k : Td) : List Int := (S.filter fun s => ofK k s).map fun s => s.fu
theorem wants_next {S : List Sb} {i : Nat} (hi : i < S.length) (k : Td) : wantsL (S.take (i + 1)) k = if ofK k S[i] = true then wantsL (S.take i) k ++ [S[i].fu] else wantsL (S.take i) k := by
 unfold wantsL;rw [take_next hi, List.filter_append, List.map_append];cases h : ofK k S[i] <;> simp [h]
theorem wants_len (S : List Sb) (k : Td) : (wantsL S k).length ≤ S.length := by
 unfold wantsL;rw [List.length_map];exact List.length_filter_le _ _
theorem wants_d {n : Nat} {x : St4} {m : List (Tb × Tf)} (h : Acc n x.L x.nx x.T x.S m) (k : Td) : gj (stA x.L x.nx x.T m) k = some (wantsL x.S k) := by
 have hsl := h.slen;have hnn := h.nn;unfold gj;rw [links_d h.prm h.up (by omega), Lg]
 have w : loopF (gj.loop1 k (x.S.map lnk)) (0, []) = some (.go (wantsL x.S k)) := by
  refine walk_out (n := x.S.length) (fun i => ((i : Int), wantsL (x.S.take i) k)) (fun i hi => ?_) ?_
  ·have hw := wants_len (x.S.take i) k;simp only [List.length_take] at hw;have hat : nthI (x.S.map lnk) (i : Int) = lnk x.S[i] := by rw [nthI_at (by simpa using hi), List.getElem_map]
   unfold gj.loop1;simp only;rw [ltI_t (by unfold lenL; rw [List.length_map]; omega), cond_true, Lh (inB_at (by simpa using hi)), hat, Lp (by omega), Lh (show AppB (lenL (wantsL (x.S.take i) k)) 1 8 from ⟨by unfold lenL; omega, by unfold lenL; omega⟩), wants_next hi]
   have e : pickB (eqI (lnk x.S[i]).fOf.fc k.fc) (eqI (lnk x.S[i]).fOf.ff k.ff) false = ofK k x.S[i] := by
    rw [pickB_and]; rfl
   rw [e];cases ofK k x.S[i] <;> rfl
  ·unfold gj.loop1;simp only;rw [ltI_f (by unfold lenL; rw [List.length_map]; omega), cond_false, List.take_length]
 rw [w]; rfl
theorem track_d {n : Nat} {x : St4} {m : List (Tb × Tf)} (h : Acc n x.L x.nx x.T x.S m) (k : Td) : gH (stA x.L x.nx x.T m) k = some (trkV (findT x.T k), hasT x.T k) := by
 obtain ⟨h1, h2⟩ := trk_get k x.T;unfold gH;simp only;rw [h1, h2]
 have : (trkV (findT x.T k)).fb.length ≤ 3 := by
  cases hf : findT x.T k with
  | none => simp [trkV]
  | some t => exact h.tss t (findT_mem hf).1
 rw [Lh (show AppB 0 (lenL (trkV (findT x.T k)).fb) 4 from ⟨by unfold lenL; omega, by unfold lenL; omega⟩)]
theorem source_d {n : Nat} {x : St4} {m : List (Tb × Tf)} (h : Acc n x.L x.nx x.T x.S m) {t : Tk} (ht : t ∈ x.T) {j : Nat} (hj : j < t.fb.length) : gy (stA x.L x.nx x.T m) t.fb[j] = some (⟨keyT t, (j : Int)⟩, true) := by
 unfold gy;simp only;rw [src_get h.snd ht hj, src_has.2 (allS_mem.2 ⟨t, ht, List.getElem_mem hj⟩)]
theorem neB_self (b : Bool) : neB b b = false := by cases b <;> rfl
theorem is13_d {n : Nat} {x : St4} {m : List (Tb × Tf)} (h : Acc n x.L x.nx x.T x.S m) : gK (stA x.L x.nx x.T m) (rfA x.L x.nx x.T x.S) = some 0 := by
 have hsl := h.slen;have htl := h.tlen;have hnn := h.nn
 have w1 : loopF (gK.loop1 (stA x.L x.nx x.T m) (rfA x.L x.nx x.T x.S) (x.S.map lnk)) 0 = some (.go ()) := by
  refine walk_out (n := x.S.length) (fun i => (i : Int)) (fun i hi => ?_) ?_
  ·have hat : nthI (x.S.map lnk) (i : Int) = lnk x.S[i] := by rw [nthI_at (by simpa using hi), List.getElem_map]
   have hf : findS x.S (lnk x.S[i]) = some x.S[i] := by
    have h1 := hasS_iff.2 ⟨x.S[i], List.getElem_mem hi, rfl⟩;unfold hasS at h1;obtain ⟨s, hs⟩ := Option.isSome_iff_exists.1 h1;obtain ⟨q1, q2⟩ := findS_mem hs;obtain ⟨j, hj, rfl⟩ := List.mem_iff_getElem.1 q1;have := (at_key (up_nodup h.up) Tb.eq_iff hi j hj).1 ((Tb.eq_iff _ _).2 q2.symm);subst this; exact hs
   unfold gK.loop1;simp only;rw [ltI_t (by unfold lenL; omega), cond_true, Lh (inB_at hi), nthI_at hi];have e0 : (⟨x.S[i].fu, ⟨x.S[i].fc, x.S[i].fN⟩⟩ : Tb) = lnk x.S[i] := rfl;rw [e0];unfold gag;simp only;rw [(sub_get h.prm h.up _).1, (sub_get h.prm h.up _).2, hf, hasS_some hf, Lg, Lh (show InB (i : Int) (lenL (x.S.map lnk)) from ⟨by omega, by unfold lenL; rw [List.length_map]; omega⟩), hat, Lp (by omega)];simp only [lnk, subV];rw [eqI_t rfl, eqI_t rfl, eqI_t rfl, neI_f rfl, neB_self];rfl
  ·unfold gK.loop1;simp only;rw [ltI_f (by unfold lenL; omega), cond_false]
 have w2 : loopF (gK.loop2 (stA x.L x.nx x.T m) (rfA x.L x.nx x.T x.S)) 0 = some (.go ()) := by
  refine walk_out (n := x.T.length) (fun i => (i : Int)) (fun i hi => ?_) ?_
  ·have hm : x.T[i] ∈ x.T := List.getElem_mem hi;have h3 := h.tss _ hm;have hf : findT x.T ⟨x.T[i].fc, x.T[i].fN⟩ = some x.T[i] := findT_of h.tnd hm;have hh : hasT x.T ⟨x.T[i].fc, x.T[i].fN⟩ = true := by unfold hasT; rw [hf]; rfl
   have w3 : loopF (gK.loop3 (stA x.L x.nx x.T m) (rfA x.L x.nx x.T x.S) (trkV (some x.T[i]), true) (i : Int)) 0 = some (.go ()) := by
    refine walk_out (n := x.T[i].fb.length) (fun j => (j : Int)) (fun j hj => ?_) ?_
    ·unfold gK.loop3;simp only;rw [nthI_at hi, ltI_t (by unfold lenL; omega), cond_true, Lh (inB_at hj), nthI_at hj, source_d h hm hj, Lg];simp only [trkV];rw [Lh (inB_at hj), nthI_at hj, Lp (by omega), neI_f rfl];simp only [keyT];rw [eqI_t rfl, eqI_t rfl, neI_f rfl];rfl
    ·unfold gK.loop3;simp only;rw [nthI_at hi, ltI_f (by unfold lenL; omega), cond_false]
   unfold gK.loop2;simp only;rw [ltI_t (by unfold lenL; omega), cond_true, Lh (inB_at hi), nthI_at hi, track_d h, hf, hh, Lg];simp only [w3, Lp (show i < 1000000000 by omega)];simp only [trkV];rw [neB_self, neB_self, neI_f rfl];rfl
  ·unfold gK.loop2;simp only;rw [ltI_f (by unfold lenL; omega), cond_false]
 unfold gK;simp only;rw [is_d h.tbl, Lg, neI_f rfl, cond_false, links_d h.prm h.up (by omega), Lg, neI_f (by unfold lenL; rw [List.length_map]), cond_false, w1];simp only [Lg, flC_go];rw [w2];rfl
end Go.Proofs
end
