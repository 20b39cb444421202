/- That these functions compute what their plain functions do. No condition. -/
import Derived.Test.YtpjplfnapgpfmaaGreatM08
import Derived.Test.YtpjplfnapgpfmaaGreatTy
import Derived.Test.YtpjplfnapgpfmaaGreatEa
import Derived.Test.YtpjplfnapgpfmaaGreatEd
import Derived.Test.YtpjplfnapgpfmaaGreatEf
import Derived.Test.YtpjplfnapgpfmaaGreatEi
import Derived.Test.YtpjplfnapgpfmaaGreatM06
import Derived.Test.YtpjplfnapgpfmaaGreatM01
import Derived.Test.YtpjplfnapgpfmaaGreatGl
section
namespace Go.Proofs
open Go.Ab
@[simp] def ge.out (_x0 : Int) (_x1 : Int) (_x2 : List Tq) (r : Bool) : Out := { av := .lit (.bool r), M := none }
def ge.fin (x0 : Int) (x1 : Int) (x2 : List Tq) (r : Bool) (σ : St) : Prop := finK (ge.out x0 x1 x2 r) [] σ.M (resA Tryz.ty σ.A σ.M Tryz.f4.results.toList)
set_option maxHeartbeats 4000000 in
set_option maxRecDepth 100000 in
theorem ge.can (x0 : Int) (x1 : Int) (x2 : List Tq) (r : Bool) (hr : ge x0 x1 x2 = some r) : CallOk Tryz.prog 4 [.lit (.int .i64 x0), .lit (.int .i64 x1), .sl (x2.map Tq.enc) .no] [] (ge.out x0 x1 x2 r) := by
 unfold ge at hr
 have hΓ := (gamL_cons gK.ok (gamL_cons gu.ok (gamL_cons gaf.ok (gamL_cons gaO.ok (gamL_cons gay.ok (gamL_cons gP.ok (gamL_cons gaW.ok (gamL_nil))))))) : GamOk Tryz.prog _)
 refine cw Tryz.func4 rfl (by kernel_rfl) rfl rfl (by simp) fun _ _ _ => ?_
 refine tq hΓ [] [] ?_
 refine AWp.seq ?_
 obtain ⟨r1, h20, hr⟩ := Lb hr
 refine tq hΓ [19] [] ?_ (by simp [h20]; exact rr)
 refine AWp.cnd hr (by simp) (fun h21 hr => ?_) (fun h21 hr => ?_)
 ·refine tq hΓ [6] [19, 0, 1, 2] ?_ (by simp [h21]; exact rr)
  obtain rfl := La hr
  exact AWp.ret (Le (by simp))
 ·refine AWp.skip ?_
  obtain ⟨r2, h22, hr⟩ := Lb hr
  obtain ⟨r3, h23, hr⟩ := Lb hr
  refine tq hΓ [7, 8] [19, 0, 1] ?_ (by simp [h21, h22, h23]; exact rr)
  refine AWp.seq ?_
  refine tq hΓ [28] [8] ?_ (by simp; exact rr)
  refine AWp.cnd hr (by simp) (fun h24 hr => ?_) (fun h24 hr => ?_)
  ·refine tq hΓ [6] [28, 7, 2] ?_ (by simp [h24]; exact rr)
   obtain rfl := La hr
   exact AWp.ret (Le (by simp))
  ·refine AWp.skip ?_
   refine AWp.seq ?_
   refine tq hΓ [9] [28] ?_ (by simp [h24]; exact rr)
   refine AWp.loopE (fun (s1 : Int × (List (Int × Int)) × (List (Int × Int)) × Int × Int × Bool × (List (Int × Tj)) × Ts × Int × Int × Tc × Int × Int) (γ1 : Unit) => ⟨[⟨9, none, .n s1.1⟩, ⟨7, none, .ptr 8 0⟩, ⟨2, none, .sl (x2.map Tq.enc) .no⟩], [.dead, .dead, .dead, .mapo (encM (kI .i64) (kI .i64) s1.2.1), .mapo (encM (kI .i64) (kI .i64) s1.2.2.1), .blk [.n s1.2.2.2.1, .mp 3, .mp 4, .n s1.2.2.2.2.1, .b s1.2.2.2.2.2.1], .own (Tj.own .i64 s1.2.2.2.2.2.2.1 none) none, .blk (s1.2.2.2.2.2.2.2.1.enc ++ [.mp 6, .ptr 5 0, .n s1.2.2.2.2.2.2.2.2.1, .n s1.2.2.2.2.2.2.2.2.2.1]), .blk ([.ptr 7 0] ++ s1.2.2.2.2.2.2.2.2.2.2.1.enc ++ [.n s1.2.2.2.2.2.2.2.2.2.2.2.1, .n s1.2.2.2.2.2.2.2.2.2.2.2.2])]⟩) (fun (v1 : (List (Int × Int)) × (List (Int × Int)) × Int × Int × Bool × (List (Int × Tj)) × Ts × Int × Int × Tc × Int × Int) (γ1a : Unit) => ⟨[⟨7, none, .ptr 8 0⟩], [.dead, .dead, .dead, .mapo (encM (kI .i64) (kI .i64) v1.1), .mapo (encM (kI .i64) (kI .i64) v1.2.1), .blk [.n v1.2.2.1, .mp 3, .mp 4, .n v1.2.2.2.1, .b v1.2.2.2.2.1], .own (Tj.own .i64 v1.2.2.2.2.2.1 none) none, .blk (v1.2.2.2.2.2.2.1.enc ++ [.mp 6, .ptr 5 0, .n v1.2.2.2.2.2.2.2.1, .n v1.2.2.2.2.2.2.2.2.1]), .blk ([.ptr 7 0] ++ v1.2.2.2.2.2.2.2.2.2.1.enc ++ [.n v1.2.2.2.2.2.2.2.2.2.2.1, .n v1.2.2.2.2.2.2.2.2.2.2.2])]⟩) (ge.fin x0 x1 x2) hr () 9 (by simp) (fun s1 f γ1 hr => ?_) (fun v1 γ1a σ1 m1 hr hc => ?_) (fun _ h => h)
   ·unfold ge.loop1 at hr
    refine AWp.seq ?_
    refine tq hΓ [36] [] ?_ (by simp; exact rr)
    refine AWp.cnd hr (by simp) (fun h25 hr => ?_) (fun h25 hr => ?_)
    ·refine AWp.skip ?_
     refine AWp.seq ?_
     refine AWp.block ?_
     obtain ⟨h26, hr⟩ := Lc hr
     obtain ⟨r4, h27, hr⟩ := Lb hr
     refine td hΓ [8] [36] [(8, 11), (9, 11)] [(false, []), (false, []), (false, []), (false, []), (false, []), (true, []), (false, []), (false, []), (false, []), (false, []), (true, []), (false, [])] (by simp [h25, h26, h27]; exact rr) ?_
     refine tq hΓ [50] [8] ?_ (by simp; exact rr)
     refine AWp.cnd hr (by simp) (fun h28 hr => ?_) (fun h28 hr => ?_)
     ·refine tq hΓ [6] [50, 9, 7, 2] ?_ (by simp [h28]; exact rr)
      refine AWp.ret ?_
      obtain rfl := La hr
      refine round_ret ?_
      refine Le ?_
      simp
     ·refine AWp.skip ?_
      refine tl hΓ [9] [50] ?_ (by simp [h28]; exact rr)
      obtain rfl := La hr
      exact Lk () 9 (by first | (simp; done) | simp [h20, h21, h22, h23, h24, h25, h26, h27, h28])
    ·refine AWp.exit ?_
     obtain rfl := La hr
     exact Ln () 9 (by first | (simp; done) | simp [h20, h21, h22, h23, h24, h25])
   ·refine AWp.conv hc ?_
    refine tq hΓ [10] [] ?_ (by simp; exact rr)
    refine AWp.seq ?_
    refine tq hΓ [53, 54, 55] [] ?_ (by simp; exact rr)
    refine AWp.loopE (fun (s2 : Int × Int) (γ2 : Unit) => ⟨[⟨53, none, .sl (v1.2.2.2.2.2.2.2.2.2.1.fL.map Th.enc) .no⟩, ⟨54, none, .n (lenL v1.2.2.2.2.2.2.2.2.2.1.fL)⟩, ⟨55, none, .n s2.1⟩, ⟨10, none, .n s2.2⟩, ⟨7, none, .ptr 8 0⟩], [.dead, .dead, .dead, .mapo (encM (kI .i64) (kI .i64) v1.1), .mapo (encM (kI .i64) (kI .i64) v1.2.1), .blk [.n v1.2.2.1, .mp 3, .mp 4, .n v1.2.2.2.1, .b v1.2.2.2.2.1], .own (Tj.own .i64 v1.2.2.2.2.2.1 none) none, .blk (v1.2.2.2.2.2.2.1.enc ++ [.mp 6, .ptr 5 0, .n v1.2.2.2.2.2.2.2.1, .n v1.2.2.2.2.2.2.2.2.1]), .blk ([.ptr 7 0] ++ v1.2.2.2.2.2.2.2.2.2.1.enc ++ [.n v1.2.2.2.2.2.2.2.2.2.2.1, .n v1.2.2.2.2.2.2.2.2.2.2.2])]⟩) (fun (v2 : Int) (γ2a : Unit) => ⟨[⟨10, none, .n v2⟩, ⟨7, none, .ptr 8 0⟩], [.dead, .dead, .dead, .mapo (encM (kI .i64) (kI .i64) v1.1), .mapo (encM (kI .i64) (kI .i64) v1.2.1), .blk [.n v1.2.2.1, .mp 3, .mp 4, .n v1.2.2.2.1, .b v1.2.2.2.2.1], .own (Tj.own .i64 v1.2.2.2.2.2.1 none) none, .blk (v1.2.2.2.2.2.2.1.enc ++ [.mp 6, .ptr 5 0, .n v1.2.2.2.2.2.2.2.1, .n v1.2.2.2.2.2.2.2.2.1]), .blk ([.ptr 7 0] ++ v1.2.2.2.2.2.2.2.2.2.1.enc ++ [.n v1.2.2.2.2.2.2.2.2.2.2.1, .n v1.2.2.2.2.2.2.2.2.2.2.2])]⟩) (ge.fin x0 x1 x2) hr () 9 (by simp) (fun s2 f γ2 hr => ?_) (fun v2 γ2a σ1 m1 hr hc => ?_) (fun _ h => h)
    ·unfold ge.loop2 at hr
     refine tq hΓ [56] [] ?_ (by simp; exact rr)
     refine AWp.seq ?_
     refine AWp.cnd hr (by simp) (fun h29 hr => ?_) (fun h29 hr => ?_)
     ·refine AWp.skip ?_
      refine AWp.seq ?_
      refine AWp.block ?_
      obtain ⟨h30, hr⟩ := Lc hr
      refine tq hΓ [12] [56] ?_ (by simp [h29, h30]; exact rr)
      refine tl hΓ [10] [12] ?_ (by simp; exact rr)
      refine tl hΓ [55] [] ?_ (by simp; exact rr)
      obtain rfl := La hr
      exact Lk () 9 (by first | (simp; done) | simp [h20, h21, h22, h23, h24, h29, h30])
     ·refine AWp.exit ?_
      obtain rfl := La hr
      exact Ln () 9 (by first | (simp; done) | simp [h20, h21, h22, h23, h24, h29])
    ·refine AWp.conv hc ?_
     obtain ⟨r5, h31, hr⟩ := Lb hr
     refine tq hΓ [] [] ?_ (by simp [h31]; exact rr)
     obtain ⟨r6, h32, hr⟩ := Lb hr
     refine tq hΓ [13] [] ?_ (by simp [h32]; exact rr)
     refine AWp.seq ?_
     refine tq hΓ [74, 75, 76] [] ?_ (by simp; exact rr)
     refine AWp.loopE (fun (s3 : Int) (γ3 : Unit) => ⟨[⟨74, none, .sl (v1.2.2.2.2.2.2.2.2.2.1.fL.map Th.enc) .no⟩, ⟨75, none, .n (lenL v1.2.2.2.2.2.2.2.2.2.1.fL)⟩, ⟨76, none, .n s3⟩, ⟨13, none, .sl (r6.1.map Tb.enc) .no⟩, ⟨10, none, .n v2⟩, ⟨7, none, .ptr 8 0⟩], [.dead, .dead, .dead, .mapo (encM (kI .i64) (kI .i64) r6.2.fa.fm), .mapo (encM (kI .i64) (kI .i64) r6.2.fa.fp), .blk [.n r6.2.fa.fb, .mp 3, .mp 4, .n r6.2.fa.fAt, .b r6.2.fa.fg], .own (Tj.own .i64 r6.2.fh none) none, .blk (r6.2.fd.enc ++ [.mp 6, .ptr 5 0, .n r6.2.fc, .n r6.2.ff]), .blk ([.ptr 7 0] ++ v1.2.2.2.2.2.2.2.2.2.1.enc ++ [.n v1.2.2.2.2.2.2.2.2.2.2.1, .n v1.2.2.2.2.2.2.2.2.2.2.2])]⟩) (fun (v3 : Unit) (γ3a : Unit) => ⟨[⟨13, none, .sl (r6.1.map Tb.enc) .no⟩, ⟨10, none, .n v2⟩, ⟨7, none, .ptr 8 0⟩], [.dead, .dead, .dead, .mapo (encM (kI .i64) (kI .i64) r6.2.fa.fm), .mapo (encM (kI .i64) (kI .i64) r6.2.fa.fp), .blk [.n r6.2.fa.fb, .mp 3, .mp 4, .n r6.2.fa.fAt, .b r6.2.fa.fg], .own (Tj.own .i64 r6.2.fh none) none, .blk (r6.2.fd.enc ++ [.mp 6, .ptr 5 0, .n r6.2.fc, .n r6.2.ff]), .blk ([.ptr 7 0] ++ v1.2.2.2.2.2.2.2.2.2.1.enc ++ [.n v1.2.2.2.2.2.2.2.2.2.2.1, .n v1.2.2.2.2.2.2.2.2.2.2.2])]⟩) (ge.fin x0 x1 x2) hr () 9 (by simp) (fun s3 f γ3 hr => ?_) (fun v3 γ3a σ1 m1 hr hc => ?_) (fun _ h => h)
     ·unfold ge.loop3 at hr
      refine tq hΓ [77] [] ?_ (by simp; exact rr)
      refine AWp.seq ?_
      refine AWp.cnd hr (by simp) (fun h33 hr => ?_) (fun h33 hr => ?_)
      ·refine AWp.skip ?_
       refine AWp.seq ?_
       refine AWp.block ?_
       obtain ⟨h34, hr⟩ := Lc hr
       refine tq hΓ [15] [77] ?_ (by simp [h33, h34]; exact rr)
       obtain ⟨r7, h35, hr⟩ := Lb hr
       refine tq hΓ [16, 17] [15] ?_ (by simp [h35]; exact rr)
       refine tq hΓ [93] [16, 17] ?_ (by simp; exact rr)
       refine AWp.cnd hr (by simp) (fun h36 hr => ?_) (fun h36 hr => ?_)
       ·refine tq hΓ [6] [93, 74, 75, 76, 13, 10, 7] ?_ (by simp [h36]; exact rr)
        refine AWp.ret ?_
        obtain rfl := La hr
        refine round_ret ?_
        refine Le ?_
        simp
       ·refine AWp.skip ?_
        refine tl hΓ [76] [93] ?_ (by simp [h36]; exact rr)
        obtain rfl := La hr
        exact Lk () 9 (by first | (simp; done) | simp [h20, h21, h22, h23, h24, h31, h32, h33, h34, h35, h36])
      ·refine AWp.exit ?_
       obtain rfl := La hr
       exact Ln () 9 (by first | (simp; done) | simp [h20, h21, h22, h23, h24, h31, h32, h33])
     ·refine AWp.conv hc ?_
      cases h37 : (eqI (lenL r6.1) v2) with
      | true =>
        have hr := cond_t h37 hr
        obtain ⟨r8, h38, hr⟩ := Lb hr
        refine AWp.thn (AWp.regG Tryz.tyOk hΓ [(99, true)] (keep := [6]) (dead := [13, 10, 7]) (by kernel_rfl) rfl (by simp [h37, h38]; exact rr)) ?_
        obtain rfl := La hr
        exact AWp.ret (Le (by simp))
      | false =>
        have hr := cond_f h37 hr
        refine AWp.thn (AWp.regG Tryz.tyOk hΓ [(99, false)] (keep := [6]) (dead := [13, 10, 7]) (by kernel_rfl) rfl (by simp [h37]; exact rr)) ?_
        obtain rfl := La hr
        exact AWp.ret (Le (by simp))

end Go.Proofs
end
section
namespace Go.Proofs
open Go.Ab

theorem tr_ids {g : Int} {F F' : List Fw} {so so' cr cr' : Int} {out : List Sn} (h : Tr g F so cr out F' so' cr') : F'.map (·.fId) = F.map (·.fId) := by
 induction h with
 | nil _ => rfl
 | snd k hk _ _ _ _ ih => rw [ih, set_ids hk]
 | pic k hk _ _ _ _ ih => rw [ih, set_ids hk]
theorem tot_take_succ {F : List Fw} {k : Nat} (hk : k < F.length) : tot (F.take (k + 1)) = tot (F.take k) + F[k].fQ.fL.length := by
 unfold tot
 rw [List.take_succ_eq_append_getElem hk, List.map_append, List.sum_append]
 rfl

theorem enough_loop2 {V : (List (Int × Int)) × (List (Int × Int)) × Int × Int × Bool × (List (Int × Tj)) × Ts × Int × Int × Tc × Int × Int} {X : RO} (hV : V.2.2.2.2.2.2.2.2.2.1 = X) (hl : X.fL.length ≤ 1000) (ht : tot X.fL ≤ 1000) :
  ∀ (j k : Nat), k + j = X.fL.length → loopF (ge.loop2 V) ((k : Int), (tot (X.fL.take k) : Int)) = some (.go (tot X.fL : Int))
 | 0, k, hk => by
   refine Lq ?_
   unfold ge.loop2
   simp only
   rw [hV, ltI_f (by unfold lenL; omega), List.take_of_length_le (by omega)]
   rfl
 | j + 1, k, hk => by
   have hk' : k < X.fL.length := by omega
   rw [← enough_loop2 hV hl ht j (k + 1) (by omega)]
   refine loop_go ?_
   have h1 := tot_take_succ hk'
   have h2 : tot (X.fL.take (k + 1)) ≤ tot X.fL := by
    have : tot X.fL = tot (X.fL.take (k + 1)) + tot (X.fL.drop (k + 1)) := by
     conv => lhs; rw [← List.take_append_drop (k + 1) X.fL]
     unfold tot
     rw [List.map_append, List.sum_append]
    omega
   unfold ge.loop2
   simp only
   rw [hV, ltI_t (by unfold lenL; omega), cond_true, Lf (inb_n hk'), nthI_n hk', succ_n _ (by omega), addI_n (by unfold lenL; omega) (by unfold lenL; omega), h1]
   unfold lenL
   simp

theorem enough_loop3 {V : (List (Int × Int)) × (List (Int × Int)) × Int × Int × Bool × (List (Int × Tj)) × Ts × Int × Int × Tc × Int × Int} {X X8 : RO} {P8 : Tf} {out : List Sn} {t : Int} {n : Nat} (hV : V.2.2.2.2.2.2.2.2.2.1 = X) (r8 : Rel P8 X8 t n) (hid : X8.fL.map (·.fId) = X.fL.map (·.fId))
  (he : ∀ f ∈ X8.fL, f.fQ.fL = []) : ∀ (j k : Nat), k + j = X.fL.length → loopF (ge.loop3 (out, P8) V) (k : Int) = some (.go ())
 | 0, k, hk => by
   refine Lq ?_
   unfold ge.loop3
   rw [hV, ltI_f (by unfold lenL; omega)]
   rfl
 | j + 1, k, hk => by
   have hk' : k < X.fL.length := by omega
   have hlen : X8.fL.length = X.fL.length := by have := congrArg List.length hid; simpa using this
   have h8 := r8.len
   rw [← enough_loop3 hV r8 hid he j (k + 1) (by omega)]
   refine loop_go ?_
   have hk8 : k < X8.fL.length := by omega
   have hide : X.fL[k].fId = X8.fL[k].fId := by
    have h1 : (X8.fL.map (·.fId))[k]? = (X.fL.map (·.fId))[k]? := by rw [hid]
    rw [List.getElem?_map, List.getElem?_map, List.getElem?_eq_getElem hk8, List.getElem?_eq_getElem hk'] at h1
    simpa using h1.symm
   have hmem := List.getElem_mem hk8
   have hw : gaf P8 X.fL[k].fId = some (0, 0) := by
    unfold gaf
    rw [hide, r8.flows.find hmem, optC_some, len_ok, qsize_ok]
    have hq := he _ hmem
    simp only [Ld]
    rw [hq]
    rfl
   unfold ge.loop3
   rw [hV, ltI_t (by unfold lenL; omega), cond_true, Lf (inb_n hk'), nthI_n hk', hw]
   simp only [Ld]
   rw [show pickB (neI 0 0) true (neI 0 0) = false from rfl, cond_false, succ_n _ (by omega)]

theorem antiphonEnough_plain (x0 x1 : Int) (x2 : List AcT) (w : ∀ x ∈ x2, (Lit.int .i64 x.fId).wf = true) : ge x0 x1 x2 = some true := by
 obtain ⟨c, ec, hc, _⟩ := config_ok x0 x1
 obtain ⟨P0, eb, r0⟩ := begin_ok hc
 have key : ∀ (j k : Nat) (P : Tf) (X : RO) (t N : Int), k + j = 60 → Rel P X t k → X.fk = c.fk → ∃ P' X' t' N' n', loopF (ge.loop1 x2) (tupS (k : Int) P X t N) = some (.go (tupS 0 P' X' t' N').2) ∧ Rel P' X' t' n' ∧ n' ≤ 60 ∧ X'.fk = c.fk := by
  intro j
  induction j with
  | zero =>
    intro k P X t N hk hr hb
    refine ⟨P, X, t, N, k, Lq ?_, hr, by omega, hb⟩
    unfold ge.loop1 tupS
    simp only
    rw [pickB_and, ltI_f (a := (k : Int)) (b := 60) (by omega), Bool.and_false, cond_false]
  | succ j ih =>
    intro k P X t N hk hr hb
    by_cases hl : k < x2.length
    ·obtain ⟨P', X', t', N', out, e1, e2, d⟩ := does_ok (N := N) hr (by omega) (wf_id (w _ (List.getElem_mem hl)))
     obtain ⟨P2, X2, t2, N2, n2, q1, q2⟩ := ih (k + 1) P' X' t' N' (by omega) e2 (by rw [d.cfg.bytes, hb])
     refine ⟨P2, X2, t2, N2, n2, ?_, q2⟩
     rw [← q1]
     refine loop_go ?_
     unfold ge.loop1 tupS
     simp only
     rw [ltI_t (by unfold lenL; omega), ltI_t (by omega), show pickB true true false = true from rfl, cond_true, Lf (inb_n hl), nthI_n hl,
      show gP ⟨⟨P.fd, P.fh, ⟨P.fa.fb, P.fa.fm, P.fa.fp, P.fa.fAt, P.fa.fg⟩, P.fc, P.ff⟩, X, t, N⟩ x2[k] = _ from e1]
     simp only [Ld]
     rw [show notB true = false from rfl, cond_false, succ_n _ (by omega)]
    ·refine ⟨P, X, t, N, k, Lq ?_, hr, by omega, hb⟩
     unfold ge.loop1 tupS
     simp only
     rw [ltI_f (b := lenL x2) (by unfold lenL; omega), show ∀ b, pickB false b false = false from fun b => rfl, cond_false]
 obtain ⟨P, X, t, N, n, hv, hr, hn, hb⟩ := key 60 0 P0 (x0F c) 0 0 rfl r0 rfl
 have hcr := hr.credit
 obtain ⟨cr, hg, hcr1, hcr2⟩ : ∃ cr, gK P 1073741824 = some ⟨P.fd, P.fh, P.fa, cr, P.ff⟩ ∧ 1073741824 ≤ cr ∧ cr ≤ 1099511627776 := by
  unfold gK
  simp only [maxI_d, minI_d]
  rw [addI_n (by omega) (by omega)]
  exact ⟨_, rfl, by omega, by omega⟩
 have r7 := grant_rel hr (c := cr) (by omega)
 obtain ⟨P8, X8, out, e8, _, r8, t8, _⟩ := run_both r7
 simp only at t8
 have hsz : szAll X.fL ≤ cr := by
  have h1 := szAll_le hr
  have h2 : X.fk * (n : Int) ≤ 16777216 * 60 := Int.mul_le_mul (by have := hr.bytes; omega) (by omega) (by omega) (by omega)
  omega
 have hall := tr_all t8 hr.pos hsz
 have hlen := tr_len t8 hr.pos hsz
 have hso := hr.sounds
 have hca := hr.calls
 have htot8 : tot X8.fL = 0 := by
  have := out_len t8
  omega
 obtain ⟨P9, X9, out2, e9, _, r9, t9, _⟩ := run_both r8
 have ho2 : out2 = [] := by
  have := out_len t9
  exact List.eq_nil_of_length_eq_zero (by omega)
 subst ho2
 have hlx := hr.len
 unfold ge
 rw [live_ok]
 simp only [Ld]
 rw [show notB true = false from rfl, cond_false, ec]
 simp only [Ld]
 rw [eb]
 simp only [Ld]
 rw [show notB true = false from rfl, cond_false, show loopF (ge.loop1 x2) (0, P0.fa.fm, P0.fa.fp, P0.fa.fb, P0.fa.fAt, P0.fa.fg, P0.fh, P0.fd, P0.fc, P0.ff, x0F c, 0, 0) = _ from hv]
 simp only [Ld, flC_go, tupS]
 rw [show loopF (ge.loop2 (P.fa.fm, P.fa.fp, P.fa.fb, P.fa.fAt, P.fa.fg, P.fh, P.fd, P.fc, P.ff, X, t, N)) (0, 0) = _ from enough_loop2 (V := (tupS 0 P X t N).2) (X := X) rfl hlx (by omega) X.fL.length 0 (by omega)]
 simp only [Ld, flC_go]
 rw [show gK ⟨P.fd, P.fh, ⟨P.fa.fb, P.fa.fm, P.fa.fp, P.fa.fAt, P.fa.fg⟩, P.fc, P.ff⟩ 1073741824 = _ from hg]
 simp only [Ld]
 rw [e8]
 simp only [Ld]
 rw [show loopF (ge.loop3 (out, P8) (P.fa.fm, P.fa.fp, P.fa.fb, P.fa.fAt, P.fa.fg, P.fh, P.fd, P.fc, P.ff, X, t, N)) 0 = _ from enough_loop3 (V := (tupS 0 P X t N).2) (X := X) rfl r8 (tr_ids t8) hall X.fL.length 0 (by omega)]
 simp only [Ld, flC_go]
 rw [eqI_t (show lenL out = (tot X.fL : Int) by unfold lenL; omega), cond_true, e9]
 rfl
end Go.Proofs
end
section
namespace Go.Ab
def ShFs (P : Program) : List TypeId → List AV → Prop
 | [], q => q = []
 | t :: ts, q => ∃ r q', q = r ++ q' ∧ ShE P t r ∧ ShFs P ts q'
theorem shFs_of {P : Program} : ∀ {ts : List TypeId} {parts : List (List AV)}, parts.length = ts.length → (∀ (j : Nat) (t : TypeId), ts[j]? = some t → ∃ r, parts[j]? = some r ∧ ShE P t r) → ShFs P ts parts.flatten
 | [], [], _, _ => rfl
 | [], _ :: _, h, _ => by simp at h
 | _ :: _, [], h, _ => by simp at h
 | t :: ts, p :: parts, h, hp => by
   obtain ⟨r, h1, h2⟩ := hp 0 t rfl
   cases h1
   exact ⟨p, parts.flatten, by simp, h2, shFs_of (by simpa using h) fun j t' ht => hp (j + 1) t' ht⟩
theorem sh_fields {P : Program} {t : TypeId} {l : List (Nat × TypeId)} {size bytes : Nat} {z q : List AV} {eq : Bool} (ht : tyOf P t = some ⟨.struct l, size, bytes, z, eq⟩) (h : ShE P t q) : ShFs P (l.map (·.2)) q := by
 unfold tyOf at ht
 split at ht
 ·rename_i i d hi hd
  split at ht
  ·split at ht
   ·simp only [Option.some.injEq, TyI.mk.injEq] at ht
    obtain ⟨hk, _⟩ := ht
    cases d with
    | struct fs =>
      simp only [kindOf, TyK.struct.injEq] at hk
      obtain ⟨parts, h1, rfl, h3⟩ := sh_struct hd h
      refine shFs_of (by rw [h1, ← hk]; simp) fun j t' hj => ?_
      rw [← hk] at hj
      simp only [List.map_map, List.getElem?_map, Array.getElem?_toList] at hj
      cases hf : fs[j]? with
      | none => rw [hf] at hj; cases hj
      | some f =>
        rw [hf] at hj
        simp only [Option.map_some, Option.some.injEq, Function.comp_apply] at hj
        subst hj
        exact h3 j f hf
    | _ => simp [kindOf] at hk
   ·cases ht
  ·cases ht
 ·cases ht
theorem shV_rows {P : Program} {t e : TypeId} {av : AV} {α : Type} {enc : α → List AV} {wf : α → Prop} (hu : P.underlying t = some (.slice e)) (he : ∀ q, ShE P e q → ∃ x, q = enc x ∧ wf x) (h : ShV P t av) :
  ∃ l : List α, av = .sl (l.map enc) .no ∧ l.length ≤ maxLen ∧ ∀ x ∈ l, wf x := by
 obtain ⟨els, rfl, hq, hlen⟩ := shV_slice hu h
 have : ∀ els : List (List AV), (∀ q ∈ els, ShE P e q) → ∃ l : List α, els = l.map enc ∧ ∀ x ∈ l, wf x := by
  intro els
  induction els with
  | nil => intro _; exact ⟨[], rfl, fun _ h => by cases h⟩
  | cons q r ih =>
    intro hq
    obtain ⟨n, rfl, hw⟩ := he q (hq q (by simp))
    obtain ⟨l, rfl, hl⟩ := ih fun q' h' => hq q' (by simp [h'])
    exact ⟨n :: l, rfl, fun x hx => by
     rcases List.mem_cons.1 hx with rfl | hx
     ·exact hw
     ·exact hl x hx⟩
 obtain ⟨l, rfl, hl⟩ := this els hq
 exact ⟨l, rfl, by simpa using hlen, hl⟩
end Go.Ab
end
section
namespace Go.Proofs
open Go.Ab

theorem Tq.sh {q : List AV} (h : ShE Tryz.prog 43 q) : ∃ x : Tq, q = x.enc ∧ (Lit.int .i64 x.fId).wf = true := by
 have k := sh_fields Tryz.ty43 h
 clear h
 obtain ⟨_, _, rfl, h0, k⟩ := k
 obtain ⟨x0, rfl, _⟩ := sh_int (k := .i64) (by kernel_rfl) h0
 obtain ⟨_, _, rfl, h1, k⟩ := k
 obtain ⟨x1, rfl, w1⟩ := sh_int (k := .i64) (by kernel_rfl) h1
 obtain ⟨_, _, rfl, h2, k⟩ := k
 obtain ⟨x2, rfl, _⟩ := sh_int (k := .i64) (by kernel_rfl) h2
 obtain ⟨_, _, rfl, h3, k⟩ := k
 obtain ⟨x3, rfl⟩ := sh_bool (by kernel_rfl) h3
 obtain ⟨_, _, rfl, h4, k⟩ := k
 obtain ⟨x4, rfl⟩ := sh_bool (by kernel_rfl) h4
 obtain rfl := k
 exact ⟨Tq.mk x0 x1 x2 x3 x4, by simp, w1⟩

set_option maxRecDepth 100000 in
theorem gTopAntiphonEnough_call : ∀ xs, ShAll Tryz.prog Tryz.f4.params.toList xs → ∃ o : Prop, o ∧ CallOk Tryz.prog 4 xs [] { av := .lit (.bool true), obl := o } := by
 intro xs h
 rw [show Tryz.f4.params.toList = [3, 3, 22] by kernel_rfl] at h
 obtain ⟨_, _, rfl, h0, h⟩ := shAll_cons h
 obtain ⟨_, _, rfl, h1, h⟩ := shAll_cons h
 obtain ⟨_, _, rfl, h2, h⟩ := shAll_cons h
 obtain rfl := shAll_nil h
 obtain ⟨x0, rfl, w0⟩ := shV_int (k := .i64) (by kernel_rfl) h0
 obtain ⟨x1, rfl, w1⟩ := shV_int (k := .i64) (by kernel_rfl) h1
 obtain ⟨x2, rfl, w2, v2⟩ := shV_rows (e := 43) (wf := fun x : Tq => (Lit.int .i64 x.fId).wf = true) (by kernel_rfl) (fun q h => Tq.sh h) h2
 exact ⟨True, trivial, ge.can x0 x1 x2 true (antiphonEnough_plain x0 x1 x2 v2)⟩
end Go.Proofs
end
