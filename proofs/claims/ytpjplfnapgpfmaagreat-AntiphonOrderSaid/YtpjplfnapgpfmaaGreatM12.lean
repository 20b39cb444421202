/- That these functions compute what their plain functions do. No condition. -/
import Derived.Test.YtpjplfnapgpfmaaGreatM04
import Derived.Test.YtpjplfnapgpfmaaGreatTy
import Derived.Test.YtpjplfnapgpfmaaGreatEf
import Derived.Test.YtpjplfnapgpfmaaGreatEi
import Derived.Test.YtpjplfnapgpfmaaGreatGl
section
namespace Go.Proofs
open Go.Ab
@[simp] def gt.out (_x0 : Int) (_x1 : Int) (_x2 : List Tq) (r : Bool) : Out := { av := .lit (.bool r), M := none }
def gt.fin (x0 : Int) (x1 : Int) (x2 : List Tq) (r : Bool) (σ : St) : Prop := finK (gt.out x0 x1 x2 r) [] σ.M (resA Tryz.ty σ.A σ.M Tryz.f3.results.toList)
set_option maxHeartbeats 4000000 in
set_option maxRecDepth 100000 in
theorem gt.can (x0 : Int) (x1 : Int) (x2 : List Tq) (r : Bool) (hr : gt x0 x1 x2 = some r) : CallOk Tryz.prog 3 [.lit (.int .i64 x0), .lit (.int .i64 x1), .sl (x2.map Tq.enc) .no] [] (gt.out x0 x1 x2 r) := by
 unfold gt at hr
 have hΓ := (gamL_cons gaM.ok (gamL_cons gaw.ok (gamL_cons gO.ok (gamL_cons gaU.ok (gamL_nil)))) : GamOk Tryz.prog _)
 refine cw Tryz.func3 rfl (by kernel_rfl) rfl rfl (by simp) fun _ _ _ => ?_
 refine tq hΓ [] [] ?_
 refine AWp.seq ?_
 obtain ⟨r1, h13, hr⟩ := Lb hr
 refine tq hΓ [17] [] ?_ (by simp [h13]; exact rr)
 refine AWp.cnd hr (by simp) (fun h14 hr => ?_) (fun h14 hr => ?_)
 ·refine tq hΓ [6] [17, 0, 1, 2] ?_ (by simp [h14]; exact rr)
  obtain rfl := La hr
  exact AWp.ret (Le (by simp))
 ·refine AWp.skip ?_
  obtain ⟨r2, h15, hr⟩ := Lb hr
  obtain ⟨r3, h16, hr⟩ := Lb hr
  refine tq hΓ [7, 8] [17, 0, 1] ?_ (by simp [h14, h15, h16]; exact rr)
  refine AWp.seq ?_
  refine tq hΓ [26] [8] ?_ (by simp; exact rr)
  refine AWp.cnd hr (by simp) (fun h17 hr => ?_) (fun h17 hr => ?_)
  ·refine tq hΓ [6] [26, 7, 2] ?_ (by simp [h17]; exact rr)
   obtain rfl := La hr
   exact AWp.ret (Le (by simp))
  ·refine AWp.skip ?_
   refine tq hΓ [9] [26] ?_ (by simp [h17]; exact rr)
   refine AWp.seq ?_
   refine tq hΓ [10] [] ?_ (by simp; exact rr)
   refine AWp.loopE (fun (s1 : Int × (List (Int × Int)) × (List (Int × Int)) × Int × Int × Bool × (List (Int × Tk)) × Tt × Int × Int × Tc × Int × Int × (List (Int × Int))) (γ1 : Unit) => ⟨[⟨10, none, .n s1.1⟩, ⟨9, none, .mp 9⟩, ⟨7, none, .ptr 8 0⟩, ⟨2, none, .sl (x2.map Tq.enc) .no⟩], [.dead, .dead, .dead, .mapo (encM (kI .i64) (kI .i64) s1.2.1), .mapo (encM (kI .i64) (kI .i64) s1.2.2.1), .blk [.n s1.2.2.2.1, .mp 3, .mp 4, .n s1.2.2.2.2.1, .b s1.2.2.2.2.2.1], .own (Tk.own .i64 s1.2.2.2.2.2.2.1 none) none, .blk (s1.2.2.2.2.2.2.2.1.enc ++ [.mp 6, .ptr 5 0, .n s1.2.2.2.2.2.2.2.2.1, .n s1.2.2.2.2.2.2.2.2.2.1]), .blk ([.ptr 7 0] ++ s1.2.2.2.2.2.2.2.2.2.2.1.enc ++ [.n s1.2.2.2.2.2.2.2.2.2.2.2.1, .n s1.2.2.2.2.2.2.2.2.2.2.2.2.1]), .mapo (encM (kI .i64) (kI .i64) s1.2.2.2.2.2.2.2.2.2.2.2.2.2)]⟩) (fun (v1 : (List (Int × Int)) × (List (Int × Int)) × Int × Int × Bool × (List (Int × Tk)) × Tt × Int × Int × Tc × Int × Int × (List (Int × Int))) (γ1a : Unit) => ⟨[], [.dead, .dead, .dead, .mapo (encM (kI .i64) (kI .i64) v1.1), .mapo (encM (kI .i64) (kI .i64) v1.2.1), .blk [.n v1.2.2.1, .mp 3, .mp 4, .n v1.2.2.2.1, .b v1.2.2.2.2.1], .own (Tk.own .i64 v1.2.2.2.2.2.1 none) none, .blk (v1.2.2.2.2.2.2.1.enc ++ [.mp 6, .ptr 5 0, .n v1.2.2.2.2.2.2.2.1, .n v1.2.2.2.2.2.2.2.2.1]), .blk ([.ptr 7 0] ++ v1.2.2.2.2.2.2.2.2.2.1.enc ++ [.n v1.2.2.2.2.2.2.2.2.2.2.1, .n v1.2.2.2.2.2.2.2.2.2.2.2.1]), .mapo (encM (kI .i64) (kI .i64) v1.2.2.2.2.2.2.2.2.2.2.2.2)]⟩) (gt.fin x0 x1 x2) hr () 10 (by simp) (fun s1 f γ1 hr => ?_) (fun v1 γ1a σ1 m1 hr hc => ?_) (fun _ h => h)
   ·unfold gt.loop1 at hr
    refine AWp.seq ?_
    refine tq hΓ [35] [] ?_ (by simp; exact rr)
    refine AWp.cnd hr (by simp) (fun h18 hr => ?_) (fun h18 hr => ?_)
    ·refine AWp.skip ?_
     refine AWp.seq ?_
     refine AWp.block ?_
     obtain ⟨h19, hr⟩ := Lc hr
     obtain ⟨r4, h20, hr⟩ := Lb hr
     refine td hΓ [11, 12, 13] [35] [(6, 11), (7, 11), (8, 11), (8, 12), (9, 11), (9, 12)] [(false, []), (false, []), (false, []), (false, []), (false, []), (true, []), (false, []), (false, []), (false, []), (false, []), (true, []), (true, []), (false, []), (false, [])] (by simp [h18, h19, h20]; exact rr) ?_
     refine AWp.seq ?_
     refine tq hΓ [] [11] ?_ (by simp; exact rr)
     refine tq hΓ [50] [13] ?_ (by simp; exact rr)
     refine AWp.cnd hr (by simp) (fun h21 hr => ?_) (fun h21 hr => ?_)
     ·refine tq hΓ [6] [50, 12, 10, 9, 7, 2] ?_ (by simp [h21]; exact rr)
      refine AWp.ret ?_
      obtain rfl := La hr
      refine round_ret ?_
      refine Le ?_
      simp
     ·refine AWp.skip ?_
      refine tq hΓ [51, 52, 53] [50, 12] ?_ (by simp [h21]; exact rr)
      refine AWp.loopE (fun (s2 : Int × (List (Int × Int))) (γ2 : Unit) => ⟨[⟨51, none, .sl (r4.2.1.map Tb.enc) .no⟩, ⟨52, none, .n (lenL r4.2.1)⟩, ⟨53, none, .n s2.1⟩, ⟨10, none, .n s1.1⟩, ⟨9, none, .mp 9⟩, ⟨7, none, .ptr 8 0⟩, ⟨2, none, .sl (x2.map Tq.enc) .no⟩], [.dead, .dead, .dead, .mapo (encM (kI .i64) (kI .i64) r4.1.fO.fa.fk), .mapo (encM (kI .i64) (kI .i64) r4.1.fO.fa.fp), .blk [.n r4.1.fO.fa.fb, .mp 3, .mp 4, .n r4.1.fO.fa.fAt, .b r4.1.fO.fa.fg], .own (Tk.own .i64 r4.1.fO.fh none) none, .blk (r4.1.fO.fe.enc ++ [.mp 6, .ptr 5 0, .n r4.1.fO.fc, .n r4.1.fO.ff]), .blk ([.ptr 7 0] ++ r4.1.fX.enc ++ [.n r4.1.fA, .n r4.1.fN]), .mapo (encM (kI .i64) (kI .i64) s2.2), .blk ([.ptr 7 0] ++ r4.1.fX.enc ++ [.n r4.1.fA, .n r4.1.fN])]⟩) (fun (v2 : (List (Int × Int))) (γ2a : Unit) => ⟨[⟨10, none, .n s1.1⟩, ⟨9, none, .mp 9⟩, ⟨7, none, .ptr 8 0⟩, ⟨2, none, .sl (x2.map Tq.enc) .no⟩], [.dead, .dead, .dead, .mapo (encM (kI .i64) (kI .i64) r4.1.fO.fa.fk), .mapo (encM (kI .i64) (kI .i64) r4.1.fO.fa.fp), .blk [.n r4.1.fO.fa.fb, .mp 3, .mp 4, .n r4.1.fO.fa.fAt, .b r4.1.fO.fa.fg], .own (Tk.own .i64 r4.1.fO.fh none) none, .blk (r4.1.fO.fe.enc ++ [.mp 6, .ptr 5 0, .n r4.1.fO.fc, .n r4.1.fO.ff]), .blk ([.ptr 7 0] ++ r4.1.fX.enc ++ [.n r4.1.fA, .n r4.1.fN]), .mapo (encM (kI .i64) (kI .i64) v2), .blk ([.ptr 7 0] ++ r4.1.fX.enc ++ [.n r4.1.fA, .n r4.1.fN])]⟩) (QRr (gt.fin x0 x1 x2)) hr () 11 (by simp) (fun s2 f γ2 hr => ?_) (fun v2 γ2a σ1 m1 hr hc => ?_) (fun _ h => QRr_ret h)
      ·unfold gt.loop2 at hr
       refine tq hΓ [54] [] ?_ (by simp; exact rr)
       refine AWp.seq ?_
       refine AWp.cnd hr (by simp) (fun h22 hr => ?_) (fun h22 hr => ?_)
       ·refine AWp.skip ?_
        refine AWp.seq ?_
        refine AWp.block ?_
        obtain ⟨h23, hr⟩ := Lc hr
        refine tq hΓ [15] [54] ?_ (by simp [h22, h23]; exact rr)
        refine AWp.seq ?_
        refine tq hΓ [64] [] ?_ (by simp; exact rr)
        refine AWp.cnd hr (by simp) (fun h24 hr => ?_) (fun h24 hr => ?_)
        ·refine tq hΓ [6] [64, 15, 51, 52, 53, 10, 9, 7, 2] ?_ (by simp [h24]; exact rr)
         refine AWp.ret ?_
         obtain rfl := La hr
         refine round_ret ?_
         refine ⟨_, rfl, ?_⟩
         refine Le ?_
         simp
        ·refine AWp.skip ?_
         refine tl hΓ [] [64, 15] ?_ (by simp [h24]; exact rr)
         refine tl hΓ [53] [] ?_ (by simp; exact rr)
         obtain rfl := La hr
         exact Lk () 11 (by first | (simp; done) | simp [h13, h14, h15, h16, h17, h18, h19, h20, h21, h22, h23, h24])
       ·refine AWp.exit ?_
        obtain rfl := La hr
        exact Ln () 11 (by first | (simp; done) | simp [h13, h14, h15, h16, h17, h18, h19, h20, h21, h22])
      ·refine AWp.conv hc ?_
       refine tl hΓ [10] [] ?_ (by simp; exact rr)
       obtain rfl := La hr
       exact Lk () 10 (by first | (simp; done) | simp [h13, h14, h15, h16, h17, h18, h19, h20, h21])
    ·refine AWp.exit ?_
     obtain rfl := La hr
     exact Ln () 10 (by first | (simp; done) | simp [h13, h14, h15, h16, h17, h18])
   ·refine AWp.conv hc ?_
    refine tq hΓ [6] [] ?_ (by simp; exact rr)
    obtain rfl := La hr
    exact AWp.ret (Le (by simp))

end Go.Proofs
end
section
namespace Go.Proofs
open Go.Ab
def OrdF (F : List Fw) (last : Int → Int) (N : Int) : Prop := ∀ f ∈ F, (f.fQ.fL.map (·.fN)).Pairwise (· < ·) ∧ ∀ x ∈ f.fQ.fL, last f.fId < x.fN ∧ x.fN ≤ N
def Rises : (Int → Int) → List Sn → Prop
 | _, [] => True
 | last, x :: r => last x.fId < x.fD.fN ∧ Rises (setF last x.fId x.fD.fN) r
def lastOf : (Int → Int) → List Sn → (Int → Int)
 | last, [] => last
 | last, x :: r => lastOf (setF last x.fId x.fD.fN) r

theorem ord_call {X X' : RO} {k N N' : Int} {last : Int → Int} (h : OrdF X.fL last N) (hl : ∀ i, last i ≤ N) (hN : N ≤ N') (h1 : k = 1 → N < N') (hf : ∀ f' ∈ X'.fL, From X k N' f') : OrdF X'.fL last N' := by
 intro f' hf'
 rcases hf f' hf' with e | ⟨f, hm, hid, d, hd⟩
 ·rw [e]; exact ⟨.nil, fun x hx => by cases hx⟩
 ·obtain ⟨o1, o2⟩ := h f hm
  rcases hd with hd | ⟨hk, x, hx, hd⟩
  ·rw [← hd] at o1 o2
   rw [List.map_append] at o1
   exact ⟨(List.pairwise_append.1 o1).2.1, fun y hy => by
    have := o2 y (List.mem_append_right _ hy)
    rw [hid] at this
    exact ⟨this.1, by omega⟩⟩
  ·have h1' := h1 hk
   have hall : ((f.fQ.fL ++ [x]).map (·.fN)).Pairwise (· < ·) := by
    rw [List.map_append, List.pairwise_append]
    refine ⟨o1, by simp, fun a ha b hb => ?_⟩
    obtain ⟨y, hy, rfl⟩ := List.mem_map.1 ha
    simp only [List.map_cons, List.map_nil, List.mem_singleton] at hb
    rw [hb, hx]
    have := o2 y hy
    omega
   have hall2 : ∀ y ∈ f.fQ.fL ++ [x], last f.fId < y.fN ∧ y.fN ≤ N' := fun y hy => by
    rcases List.mem_append.1 hy with q | q
    ·have := o2 y q
     exact ⟨this.1, by omega⟩
    ·rw [List.mem_singleton.1 q, hx]
     have := hl f.fId
     omega
   rw [← hd] at hall hall2
   rw [List.map_append] at hall
   rw [hid] at hall2
   exact ⟨(List.pairwise_append.1 hall).2.1, fun y hy => hall2 y (List.mem_append_right _ hy)⟩

theorem ord_pop {F : List Fw} {last : Int → Int} {N : Int} (h : OrdF F last N) (hnd : (F.map (·.fId)).Nodup) {k : Nat} (hk : k < F.length) {r : List It} (er : F[k].fQ.fL = hd F[k] :: r) :
  last F[k].fId < (hd F[k]).fN ∧ (hd F[k]).fN ≤ N ∧ OrdF (F.set k (withQ F[k] (rpop F[k].fQ))) (setF last F[k].fId (hd F[k]).fN) N := by
 obtain ⟨o1, o2⟩ := h _ (List.getElem_mem hk)
 rw [er] at o1 o2
 have oh := o2 _ (.head _)
 refine ⟨oh.1, oh.2, fun f hf => ?_⟩
 rw [List.map_cons, List.pairwise_cons] at o1
 obtain ⟨j, hj, rfl⟩ := List.mem_iff_getElem.1 hf
 simp only [List.length_set] at hj
 rw [List.getElem_set]
 by_cases hjk : k = j
 ·rw [if_pos hjk]
  simp only [withQ, rpop, er, List.drop_succ_cons, List.drop_zero]
  refine ⟨o1.2, fun x hx => ?_⟩
  have := o1.1 x.fN (List.mem_map.2 ⟨x, hx, rfl⟩)
  have := o2 x (.tail _ hx)
  simp only [setF, if_true]
  omega
 ·rw [if_neg hjk]
  obtain ⟨p1, p2⟩ := h _ (List.getElem_mem hj)
  refine ⟨p1, fun x hx => ?_⟩
  have hne : F[j].fId ≠ F[k].fId := by
   have hpw := List.pairwise_iff_getElem.1 hnd
   rcases Nat.lt_or_ge j k with q | q
   ·have := hpw j k (by simpa using hj) (by simpa using hk) q
    simpa using this
   ·have := hpw k j (by simpa using hk) (by simpa using hj) (by omega)
    intro e
    exact this (by simpa using e.symm)
  simp only [setF, if_neg hne]
  exact p2 x hx

theorem ord_tr {g : Int} {F F' : List Fw} {so so' cr cr' : Int} {out : List Sn} (h : Tr g F so cr out F' so' cr') : ∀ {last : Int → Int} {N : Int}, OrdF F last N → (∀ i, last i ≤ N) → (F.map (·.fId)).Nodup →
  Rises last out ∧ OrdF F' (lastOf last out) N ∧ ∀ i, lastOf last out i ≤ N := by
 induction h with
 | nil _ => intro last N ho hl _; exact ⟨trivial, ho, hl⟩
 | snd k hk hw _ _ _ ih =>
   intro last N ho hl hnd
   obtain ⟨r, er⟩ := hd_of hw
   obtain ⟨p1, p2, p3⟩ := ord_pop ho hnd hk er
   obtain ⟨q1, q2⟩ := ih p3 (fun i => by
    simp only [setF]
    split
    ·exact p2
    ·exact hl i) (by rw [set_ids hk]; exact hnd)
   exact ⟨⟨p1, q1⟩, q2⟩
 | pic k hk hw _ _ _ ih =>
   intro last N ho hl hnd
   obtain ⟨r, er⟩ := hd_of hw
   obtain ⟨p1, p2, p3⟩ := ord_pop ho hnd hk er
   obtain ⟨q1, q2⟩ := ih p3 (fun i => by
    simp only [setF]
    split
    ·exact p2
    ·exact hl i) (by rw [set_ids hk]; exact hnd)
   exact ⟨⟨p1, q1⟩, q2⟩
end Go.Proofs
end
section
namespace Go.Proofs
open Go.Ab
def Says (m : List (Int × Int)) (last : Int → Int) : Prop := ∀ i, getM eqI i 0 m = last i
theorem says_set {m : List (Int × Int)} {last : Int → Int} (h : Says m last) (i n : Int) : Says (setM eqI i n m) (setF last i n) := fun j => by
 unfold setF
 by_cases hj : j = i
 ·rw [if_pos hj, get_set, if_pos hj]
 ·rw [if_neg hj, get_set, if_neg hj, h j]

theorem order_loop2 {S : Tu × List Sn × Bool} {out : List Sn} (hS : S.2.1 = out) (hl : out.length ≤ 1000000) : ∀ (t p : List Sn) (m : List (Int × Int)) (last : Int → Int), out = p ++ t → Says m last → Rises last t →
  ∃ m', loopF (gt.loop2 S) ((p.length : Int), m) = some (.go m') ∧ Says m' (lastOf last t)
 | [], p, m, last, h, hs, _ => by
   refine ⟨m, Lq ?_, hs⟩
   unfold gt.loop2
   simp only
   rw [hS, ltI_f (by unfold lenL; rw [h]; simp)]
   rfl
 | x :: t, p, m, last, h, hs, hr => by
   obtain ⟨r1, r2⟩ := hr
   have hL : out.length = p.length + (t.length + 1) := by rw [h]; simp
   obtain ⟨m', e, q⟩ := order_loop2 hS hl t (p ++ [x]) (setM eqI x.fId x.fD.fN m) (setF last x.fId x.fD.fN) (by rw [h]; simp) (says_set hs _ _) r2
   refine ⟨m', ?_, q⟩
   rw [← e]
   refine loop_go ?_
   have hk : p.length < out.length := by omega
   have hx : out[p.length] = x := by simp [h]
   unfold gt.loop2
   simp only
   rw [hS, ltI_t (by unfold lenL; omega), cond_true, Lf (inb_n hk), nthI_n hk, hx, hs, leI_f (by omega), cond_false, addI_n (by omega) (by omega)]
   simp

def tupO (i : Int) (P : Th) (X : RO) (t N : Int) (m : List (Int × Int)) : Int × (List (Int × Int)) × (List (Int × Int)) × Int × Int × Bool × (List (Int × Tk)) × Tt × Int × Int × Tc × Int × Int × (List (Int × Int)) :=
 (i, P.fa.fk, P.fa.fp, P.fa.fb, P.fa.fAt, P.fa.fg, P.fh, P.fe, P.fc, P.ff, X, t, N, m)

theorem antiphonOrder_plain (x0 x1 : Int) (x2 : List AcT) (w : ∀ x ∈ x2, (Lit.int .i64 x.fId).wf = true) : gt x0 x1 x2 = some true := by
 obtain ⟨c, ec, hc, _⟩ := config_ok x0 x1
 obtain ⟨P0, eb, r0⟩ := begin_ok hc
 have key : ∀ (j k : Nat) (P : Th) (X : RO) (t N : Int) (m : List (Int × Int)) (last : Int → Int), k + j = 100 → Rel P X t k → 0 ≤ N → N ≤ k → OrdF X.fL last N → (∀ i, last i ≤ N) → Says m last →
   ∃ v, loopF (gt.loop1 x2) (tupO (k : Int) P X t N m) = some (.go v) := by
  intro j
  induction j with
  | zero =>
    intro k P X t N m last hk _ _ _ _ _ _
    refine ⟨(tupO (k : Int) P X t N m).2, Lq ?_⟩
    unfold gt.loop1 tupO
    simp only
    rw [pickB_and, ltI_f (a := (k : Int)) (b := 100) (by omega), Bool.and_false, cond_false]
  | succ j ih =>
    intro k P X t N m last hk hr hN0 hNk ho hla hs
    by_cases hl : k < x2.length
    ·obtain ⟨P', X', t', N', out, e1, e2, d⟩ := does_ok (N := N) hr (by omega) (wf_id (w _ (List.getElem_mem hl)))
     have hN' : N' = if x2[k].fz = 1 then N + 1 else N := by
      rw [d.num]
      split
      ·exact addI_n (by omega) (by omega)
      ·rfl
     have hN1 : 0 ≤ N' ∧ N ≤ N' ∧ N' ≤ (k + 1 : Nat) := by
      rw [hN']
      split <;> omega
     have step : ∃ last', Rises last out ∧ OrdF X'.fL last' N' ∧ (∀ i, last' i ≤ N') ∧ last' = lastOf last out ∧ out.length ≤ 1000000 := by
      by_cases h3 : x2[k].fz = 3
      ·have tr := d.run h3
       obtain ⟨s1, s2, s3⟩ := ord_tr tr ho hla (hr.flows.rise.imp fun h => by omega)
       have hol := out_len tr
       have hca := hr.calls
       have hso := hr.sounds
       have hNN : N' = N := by rw [hN', if_neg (by omega)]
       rw [hNN]
       exact ⟨_, s1, s2, s3, rfl, by omega⟩
      ·obtain ⟨rfl, _⟩ := d.off h3
       refine ⟨last, trivial, ord_call ho hla hN1.2.1 (fun h1 => by rw [hN', if_pos h1]; omega) (d.flows h3), fun i => Int.le_trans (hla i) hN1.2.1, rfl, by simp⟩
     obtain ⟨last', g1, g2, g3, g4, g5⟩ := step
     obtain ⟨m', q1, q2⟩ := order_loop2 (S := (⟨P', X', t', N'⟩, out, true)) rfl g5 out [] m last rfl hs g1
     rw [← g4] at q2
     obtain ⟨v, hv⟩ := ih (k + 1) P' X' t' N' m' last' (by omega) e2 hN1.1 hN1.2.2 g2 g3 q2
     refine ⟨v, ?_⟩
     rw [← hv]
     refine loop_go ?_
     unfold gt.loop1 tupO
     simp only
     rw [ltI_t (by unfold lenL; omega), ltI_t (by omega), show pickB true true false = true from rfl, cond_true, Lf (inb_n hl), nthI_n hl,
      show gO ⟨⟨P.fe, P.fh, ⟨P.fa.fb, P.fa.fk, P.fa.fp, P.fa.fAt, P.fa.fg⟩, P.fc, P.ff⟩, X, t, N⟩ x2[k] = _ from e1]
     simp only [Ld]
     rw [show notB true = false from rfl, cond_false, show loopF (gt.loop2 (⟨P', X', t', N'⟩, out, true)) (0, m) = _ from q1]
     simp only [Ld, flC_go]
     rw [succ_n _ (by omega)]
    ·refine ⟨(tupO (k : Int) P X t N m).2, Lq ?_⟩
     unfold gt.loop1 tupO
     simp only
     rw [ltI_f (b := lenL x2) (by unfold lenL; omega), show ∀ b, pickB false b false = false from fun b => rfl, cond_false]
 obtain ⟨v, hv⟩ := key 100 0 P0 (x0F c) 0 0 [] (fun _ => 0) rfl r0 (by omega) (by omega) (fun f hf => by cases hf) (fun _ => by omega) (fun _ => rfl)
 unfold gt
 rw [live_ok]
 simp only [Ld]
 rw [show notB true = false from rfl, cond_false, ec]
 simp only [Ld]
 rw [eb]
 simp only [Ld]
 rw [show notB true = false from rfl, cond_false, show loopF (gt.loop1 x2) (0, P0.fa.fk, P0.fa.fp, P0.fa.fb, P0.fa.fAt, P0.fa.fg, P0.fh, P0.fe, P0.fc, P0.ff, x0F c, 0, 0, []) = _ from hv]
 rfl
end Go.Proofs
end
section
namespace Go.Ab
def ShFs (P : Program) : List TypeId → List AV → Prop
 | [], q => q = []
 | t :: ts, q => ∃ r q', q = r ++ q' ∧ ShE P t r ∧ ShFs P ts q'
theorem shFs_of {P : Program} : ∀ {ts : List TypeId} {parts : List (List AV)}, parts.length = ts.length → (∀ (j : Nat) (t : TypeId), ts[j]? = some t → ∃ r, parts[j]? = some r ∧ ShE P t r) → ShFs P ts parts.flatten
 | [], [], _, _ => rfl
 | [], _ :: _, h, _ => by simp at h
 | _ :: _, [], h, _ => by simp at h
 | t :: ts, p :: parts, h, hp => by
   obtain ⟨r, h1, h2⟩ := hp 0 t rfl
   cases h1
   exact ⟨p, parts.flatten, by simp, h2, shFs_of (by simpa using h) fun j t' ht => hp (j + 1) t' ht⟩
theorem sh_fields {P : Program} {t : TypeId} {l : List (Nat × TypeId)} {size bytes : Nat} {z q : List AV} {eq : Bool} (ht : tyOf P t = some ⟨.struct l, size, bytes, z, eq⟩) (h : ShE P t q) : ShFs P (l.map (·.2)) q := by
 unfold tyOf at ht
 split at ht
 ·rename_i i d hi hd
  split at ht
  ·split at ht
   ·simp only [Option.some.injEq, TyI.mk.injEq] at ht
    obtain ⟨hk, _⟩ := ht
    cases d with
    | struct fs =>
      simp only [kindOf, TyK.struct.injEq] at hk
      obtain ⟨parts, h1, rfl, h3⟩ := sh_struct hd h
      refine shFs_of (by rw [h1, ← hk]; simp) fun j t' hj => ?_
      rw [← hk] at hj
      simp only [List.map_map, List.getElem?_map, Array.getElem?_toList] at hj
      cases hf : fs[j]? with
      | none => rw [hf] at hj; cases hj
      | some f =>
        rw [hf] at hj
        simp only [Option.map_some, Option.some.injEq, Function.comp_apply] at hj
        subst hj
        exact h3 j f hf
    | _ => simp [kindOf] at hk
   ·cases ht
  ·cases ht
 ·cases ht
theorem shV_rows {P : Program} {t e : TypeId} {av : AV} {α : Type} {enc : α → List AV} {wf : α → Prop} (hu : P.underlying t = some (.slice e)) (he : ∀ q, ShE P e q → ∃ x, q = enc x ∧ wf x) (h : ShV P t av) :
  ∃ l : List α, av = .sl (l.map enc) .no ∧ l.length ≤ maxLen ∧ ∀ x ∈ l, wf x := by
 obtain ⟨els, rfl, hq, hlen⟩ := shV_slice hu h
 have : ∀ els : List (List AV), (∀ q ∈ els, ShE P e q) → ∃ l : List α, els = l.map enc ∧ ∀ x ∈ l, wf x := by
  intro els
  induction els with
  | nil => intro _; exact ⟨[], rfl, fun _ h => by cases h⟩
  | cons q r ih =>
    intro hq
    obtain ⟨n, rfl, hw⟩ := he q (hq q (by simp))
    obtain ⟨l, rfl, hl⟩ := ih fun q' h' => hq q' (by simp [h'])
    exact ⟨n :: l, rfl, fun x hx => by
     rcases List.mem_cons.1 hx with rfl | hx
     ·exact hw
     ·exact hl x hx⟩
 obtain ⟨l, rfl, hl⟩ := this els hq
 exact ⟨l, rfl, by simpa using hlen, hl⟩
end Go.Ab
end
section
namespace Go.Proofs
open Go.Ab

theorem Tq.sh {q : List AV} (h : ShE Tryz.prog 43 q) : ∃ x : Tq, q = x.enc ∧ (Lit.int .i64 x.fId).wf = true := by
 have k := sh_fields Tryz.ty43 h
 clear h
 obtain ⟨_, _, rfl, h0, k⟩ := k
 obtain ⟨x0, rfl, _⟩ := sh_int (k := .i64) (by kernel_rfl) h0
 obtain ⟨_, _, rfl, h1, k⟩ := k
 obtain ⟨x1, rfl, w1⟩ := sh_int (k := .i64) (by kernel_rfl) h1
 obtain ⟨_, _, rfl, h2, k⟩ := k
 obtain ⟨x2, rfl, _⟩ := sh_int (k := .i64) (by kernel_rfl) h2
 obtain ⟨_, _, rfl, h3, k⟩ := k
 obtain ⟨x3, rfl⟩ := sh_bool (by kernel_rfl) h3
 obtain ⟨_, _, rfl, h4, k⟩ := k
 obtain ⟨x4, rfl⟩ := sh_bool (by kernel_rfl) h4
 obtain rfl := k
 exact ⟨Tq.mk x0 x1 x2 x3 x4, by simp, w1⟩

set_option maxRecDepth 100000 in
theorem gTopAntiphonOrder_call : ∀ xs, ShAll Tryz.prog Tryz.f3.params.toList xs → ∃ o : Prop, o ∧ CallOk Tryz.prog 3 xs [] { av := .lit (.bool true), obl := o } := by
 intro xs h
 rw [show Tryz.f3.params.toList = [3, 3, 22] by kernel_rfl] at h
 obtain ⟨_, _, rfl, h0, h⟩ := shAll_cons h
 obtain ⟨_, _, rfl, h1, h⟩ := shAll_cons h
 obtain ⟨_, _, rfl, h2, h⟩ := shAll_cons h
 obtain rfl := shAll_nil h
 obtain ⟨x0, rfl, w0⟩ := shV_int (k := .i64) (by kernel_rfl) h0
 obtain ⟨x1, rfl, w1⟩ := shV_int (k := .i64) (by kernel_rfl) h1
 obtain ⟨x2, rfl, w2, v2⟩ := shV_rows (e := 43) (wf := fun x : Tq => (Lit.int .i64 x.fId).wf = true) (by kernel_rfl) (fun q h => Tq.sh h) h2
 exact ⟨True, trivial, gt.can x0 x1 x2 true (antiphonOrder_plain x0 x1 x2 v2)⟩
end Go.Proofs
end
