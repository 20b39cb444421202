/- What these functions compute, as plain functions. No condition. -/
import Derived.Test.YtpjplfnapgpfmaaGreatTs
import Derived.Test.YtpjplfnapgpfmaaGreatM07
import Derived.Test.YtpjplfnapgpfmaaGreatM02
import Derived.Test.YtpjplfnapgpfmaaGreatM05
import Derived.Test.YtpjplfnapgpfmaaGreatM11
import Derived.Lib.UnsafeStr
section
namespace Go.Proofs
open Go.Ab
noncomputable def gV (x0 : Tt) : Option Int :=
 bif (pickB (pickB (pickB (pickB (pickB (ltI x0.fd 1) true (ltI 1024 x0.fd)) true (ltI x0.fm 1)) true (ltI 16777216 x0.fm)) true (ltI x0.fq 1)) true (ltI 1099511627776 x0.fq)) then (
  some 5
 ) else (
   bif (pickB (pickB (pickB (ltI x0.fb 1) true (ltI 16777216 x0.fb)) true (ltI x0.fo 1)) true (ltI 1024 x0.fo)) then (
    some 5
   ) else (
     some 0
   )
 )

noncomputable def gaK (x0 : Tt) : Option (Option Th × Int) :=
 ((gV x0)).bind fun r1 =>
 bif (neI r1 0) then (
  some (none, r1)
 ) else (
   ((gaV x0.fb)).bind fun r2 =>
   optC r2.1 (
    bif (neI r2.2 0) then (
     some (none, r2.2)
    ) else (
      none
    )
   ) fun o1 => (
     bif (neI r2.2 0) then (
      some (none, r2.2)
     ) else (
       some ((some (Th.mk x0 [] o1 0 0)), 0)
     )
   )
 )

noncomputable def gag.loop1 (x0 : Int) (x1 : List Ta) (s1 : Int × List Tb) : Option (Fl (Int × List Tb) (Fl (List Tb) (List Tb))) :=
 bif (ltI s1.1 (lenL x1)) then (
  need (InB s1.1 (lenL x1)) <|
  need (AppB (lenL s1.2) 1 40) <|
  some (.go ((addI .i64 s1.1 1), (appL s1.2 [(Tb.mk x0 (nthI x1 s1.1))])))
 ) else (
   some (.out (.go s1.2))
 )

noncomputable def gag (x0 : Int) (x1 : List Ta) : Option (List Tb) :=
 ((loopF (gag.loop1 x0 x1) (0, [])).bind fun f => flC f fun (v1 : List Tb) =>
   some v1
 )

noncomputable def gT (x0 : Th) (x1 : Int) (x2 : Bool) (x3 : Int) : Option (Int × Th) :=
 optC (findM eqI x1 x0.fh) (
  ((
   bif x2 then (
    ((gao x0.fa x1 x3)).bind fun r1 =>
    bif (neI r1.1 0) then (
     some (.out (r1.1, (Th.mk x0.fe x0.fh r1.2 x0.fc x0.ff)))
    ) else (
      some (.go (r1.2.fb, r1.2.fAt, r1.2.fg, r1.2.fk, r1.2.fp, true))
    )
   ) else (
     some (.go (x0.fa.fb, x0.fa.fAt, x0.fa.fg, x0.fa.fk, x0.fa.fp, false))
   )
   : Option (Fl (Int × Int × Bool × (List (Int × Int)) × (List (Int × Int)) × Bool) (Int × Th))).bind fun f => flC f fun (v1 : Int × Int × Bool × (List (Int × Int)) × (List (Int × Int)) × Bool) =>
   ((gaO x0.fe.fd x0.fe.fm)).bind fun r2 =>
   optC r2.1 (
    bif (neI r2.2 0) then (
     some (r2.2, (Th.mk x0.fe x0.fh (Tp.mk v1.1 v1.2.2.2.1 v1.2.2.2.2.1 v1.2.1 v1.2.2.1) x0.fc x0.ff))
    ) else (
      none
    )
   ) fun o1 => (
     bif (neI r2.2 0) then (
      some (r2.2, (Th.mk x0.fe x0.fh (Tp.mk v1.1 v1.2.2.2.1 v1.2.2.2.2.1 v1.2.1 v1.2.2.1) x0.fc x0.ff))
     ) else (
       some (0, (Th.mk x0.fe (setM eqI x1 (Tk.mk o1 v1.2.2.2.2.2) x0.fh) (Tp.mk v1.1 v1.2.2.2.1 v1.2.2.2.2.1 v1.2.1 v1.2.2.1) x0.fc x0.ff))
     )
   )
  )
 ) fun _z1 => (
   some (10, x0)
 )

noncomputable def gG (x0 : Th) (x1 : Int) : Option (List Tb × Int × Th) :=
 optC (findM eqI x1 x0.fh) (
  some ([], 12, x0)
 ) fun z1 => (
   ((
    bif z1.fu then (
     ((gF x0.fa x1)).bind fun r1 =>
     some (.go (r1.2.fb, r1.2.fAt, r1.2.fg, r1.2.fk, r1.2.fp, true))
    ) else (
      some (.go (x0.fa.fb, x0.fa.fAt, x0.fa.fg, x0.fa.fk, x0.fa.fp, false))
    )
    : Option (Fl (Int × Int × Bool × (List (Int × Int)) × (List (Int × Int)) × Bool) (List Tb × Int × Th))).bind fun f => flC f fun (v1 : Int × Int × Bool × (List (Int × Int)) × (List (Int × Int)) × Bool) =>
    ((gW z1.fB)).bind fun r2 =>
    ((gag x1 r2.1)).bind fun r3 =>
    some (r3, 0, (Th.mk x0.fe (delM eqI x1 x0.fh) (Tp.mk v1.1 v1.2.2.2.1 v1.2.2.2.2.1 v1.2.1 v1.2.2.1) x0.fc x0.ff))
   )
 )

noncomputable def gad (x0 : Th) (x1 : Int) : Option (List Tb × Th) :=
 optC (findM eqI x1 x0.fh) (
  some ([], x0)
 ) fun z1 => (
   ((gW z1.fB)).bind fun r1 =>
   ((gag x1 r1.1)).bind fun r2 =>
   some (r2, (Th.mk x0.fe (setM eqI x1 (Tk.mk r1.2 z1.fu) x0.fh) x0.fa x0.fc x0.ff))
 )

noncomputable def gap (x0 : Th) (x1 : Int) (x2 : Ta) : Option (List Tb × Bool × Th) :=
 optC (findM eqI x1 x0.fh) (
  some ([], false, x0)
 ) fun z1 => (
   bif (ltI x0.fe.fb x2.fj) then (
    some ([], false, x0)
   ) else (
     ((gu z1.fB (Ta.mk x2.fN x2.fj x2.fw (pickB x2.fy true (notB z1.fu))))).bind fun r1 =>
     ((gag x1 r1.1)).bind fun r2 =>
     some (r2, r1.2.1, (Th.mk x0.fe (setM eqI x1 (Tk.mk r1.2.2 z1.fu) x0.fh) x0.fa x0.fc x0.ff))
   )
 )

noncomputable def gak (x0 : Th) (x1 : Int) : Option Th :=
 some (Th.mk x0.fe x0.fh x0.fa (minI (addI .i64 x0.fc (minI (maxI x1 0) 1099511627776)) 1099511627776) x0.ff)

noncomputable def gaa (x0 : Th) (x1 : Int) : Option (Bool × Th) :=
 bif (pickB (ltI x1 0) true (ltI x0.fc x1)) then (
  some (false, x0)
 ) else (
   some (true, (Th.mk x0.fe x0.fh x0.fa (subI .i64 x0.fc x1) x0.ff))
 )
end Go.Proofs
end
section
namespace Go.Proofs
open Go.Ab
noncomputable def gaw (x0 : Int) (x1 : Int) : Option Tt :=
 need (NonN 3) <|
 need (NonN 6) <|
 need (NonN 8) <|
 some (Tt.mk (addI .i64 1 (bitsOp .and .i64 x0 7)) (addI .i64 16 (bitsOp .and .i64 x1 63)) (addI .i64 1 (bitsOp .and .i64 (shrI .i64 x0 3) 31)) (addI .i64 1 (bitsOp .and .i64 (shrI .i64 x1 6) 31)) (addI .i64 1 (bitsOp .and .i64 (shrI .i64 x0 8) 3)))

noncomputable def gQ.loop1 (x0 : List Tb) (x1 : List Tb) (s1 : Int) : Option (Fl Int (Fl Unit Int)) :=
 bif (ltI s1 (lenL x1)) then (
  need (InB s1 (lenL x0)) <|
  need (InB s1 (lenL x1)) <|
  need (Under (neI ((nthI x0 s1).fId) ((nthI x1 s1).fId)) false (InB s1 (lenL x0))) <|
  need (Under (neI ((nthI x0 s1).fId) ((nthI x1 s1).fId)) false (InB s1 (lenL x1))) <|
  bif (pickB (neI ((nthI x0 s1).fId) ((nthI x1 s1).fId)) true (notB (pickB (eqI ((nthI x0 s1).fD.fN) ((nthI x1 s1).fD.fN)) (pickB (eqI ((nthI x0 s1).fD.fj) ((nthI x1 s1).fD.fj)) (pickB (eqI ((nthI x0 s1).fD.fw) ((nthI x1 s1).fD.fw)) (eqB ((nthI x0 s1).fD.fy) ((nthI x1 s1).fD.fy)) false) false) false))) then (
   some (.out (.out (-1)))
  ) else (
    some (.go (addI .i64 s1 1))
  )
 ) else (
   some (.out (.go ()))
 )

noncomputable def gQ (x0 : List Tb) (x1 : List Tb) : Option Int :=
 bif (neI (lenL x0) (lenL x1)) then (
  some (-1)
 ) else (
   ((loopF (gQ.loop1 x0 x1) 0).bind fun f => flC f fun (_v1 : Unit) =>
     some 0
   )
 )

noncomputable def gaM (x0 : Tt) : Option (Tu × Bool) :=
 ((gaK x0)).bind fun r1 =>
 optC r1.1 (
  none
 ) fun o1 => (
   some ((Tu.mk o1 (Tc.mk x0.fd x0.fm x0.fq x0.fb x0.fo [] (Te.mk x0.fb [] 0 false) 0 0) 0 0), (pickB (eqI r1.2 0) true false))
 )
end Go.Proofs
end
section
namespace Go.Proofs
open Go.Ab
noncomputable def gaG (_x0 : Tw) : Option (Int × Int) :=
 some (206, 1)

noncomputable def gaI (x0 : Tw) (x1 : List Int) : Option (List Int) :=
 ((gk x1 [x0.fZ, x0.fTo])).bind fun r1 =>
 some r1

noncomputable def gaT (x0 : List Int) (x1 : RtcpPacket) : Option (List Int) :=
 RtcpPacket.by x1
 (fun y1c0 => (
  ((gaI y1c0 x0)).bind fun r1 =>
  some r1
 ))

noncomputable def gax.loop1 (x0 : List RtcpPacket) (s1 : Int × List Int) : Option (Fl (Int × List Int) (Fl (List Int) ByteArray)) :=
 bif (ltI s1.1 (lenL x0)) then (
  need (InB s1.1 (lenL x0)) <|
  RtcpPacket.by (nthI x0 s1.1)
  (fun y2c0 => (
   ((gaG y2c0)).bind fun r1 =>
   ((gaT [] (RtcpPacket.c0 y2c0))).bind fun r2 =>
   ((gC r2 4)).bind fun r3 =>
   need (AppB (lenL s1.2) 2 1) <|
   ((gR r3)).bind fun r4 =>
   need (NonZ 4) <|
   ((gi (appL s1.2 [(bitsOp .or .u8 128 (bitsOp .and .u8 r1.2 31)), r1.1]) [(cvtI .u16 (quoI .i64 r4 4))])).bind fun r5 =>
   need (TextB r3) <|
   ((gn r5 [(strOfNums r3)])).bind fun r6 =>
   some (.go ((addI .i64 s1.1 1), r6))
  ))
 ) else (
   some (.out (.go s1.2))
 )

noncomputable def gax (x0 : List RtcpPacket) : Option ByteArray :=
 ((loopF (gax.loop1 x0) (0, [])).bind fun f => flC f fun (v1 : List Int) =>
   need (TextB v1) <|
   some (strOfNums v1)
 )
end Go.Proofs
end
section
namespace Go.Proofs
end Go.Proofs
namespace Go.Ab
open Go.Proofs

@[simp] theorem bel_opq (m : Nat) (φ : Opq) : (AObj.opq φ).bel m ↔ True := Iff.rfl
@[simp] theorem wrO_bs (T E : TypeId) (bs : List Int) : (wrO T E bs).bs = bs := rfl
@[simp] def wrTextS (T E : TypeId) : Sp
  | [.ptr i 0], M => match M[i]? with
    | some (.opq φ) => some { av := .lit (.string (strOfNums φ.bs)), M := some (M.set i (.opq wrX)), obl := φ = wrO T E φ.bs ∧ TextB φ.bs }
    | _ => none
  | _, _ => none

theorem bytes_of {bs : List Int} (h : ∀ x ∈ bs, 0 ≤ x ∧ x < 256) : bs.map (Value.int .u8) = Lib.byteCells (bs.map fun n => n.toNat.toUInt8) := by
 simp only [Lib.byteCells, List.map_map]
 refine List.map_congr_left fun x hx => ?_
 obtain ⟨h1, h2⟩ := h x hx
 simp only [Function.comp, Nat.toUInt8, UInt8.toNat_ofNat']
 congr 1
 omega

theorem textW_ok {P : Program} {f : FuncId} {T E : TypeId} (hent : ∀ args w, (callFunc f args).run P w = .ok (.enter f args) w)
  (hS : ∀ (b g cap : Nat) (w : World) (p : Value) (l : List UInt8) (cur : Array Value), w.heap[b]? = some (.cells #[p, .slice (some ⟨g, 0, none⟩) l.length cap] T (0, 0)) → w.heap[g]? = some (.cells cur E (0, 0)) →
   l.length ≤ cap → cap ≤ maxLen → cur.size = cap → cur.toList.take l.length = Lib.byteCells l → l ≠ [] →
   Calls P f #[.pointer (some ⟨b, 0, none⟩)] w fun e w' => e = .returned (.string ⟨l.toArray⟩) ∧ WrKeep b (some g) w w' ∧ w'.heap.size = w.heap.size) : SpecOk P f (wrTextS T E) := by
 intro l M out h
 unfold wrTextS at h
 split at h
 ·rename_i i
  split at h
  ·rename_i φ hMi
   cases h
   intro g vs hM sm hr ho
   subst hM
   obtain ⟨hφ, hne, hbb⟩ := ho
   cases hr with | cons hv hr => cases hr with | nil =>
   cases hv with
   | ptr _ _ hi =>
   refine ⟨hent _ _, ?_⟩
   have hq := sm.opq i φ hMi
   rw [hφ] at hq
   obtain ⟨p, v, h1, h2, h3⟩ := hq
   rcases h3 with ⟨_, h, _⟩ | ⟨cap, cur, rfl, h4, h5, h6, h7, h8, h9⟩
   ·exact absurd h hne
   generalize hl : φ.bs.map (fun n => n.toNat.toUInt8) = ls
   have hll : ls.length = φ.bs.length := by rw [← hl]; simp
   have hb : φ.bs.map (Value.int .u8) = Lib.byteCells ls := by rw [← hl]; exact bytes_of hbb
   have hstr : (⟨ls.toArray⟩ : ByteArray) = strOfNums φ.bs := by
    rw [← hl]; rfl
   simp only [wrO] at h1 h5 h6 h9
   refine (hS (g.β i) (g.ρ i).b cap g.w p ls cur (by rw [hll]; exact h1) h5 (by omega) h7 h8 (by rw [hll, ← hb]; exact h9) (fun e => hne (List.eq_nil_of_length_eq_zero (by rw [← hll, e]; rfl)))).mono ?_
   rintro e w' ⟨rfl, k1, k2⟩
   obtain ⟨kk, ss⟩ := opq_turn sm hMi (φ' := wrX) (w' := w') (rb := (g.ρ i).b) k1.size ⟨k1.os, k1.output⟩ (fun k q1 q2 q3 => k1.block k q1 q2 (by simpa using q3)) (.inl rfl) trivial
   refine ⟨_, rfl, g.β, _, ss, ?_, kk⟩
   rw [hstr]
   exact .lit _
  ·cases h
 ·cases h
end Go.Ab
end
section
namespace Go.Ab
open Go.Proofs
@[simp] def wrPutS (T E : TypeId) : Sp
  | [.ptr i 0, .sl els _], M => match M[i]? with
    | some (.opq φ) => some { av := .ptr i 0, M := some (M.set i (.opq (wrO T E (appL φ.bs (els.map numOf))))), obl := φ = wrO T E φ.bs ∧ (∀ e ∈ els, ∃ n, e = [.lit (.int .u8 n)]) ∧ els ≠ [] ∧ AppB (lenL φ.bs) (lenL els) 1 }
    | _ => none
  | _, _ => none

theorem addr_plus (b off j : Nat) : (⟨b, off, none⟩ : Addr).add j = ⟨b, off + j, none⟩ := by
 unfold Addr.add
 split <;> simp_all

theorem sl_inv {g : G} {els : List (List AV)} {tok : Tok} {v : Value} (h : R g (.sl els tok) v) (hne : els ≠ []) (hu : ∀ e ∈ els, ∃ n, e = [.lit (.int .u8 n)]) :
  ∃ b off cap, v = .slice (some ⟨b, off, none⟩) els.length cap ∧ ∀ j, j < els.length → g.w.cell? ⟨b, off + j, none⟩ = some (.int .u8 ((els.map numOf).getD j 0)) ∧ ¬ g.reg ⟨b, off + j, none⟩ := by
 cases h with
 | nil => exact absurd rfl hne
 | sl _ _ b off s cap xs hs h1 h2 h3 h4 ht hc =>
   refine ⟨b, off, cap, rfl, fun j hj => ?_⟩
   obtain ⟨n, hn⟩ := hu _ (List.getElem_mem hj)
   have hs1 : s = 1 := by rw [← hs j hj, hn]; rfl
   subst hs1
   have q1 := h1 j 0 hj (by omega)
   have q2 := h2 j 0 hj (by omega)
   have q3 := h3 j 0 hj (by rw [hn]; simp)
   simp only [Nat.mul_one, Nat.add_zero] at q1 q2
   refine ⟨?_, q2⟩
   rw [q1]
   have : R g (.lit (.int .u8 n)) (xs j 0) := by
    have e : els[j][0]'(by rw [hn]; simp) = .lit (.int .u8 n) := by simp [hn]
    rw [e] at q3; exact q3
   rw [this.lit_inv]
   have hg : (els.map numOf).getD j 0 = n := by simp [List.getD, hj, hn]
   rw [hg]

theorem putW_ok {P : Program} {f : FuncId} {T E : TypeId} (hent : ∀ args w, (callFunc f args).run P w = .ok (.enter f args) w)
  (hU : ∀ (b : Nat) (w : World) (p v : Value) (n : Nat) (xs : List Value), w.heap[b]? = some (.cells #[p, v] T (0, 0)) → (p = .pointer none ∨ p = .pointer (some ⟨b, 0, none⟩)) → w.ownsRow 0 E 1 v n xs → v.ownBlock ≠ some b →
   ∀ (ad : Addr) (m c : Nat) (news : List Value), news.length = m → 0 < m → (∀ j u, news[j]? = some u → w.cell? (ad.add j) = some u) → (∀ u ∈ news, u.oneCell' = true) → (∀ j, (ad.add j).block ≠ b) → n + m ≤ 140737488355328 →
   Calls P f #[.pointer (some ⟨b, 0, none⟩), .slice (some ad) m c] w fun e w' => e = .returned (.pointer (some ⟨b, 0, none⟩)) ∧
   ∃ v', w'.heap[b]? = some (.cells #[.pointer (some ⟨b, 0, none⟩), v'] T (0, 0)) ∧ w'.ownsRow 0 E 1 v' (n + m) (xs ++ news) ∧ v'.ownBlock ≠ some b ∧ WrKeep b v.ownBlock w w' ∧
     (v'.ownBlock = v.ownBlock ∨ v'.ownBlock = some w.heap.size) ∧ ∀ g, v'.ownBlock = some g → g < w'.heap.size) : SpecOk P f (wrPutS T E) := by
 intro l M out h
 unfold wrPutS at h
 split at h
 ·rename_i i els tok
  split at h
  ·rename_i φ hMi
   cases h
   intro g vs hM sm hr ho
   subst hM
   obtain ⟨hφ, hu, hne, happ⟩ := ho
   cases hr with | cons hv hr => cases hr with | cons hs hr => cases hr with | nil =>
   cases hv with
   | ptr _ _ hi =>
   obtain ⟨ab, off, cap, rfl, hcell⟩ := sl_inv hs hne hu
   refine ⟨hent _ _, ?_⟩
   have hq := sm.opq i φ hMi
   rw [hφ] at hq
   obtain ⟨p, v, h1, h2, h3, h4, h5⟩ := WrB.at hq
   generalize hls : els.map numOf = ls at *
   have hll : ls.length = els.length := by rw [← hls]; simp
   have hpos : 0 < ls.length := by
    rw [hll]
    exact List.length_pos_iff.2 hne
   have hadd : ∀ j, (⟨ab, off, none⟩ : Addr).add j = ⟨ab, off + j, none⟩ := fun j => addr_plus ab off j
   have happ' : φ.bs.length + els.length ≤ 140737488355328 := by
    have := happ.1
    simp only [lenL, Int.mul_one, Int.natCast_one] at this
    omega
   have hab : ab ≠ g.β i := by
    intro e
    have := (hcell 0 (by omega)).2
    exact this (Li hMi (.inl e))
   refine (hU (g.β i) g.w p v φ.bs.length (φ.bs.map (Value.int .u8)) h1 h2 h3 h4 ⟨ab, off, none⟩ els.length cap (ls.map (Value.int .u8)) (by rw [List.length_map]; exact hll) (by rw [← hll]; exact hpos) (fun j u hj => ?_) (fun u hu => ?_) (fun j => by rw [hadd]; exact hab) happ').mono ?_
   ·simp only [List.getElem?_map, Option.map_eq_some_iff] at hj
    obtain ⟨x, hx, rfl⟩ := hj
    have hjl : j < ls.length := by
     rcases Nat.lt_or_ge j ls.length with h | h
     ·exact h
     ·rw [List.getElem?_eq_none h] at hx; cases hx
    rw [hadd, (hcell j (by omega)).1]
    simp [List.getD, hx]
   ·obtain ⟨x, _, rfl⟩ := List.mem_map.1 hu
    rfl
   rintro e w' ⟨rfl, v', k1, k2, k3, k4, k5, k6⟩
   have hW : WrB T E (φ.bs ++ ls) (g.β i) (v'.ownBlock.getD (g.β i)) (w'.heap[g.β i]?) (w'.heap[v'.ownBlock.getD (g.β i)]?) := by
    refine WrB.of k1 (.inr rfl) ?_ k3
    simpa [hll] using k2
   have hρ : v.ownBlock = none ∧ (g.ρ i).b = g.β i ∨ v.ownBlock = some (g.ρ i).b := h5
   obtain ⟨kk, ss⟩ := opq_turn sm hMi (φ' := wrO T E (φ.bs ++ ls)) (w' := w') (rb := v'.ownBlock.getD (g.β i)) k4.size ⟨k4.os, k4.output⟩ (fun k q1 q2 q3 => k4.block k q1 q2 (by
     rcases hρ with ⟨h, _⟩ | h <;> rw [h]
     ·simp
     ·simpa using q3))
    (by
     rcases k5 with h | h
     ·rcases hρ with ⟨h', _⟩ | h'
      ·right; left; rw [h, h']; rfl
      ·left; rw [h, h']; rfl
     ·right; right; rw [h]; exact ⟨Nat.le_refl _, k6 _ h⟩) hW
   refine ⟨_, rfl, g.β, _, ss, ?_, kk⟩
   exact .ptr (g := ⟨g.M.set i (.opq (wrO T E (φ.bs ++ ls))), g.β, _, w', g.X⟩) i 0 (by simpa using hi)
  ·cases h
 ·cases h

end Go.Ab

namespace Go.Proofs
open Go.RowKit Go.Ab

set_option maxHeartbeats 1000000 in
set_option maxRecDepth 100000 in
theorem Tryz.u8W (b : Nat) (w : World) (p v : Value) (n : Nat) (xs : List Value) (hb : w.heap[b]? = some (.cells #[p, v] 119 (0, 0))) (hp : p = .pointer none ∨ p = .pointer (some ⟨b, 0, none⟩))
  (hown : w.ownsRow 0 5 1 v n xs) (hne : v.ownBlock ≠ some b) (ad : Addr) (m c : Nat) (news : List Value) (hl : news.length = m) (hm : 0 < m) (hnews : ∀ j u, news[j]? = some u → w.cell? (ad.add j) = some u)
  (h1 : ∀ u ∈ news, u.oneCell' = true) (hap : ∀ j, (ad.add j).block ≠ b) (hbytes : n + m ≤ 140737488355328) :
  Calls Tryz.prog 41 #[.pointer (some ⟨b, 0, none⟩), .slice (some ad) m c] w fun e w' => e = .returned (.pointer (some ⟨b, 0, none⟩)) ∧
   ∃ v', w'.heap[b]? = some (.cells #[.pointer (some ⟨b, 0, none⟩), v'] 119 (0, 0)) ∧ w'.ownsRow 0 5 1 v' (n + m) (xs ++ news) ∧ v'.ownBlock ≠ some b ∧ WrKeep b v.ownBlock w w' ∧
     (v'.ownBlock = v.ownBlock ∨ v'.ownBlock = some w.heap.size) ∧ ∀ g, v'.ownBlock = some g → g < w'.heap.size := by
 have H1 := hidW (Tryz.writeW b w p v n xs hb hp hown hne ad m c news hl hm hnews h1 hap hbytes)
 clear hb hp hown hne hnews h1 hap hl hm hbytes
 go_enter Tryz.func41, Tryz.ntmps41
 go_wp2_with (go_at_call 78; refine H1.out.mono ?_)
 rintro e w1 ⟨rfl, h⟩
 have H2 := hidW h
 clear h
 go_wp2
 go_ret
 exact ⟨rfl, H2.out⟩

set_option maxHeartbeats 1000000 in
set_option maxRecDepth 100000 in
theorem Tryz.textW (b g cap : Nat) (w : World) (p : Value) (l : List UInt8) (cur : Array Value) (hb : w.heap[b]? = some (.cells #[p, .slice (some ⟨g, 0, none⟩) l.length cap] 119 (0, 0)))
  (hg : w.heap[g]? = some (.cells cur 5 (0, 0))) (hnc : l.length ≤ cap) (hcm : cap ≤ maxLen) (hcs : cur.size = cap) (ht : cur.toList.take l.length = Lib.byteCells l) (h0 : l ≠ []) :
  Calls Tryz.prog 46 #[.pointer (some ⟨b, 0, none⟩)] w fun e w' => e = .returned (.string ⟨l.toArray⟩) ∧ WrKeep b (some g) w w' ∧ w'.heap.size = w.heap.size := by
 have H1 := hidW (Tryz.stringW b g cap w p l cur hb hg hnc hcm hcs ht h0)
 clear hb hg hnc hcm hcs ht h0
 go_enter Tryz.func46, Tryz.ntmps46
 go_wp2_with (go_at_call 81; refine H1.out.mono ?_)
 rintro e w1 ⟨rfl, h⟩
 have H2 := hidW h
 clear h
 go_wp2
 go_ret
 exact ⟨rfl, H2.out⟩

theorem gaR.U8.ok : SpecOk Tryz.prog 41 (wrPutS 119 5) :=
 putW_ok (fun _ _ => by kernel_rfl) Tryz.u8W
theorem gaR.Text.ok : SpecOk Tryz.prog 46 (wrTextS 119 5) :=
 textW_ok (fun _ _ => by kernel_rfl) Tryz.textW
theorem Tryz.wrZero (w : World) : (zeroValue 119).run Tryz.prog w = .ok (.agg #[.pointer none, .slice none 0 0]) w := by kernel_rfl
theorem gaR.alloc {n B : Nat} {Q : Exit → Go.Ab.St → Prop} {σ : Go.Ab.St} {id d1 : Nat} {ops : Array Oper} {o1 : Oper} (ho : ops.toList = [o1]) (ho1 : o1.op = .alloc 119) (hg : o1.guard = none)
  (hd1 : o1.dst = some d1) (hd : dstsOk ops n ops.toList [] = true) (hn : noTags σ.A = true) {dead : List Nat}
  (h : Q .normal ⟨⟨d1, none, .ptr σ.M.length 0⟩ :: without dead (without [d1] σ.A), σ.M ++ [.opq (wrO 119 5 [])]⟩) : AWp Tryz.prog n B (.region id ops false) Q σ :=
 AWp.regAlloc (wrO 119 5 []) ho ho1 hg hd1 hd hn Tryz.wrZero rfl (fun b o => wr_fresh _ _ b o) h
end Go.Proofs
end
