import Derived.Test.YtpamnignoocogaaGreatDoorM16
import Derived.Lib.SlTrimSet
import Derived.Lib.Atoi
import Derived.Shelf.Strings.Prefix
import Derived.Shelf.Slices.Turned
import Derived.Test.YtpamnignoocogaaGreatDoorM18
import Derived.Test.YtpamnignoocogaaGreatDoorTy
import Derived.Test.YtpamnignoocogaaGreatDoorM11
import Derived.Test.YtpamnignoocogaaGreatDoorM04
import Derived.Lib.UnsafeStr
import Derived.Test.YtpamnignoocogaaGreatDoorM09
import Derived.Lib.AtoiErrMem
import Derived.Test.YtpamnignoocogaaGreatDoorM14
import Derived.Test.YtpamnignoocogaaGreatDoorM07
import Derived.Stop.Joined
section
namespace Go.Proofs
open Go.Ab
noncomputable def gaf (x0 : ByteArray) (x1 : Int) : Option ByteArray :=
 bif (ltI x1 (lenS x0)) then (
  need (CutB 0 x1 (lenS x0)) <|
  some (cutS x0 0 x1)
 ) else (
   some x0
 )
end Go.Proofs
end
section
namespace Go.Ab
def trimB (s c : ByteArray) : ByteArray := ⟨(Lib.trimS s.data.toList c.data.toList).toArray⟩
def AsciiB (c : ByteArray) : Prop := c.size < 4294967281 ∧ c.data.toList.all (fun b => decide (b.toNat < 128)) = true
def hasT (l : List ByteArray) (x : ByteArray) : Bool := Lib.containsS l x
end Go.Ab
end
section
namespace Go.Proofs
open Go.Ab
noncomputable def gL (x0 : ByteArray) (x1 : Int) : Option (Int × Bool) :=
 bif (pickB (eqS x0 ⟨#[]⟩) true (ltI 10 (lenS x0))) then (
  some (0, false)
 ) else (
   need (x0.size ≤ 9223372036854775807) <|
   need (AsciiB ⟨#[48, 49, 50, 51, 52, 53, 54, 55, 56, 57]⟩) <|
   need (Under (ltI 1 (lenS x0)) true (Under (neS (trimB x0 ⟨#[48, 49, 50, 51, 52, 53, 54, 55, 56, 57]⟩) ⟨#[]⟩) false (InB 0 (lenS x0)))) <|
   bif (pickB (neS (trimB x0 ⟨#[48, 49, 50, 51, 52, 53, 54, 55, 56, 57]⟩) ⟨#[]⟩) true (pickB (ltI 1 (lenS x0)) (eqI (idxS x0 0) 48) false)) then (
    some (0, false)
   ) else (
     need (x0.size ≤ 18) <|
     need ((Lib.atoi x0.data.toList).isSome = true) <|
     some (((Lib.atoi x0.data.toList).getD 0), (leqI ((Lib.atoi x0.data.toList).getD 0) x1))
   )
 )
noncomputable def gae (x0 : ByteArray) : Option (Bool × Bool) :=
 some ((eqS x0 ⟨#[111, 110]⟩), (pickB (eqS x0 ⟨#[111, 110]⟩) true (eqS x0 ⟨#[111, 102, 102]⟩)))
noncomputable def gh.loop1 (x0 : List ByteArray) (s1 : Int × List Int) : Option (Fl (Int × List Int) (Fl (List Int) (List Int × Bool))) :=
 bif (ltI s1.1 (lenL x0)) then (
  need (InB s1.1 (lenL x0)) <|
  ((gL (nthI x0 s1.1) 4294967295)).bind fun r1 =>
  bif (notB r1.2) then (
   some (.out (.out ([], false)))
  ) else (
    need (AppB (lenL s1.2) 1 8) <|
    some (.go ((addI .i64 s1.1 1), (appL s1.2 [r1.1])))
  )
 ) else (
   some (.out (.go s1.2))
 )
noncomputable def gh (x0 : List ByteArray) : Option (List Int × Bool) :=
 ((loopF (gh.loop1 x0) (0, [])).bind fun f => flC f fun (v1 : List Int) =>
   some (v1, true)
 )
noncomputable def gy.loop1 (r1 : List Int × Bool) (s1 : Int × List Int) : Option (Fl (Int × List Int) (Fl (List Int) (List Int × Bool))) :=
 bif (ltI s1.1 (lenL r1.1)) then (
  need (InB s1.1 (lenL r1.1)) <|
  need (AppB (lenL s1.2) 1 4) <|
  some (.go ((addI .i64 s1.1 1), (appL s1.2 [(cvtI .u32 (nthI r1.1 s1.1))])))
 ) else (
   some (.out (.go s1.2))
 )
noncomputable def gy (x0 : List ByteArray) : Option (List Int × Bool) :=
 ((gh x0)).bind fun r1 =>
 ((loopF (gy.loop1 r1) (0, [])).bind fun f => flC f fun (v1 : List Int) =>
   some (v1, (pickB r1.2 (ltI 0 (lenL v1)) false))
 )
noncomputable def gO (x0 : ByteArray) (x1 : List ByteArray) : Option (Ta × Bool) :=
 need (CutB 0 (subI .i64 (lenL x1) 1) (lenL x1)) <|
 ((gh (cutL x1 0 (subI .i64 (lenL x1) 1)))).bind fun r1 =>
 need (InB (subI .i64 (lenL x1) 1) (lenL x1)) <|
 ((gae (nthI x1 (subI .i64 (lenL x1) 1)))).bind fun r2 =>
 bif (pickB (notB r1.2) true (notB r2.2)) then (
  some ((Ta.mk 0 ⟨#[]⟩ ⟨#[]⟩ 0 0 0 0 false false []), false)
 ) else (
   bif (pickB (eqS x0 ⟨#[109, 117, 116, 101]⟩) (eqI (lenL r1.1) 2) false) then (
    need (InB 0 (lenL r1.1)) <|
    need (InB 1 (lenL r1.1)) <|
    some ((Ta.mk 7 ⟨#[]⟩ ⟨#[]⟩ (nthI r1.1 0) 0 (nthI r1.1 1) 0 r2.1 false []), true)
   ) else (
     bif (pickB (eqS x0 ⟨#[112, 97, 117, 115, 101]⟩) (eqI (lenL r1.1) 3) false) then (
      need (InB 0 (lenL r1.1)) <|
      need (InB 1 (lenL r1.1)) <|
      need (InB 2 (lenL r1.1)) <|
      some ((Ta.mk 8 ⟨#[]⟩ ⟨#[]⟩ (nthI r1.1 0) (nthI r1.1 1) (nthI r1.1 2) 0 r2.1 false []), true)
     ) else (
       some ((Ta.mk 0 ⟨#[]⟩ ⟨#[]⟩ 0 0 0 0 false false []), false)
     )
   )
 )
noncomputable def gi (x0 : ByteArray) (x1 : List ByteArray) : Option (Ta × Bool) :=
 bif (pickB (eqS x0 ⟨#[106, 111, 105, 110]⟩) (eqI (lenL x1) 2) false) then (
  need (InB 0 (lenL x1)) <|
  need (InB 1 (lenL x1)) <|
  some ((Ta.mk 1 (nthI x1 0) (nthI x1 1) 0 0 0 0 false false []), true)
 ) else (
   bif (pickB (pickB (eqS x0 ⟨#[118, 105, 100, 101, 111]⟩) true (eqS x0 ⟨#[97, 117, 100, 105, 111]⟩)) (ltI 2 (lenL x1)) false) then (
    need (CutB 0 2 (lenL x1)) <|
    ((gh (cutL x1 0 2))).bind fun r1 =>
    need (CutB 2 (lenL x1) (lenL x1)) <|
    ((gy (cutL x1 2 (lenL x1)))).bind fun r2 =>
    bif (pickB (notB r1.2) true (notB r2.2)) then (
     some ((Ta.mk 0 ⟨#[]⟩ ⟨#[]⟩ 0 0 0 0 false false []), false)
    ) else (
      need (InB 0 (lenL r1.1)) <|
      need (InB 1 (lenL r1.1)) <|
      some ((Ta.mk 3 ⟨#[]⟩ ⟨#[]⟩ (nthI r1.1 0) 0 (nthI r1.1 1) 0 false (eqS x0 ⟨#[118, 105, 100, 101, 111]⟩) r2.1), true)
    )
   ) else (
     bif (pickB (pickB (eqS x0 ⟨#[109, 117, 116, 101]⟩) true (eqS x0 ⟨#[112, 97, 117, 115, 101]⟩)) (ltI 1 (lenL x1)) false) then (
      ((gO x0 x1)).bind fun r3 =>
      some (r3.1, r3.2)
     ) else (
       ((gh x1)).bind fun r4 =>
       bif (notB r4.2) then (
        some ((Ta.mk 0 ⟨#[]⟩ ⟨#[]⟩ 0 0 0 0 false false []), false)
       ) else (
         bif (pickB (eqS x0 ⟨#[108, 101, 97, 118, 101]⟩) (eqI (lenL r4.1) 1) false) then (
          need (InB 0 (lenL r4.1)) <|
          some ((Ta.mk 2 ⟨#[]⟩ ⟨#[]⟩ (nthI r4.1 0) 0 0 0 false false []), true)
         ) else (
           bif (pickB (eqS x0 ⟨#[117, 110, 112, 117, 98, 108, 105, 115, 104]⟩) (eqI (lenL r4.1) 2) false) then (
            need (InB 0 (lenL r4.1)) <|
            need (InB 1 (lenL r4.1)) <|
            some ((Ta.mk 4 ⟨#[]⟩ ⟨#[]⟩ (nthI r4.1 0) 0 (nthI r4.1 1) 0 false false []), true)
           ) else (
             bif (pickB (eqS x0 ⟨#[115, 117, 98, 115, 99, 114, 105, 98, 101]⟩) (eqI (lenL r4.1) 4) false) then (
              need (InB 0 (lenL r4.1)) <|
              need (InB 1 (lenL r4.1)) <|
              need (InB 2 (lenL r4.1)) <|
              need (InB 3 (lenL r4.1)) <|
              some ((Ta.mk 5 ⟨#[]⟩ ⟨#[]⟩ (nthI r4.1 0) (nthI r4.1 1) (nthI r4.1 2) (nthI r4.1 3) false false []), true)
             ) else (
               bif (pickB (eqS x0 ⟨#[117, 110, 115, 117, 98, 115, 99, 114, 105, 98, 101]⟩) (eqI (lenL r4.1) 3) false) then (
                need (InB 0 (lenL r4.1)) <|
                need (InB 1 (lenL r4.1)) <|
                need (InB 2 (lenL r4.1)) <|
                some ((Ta.mk 6 ⟨#[]⟩ ⟨#[]⟩ (nthI r4.1 0) (nthI r4.1 1) (nthI r4.1 2) 0 false false []), true)
               ) else (
                 some ((Ta.mk 0 ⟨#[]⟩ ⟨#[]⟩ 0 0 0 0 false false []), false)
               )
             )
           )
         )
       )
     )
   )
 )
noncomputable def gg (x0 : ByteArray) (x1 : List ByteArray) : Option (Tc × Bool) :=
 bif (pickB (eqS x0 ⟨#[116, 105, 99, 107]⟩) (eqI (lenL x1) 0) false) then (
  some ((Tc.mk 3 0 ⟨#[]⟩ 0), true)
 ) else (
   bif (pickB (eqS x0 ⟨#[99, 114, 101, 100, 105, 116]⟩) (eqI (lenL x1) 2) false) then (
    ((gh x1)).bind fun r1 =>
    bif (notB r1.2) then (
     some ((Tc.mk 0 0 ⟨#[]⟩ 0), false)
    ) else (
      need (InB 0 (lenL r1.1)) <|
      need (InB 1 (lenL r1.1)) <|
      some ((Tc.mk 4 (nthI r1.1 0) ⟨#[]⟩ (nthI r1.1 1)), true)
    )
   ) else (
     bif (pickB (eqS x0 ⟨#[100, 97, 116, 97]⟩) (eqI (lenL x1) 2) false) then (
      need (InB 0 (lenL x1)) <|
      ((gL (nthI x1 0) 4294967295)).bind fun r2 =>
      need (InB 1 (lenL x1)) <|
      ((gE (nthI x1 1))).bind fun r3 =>
      some ((Tc.mk 1 r2.1 r3.1 0), (pickB r2.2 r3.2 false))
     ) else (
       some ((Tc.mk 0 0 ⟨#[]⟩ 0), false)
     )
   )
 )
noncomputable def gW : Option (List ByteArray) :=
 some [⟨#[97, 117, 100, 105, 111]⟩, ⟨#[99, 114, 101, 100, 105, 116]⟩, ⟨#[100, 97, 116, 97]⟩, ⟨#[106, 111, 105, 110]⟩, ⟨#[108, 101, 97, 118, 101]⟩, ⟨#[109, 117, 116, 101]⟩, ⟨#[112, 97, 117, 115, 101]⟩, ⟨#[115, 117, 98, 115, 99, 114, 105, 98, 101]⟩, ⟨#[116, 105, 99, 107]⟩, ⟨#[117, 110, 112, 117, 98, 108, 105, 115, 104]⟩, ⟨#[117, 110, 115, 117, 98, 115, 99, 114, 105, 98, 101]⟩, ⟨#[118, 105, 100, 101, 111]⟩]
end Go.Proofs
end
section
namespace Go.Proofs
open Go.Ab
@[simp] def gaf.out (_x0 : ByteArray) (_x1 : Int) (r : ByteArray) : Out := { av := .lit (.string r), M := none }
set_option maxHeartbeats 4000000 in
set_option maxRecDepth 100000 in
theorem gaf.can (x0 : ByteArray) (x1 : Int) (r : ByteArray) (hr : gaf x0 x1 = some r) : CallOk Tryz.prog 6 [.lit (.string x0), .lit (.int .i64 x1)] [] (gaf.out x0 x1 r) := by
 unfold gaf at hr;have hΓ := gamL_nil (P := Tryz.prog);refine cw Tryz.func6 rfl (by kernel_rfl) rfl rfl (by simp) fun _ _ _ => ?_;refine tq hΓ [] [] ?_;refine AWp.seq ?_;refine tq hΓ [8] [] ?_;refine AWp.cnd hr (by simp) (fun h3 hr => ?_) (fun h3 hr => ?_)
 ·obtain ⟨h4, hr⟩ := Lb hr;refine tq hΓ [4] [8, 0, 1] ?_ (by simp [h3, h4]; exact rr);obtain rfl := La hr;exact AWp.ret (Ld (by simp))
 ·refine AWp.skip ?_;refine tq hΓ [4] [8, 0, 1] ?_ (by simp [h3]; exact rr);obtain rfl := La hr;exact AWp.ret (Ld (by simp))
@[simp] noncomputable def gaf.S : Sp
  | [.lit (.string x0), .lit (.int .i64 x1)], _ => some { av := .lit (.string ((gaf x0 x1).getD dflt)), M := none, obl := (gaf x0 x1).isSome = true }
  | _, _ => none
set_option maxHeartbeats 1000000 in
theorem gaf.ok : SpecOk Tryz.prog 6 gaf.S := by
 intro l M out h;unfold gaf.S at h;split at h
 ·rename_i x0 x1;cases h;refine callOk_of fun ho => ?_;have hs := ho;obtain ⟨r, hr⟩ := so1 hs;simp only [hr, gd1];have q := Lg (M := M) [] (gaf.can x0 x1 r hr) (by simp) rfl ixn;exact callOk_conv q trivial (by simp) (by simp [frameOut]) (by simp [frameOut])
 ·cases h
end Go.Proofs
end
section
namespace Go.Proofs
end Go.Proofs
namespace Go.Ab
open Go.Proofs
@[simp] theorem bel_opq (m : Nat) (φ : Opq) : (AObj.opq φ).bel m ↔ True := Iff.rfl
@[simp] theorem wrO_bs (T E : TypeId) (bs : List Int) : (wrO T E bs).bs = bs := rfl
@[simp] def wrTextS (T E : TypeId) : Sp
  | [.ptr i 0], M => match M[i]? with
    | some (.opq φ) => some { av := .lit (.string (strOfNums φ.bs)), M := some (M.set i (.opq wrX)), obl := φ = wrO T E φ.bs ∧ TextB φ.bs }
    | _ => none
  | _, _ => none
theorem bytes_of {bs : List Int} (h : ∀ x ∈ bs, 0 ≤ x ∧ x < 256) : bs.map (Value.int .u8) = Lib.byteCells (bs.map fun n => n.toNat.toUInt8) := by
 simp only [Lib.byteCells, List.map_map];refine List.map_congr_left fun x hx => ?_;obtain ⟨h1, h2⟩ := h x hx;simp only [Function.comp, Nat.toUInt8, UInt8.toNat_ofNat'];congr 1;omega
theorem textW_ok {P : Program} {f : FuncId} {T E : TypeId} (hent : ∀ args w, (callFunc f args).run P w = .ok (.enter f args) w)
  (hS : ∀ (b g cap : Nat) (w : World) (p : Value) (l : List UInt8) (cur : Array Value), w.heap[b]? = some (.cells #[p, .slice (some ⟨g, 0, none⟩) l.length cap] T (0, 0)) → w.heap[g]? = some (.cells cur E (0, 0)) →
   l.length ≤ cap → cap ≤ maxLen → cur.size = cap → cur.toList.take l.length = Lib.byteCells l → l ≠ [] →
   Calls P f #[.pointer (some ⟨b, 0, none⟩)] w fun e w' => e = .returned (.string ⟨l.toArray⟩) ∧ WrKeep b (some g) w w' ∧ w'.heap.size = w.heap.size) : SpecOk P f (wrTextS T E) := by
 intro l M out h;unfold wrTextS at h;split at h
 ·rename_i i;split at h
  ·rename_i φ hMi;cases h;intro g vs hM sm hr ho;subst hM;obtain ⟨hφ, hne, hbb⟩ := ho;cases hr with | cons hv hr => cases hr with | nil =>
   cases hv with
   | ptr _ _ hi =>
   refine ⟨hent _ _, ?_⟩;have hq := sm.opq i φ hMi;rw [hφ] at hq;obtain ⟨p, v, h1, h2, h3⟩ := hq;rcases h3 with ⟨_, h, _⟩ | ⟨cap, cur, rfl, h4, h5, h6, h7, h8, h9⟩
   ·exact absurd h hne
   generalize hl : φ.bs.map (fun n => n.toNat.toUInt8) = ls;have hll : ls.length = φ.bs.length := by rw [← hl]; simp
   have hb : φ.bs.map (Value.int .u8) = Lib.byteCells ls := by rw [← hl]; exact bytes_of hbb
   have hstr : (⟨ls.toArray⟩ : ByteArray) = strOfNums φ.bs := by
    rw [← hl]; rfl
   simp only [wrO] at h1 h5 h6 h9;refine (hS (g.β i) (g.ρ i).b cap g.w p ls cur (by rw [hll]; exact h1) h5 (by omega) h7 h8 (by rw [hll, ← hb]; exact h9) (fun e => hne (List.eq_nil_of_length_eq_zero (by rw [← hll, e]; rfl)))).mono ?_;rintro e w' ⟨rfl, k1, k2⟩;obtain ⟨kk, ss⟩ := opq_turn sm hMi (φ' := wrX) (w' := w') (rb := (g.ρ i).b) k1.size ⟨k1.os, k1.output⟩ (fun k q1 q2 q3 => k1.block k q1 q2 (by simpa using q3)) (.inl rfl) trivial;refine ⟨_, rfl, g.β, _, ss, ?_, kk⟩;rw [hstr];exact .lit _
  ·cases h
 ·cases h
end Go.Ab
end
section
namespace Go.Ab
open Go.Proofs
@[simp] def wrPutS (T E : TypeId) : Sp
  | [.ptr i 0, .sl els _], M => match M[i]? with
    | some (.opq φ) => some { av := .ptr i 0, M := some (M.set i (.opq (wrO T E (appL φ.bs (els.map numOf))))), obl := φ = wrO T E φ.bs ∧ (∀ e ∈ els, ∃ n, e = [.lit (.int .u8 n)]) ∧ els ≠ [] ∧ AppB (lenL φ.bs) (lenL els) 1 }
    | _ => none
  | _, _ => none
theorem addr_plus (b off j : Nat) : (⟨b, off, none⟩ : Addr).add j = ⟨b, off + j, none⟩ := by
 unfold Addr.add;split <;> simp_all
theorem sl_inv {g : G} {els : List (List AV)} {tok : Tok} {v : Value} (h : R g (.sl els tok) v) (hne : els ≠ []) (hu : ∀ e ∈ els, ∃ n, e = [.lit (.int .u8 n)]) :
  ∃ b off cap, v = .slice (some ⟨b, off, none⟩) els.length cap ∧ ∀ j, j < els.length → g.w.cell? ⟨b, off + j, none⟩ = some (.int .u8 ((els.map numOf).getD j 0)) ∧ ¬ g.reg ⟨b, off + j, none⟩ := by
 cases h with
 | nil => exact absurd rfl hne
 | sl _ _ b off s cap xs hs h1 h2 h3 h4 ht hc =>
   refine ⟨b, off, cap, rfl, fun j hj => ?_⟩;obtain ⟨n, hn⟩ := hu _ (List.getElem_mem hj);have hs1 : s = 1 := by rw [← hs j hj, hn]; rfl
   subst hs1;have q1 := h1 j 0 hj (by omega);have q2 := h2 j 0 hj (by omega);have q3 := h3 j 0 hj (by rw [hn]; simp);simp only [Nat.mul_one, Nat.add_zero] at q1 q2;refine ⟨?_, q2⟩;rw [q1]
   have : R g (.lit (.int .u8 n)) (xs j 0) := by
    have e : els[j][0]'(by rw [hn]; simp) = .lit (.int .u8 n) := by simp [hn]
    rw [e] at q3; exact q3
   rw [this.lit_inv];have hg : (els.map numOf).getD j 0 = n := by simp [List.getD, hj, hn]
   rw [hg]
theorem putW_ok {P : Program} {f : FuncId} {T E : TypeId} (hent : ∀ args w, (callFunc f args).run P w = .ok (.enter f args) w)
  (hU : ∀ (b : Nat) (w : World) (p v : Value) (n : Nat) (xs : List Value), w.heap[b]? = some (.cells #[p, v] T (0, 0)) → (p = .pointer none ∨ p = .pointer (some ⟨b, 0, none⟩)) → w.ownsRow 0 E 1 v n xs → v.ownBlock ≠ some b →
   ∀ (ad : Addr) (m c : Nat) (news : List Value), news.length = m → 0 < m → (∀ j u, news[j]? = some u → w.cell? (ad.add j) = some u) → (∀ u ∈ news, u.oneCell' = true) → (∀ j, (ad.add j).block ≠ b) → n + m ≤ 140737488355328 →
   Calls P f #[.pointer (some ⟨b, 0, none⟩), .slice (some ad) m c] w fun e w' => e = .returned (.pointer (some ⟨b, 0, none⟩)) ∧
   ∃ v', w'.heap[b]? = some (.cells #[.pointer (some ⟨b, 0, none⟩), v'] T (0, 0)) ∧ w'.ownsRow 0 E 1 v' (n + m) (xs ++ news) ∧ v'.ownBlock ≠ some b ∧ WrKeep b v.ownBlock w w' ∧
     (v'.ownBlock = v.ownBlock ∨ v'.ownBlock = some w.heap.size) ∧ ∀ g, v'.ownBlock = some g → g < w'.heap.size) : SpecOk P f (wrPutS T E) := by
 intro l M out h;unfold wrPutS at h;split at h
 ·rename_i i els tok;split at h
  ·rename_i φ hMi;cases h;intro g vs hM sm hr ho;subst hM;obtain ⟨hφ, hu, hne, happ⟩ := ho;cases hr with | cons hv hr => cases hr with | cons hs hr => cases hr with | nil =>
   cases hv with
   | ptr _ _ hi =>
   obtain ⟨ab, off, cap, rfl, hcell⟩ := sl_inv hs hne hu;refine ⟨hent _ _, ?_⟩;have hq := sm.opq i φ hMi;rw [hφ] at hq;obtain ⟨p, v, h1, h2, h3, h4, h5⟩ := WrB.at hq;generalize hls : els.map numOf = ls at *
   have hll : ls.length = els.length := by rw [← hls]; simp
   have hpos : 0 < ls.length := by
    rw [hll];exact List.length_pos_iff.2 hne
   have hadd : ∀ j, (⟨ab, off, none⟩ : Addr).add j = ⟨ab, off + j, none⟩ := fun j => addr_plus ab off j
   have happ' : φ.bs.length + els.length ≤ 140737488355328 := by
    have := happ.1;simp only [lenL, Int.mul_one, Int.natCast_one] at this;omega
   have hab : ab ≠ g.β i := by
    intro e;have := (hcell 0 (by omega)).2;exact this (Lk hMi (.inl e))
   refine (hU (g.β i) g.w p v φ.bs.length (φ.bs.map (Value.int .u8)) h1 h2 h3 h4 ⟨ab, off, none⟩ els.length cap (ls.map (Value.int .u8)) (by rw [List.length_map]; exact hll) (by rw [← hll]; exact hpos) (fun j u hj => ?_) (fun u hu => ?_) (fun j => by rw [hadd]; exact hab) happ').mono ?_
   ·simp only [List.getElem?_map, Option.map_eq_some_iff] at hj;obtain ⟨x, hx, rfl⟩ := hj
    have hjl : j < ls.length := by
     rcases Nat.lt_or_ge j ls.length with h | h
     ·exact h
     ·rw [List.getElem?_eq_none h] at hx; cases hx
    rw [hadd, (hcell j (by omega)).1];simp [List.getD, hx]
   ·obtain ⟨x, _, rfl⟩ := List.mem_map.1 hu;rfl
   rintro e w' ⟨rfl, v', k1, k2, k3, k4, k5, k6⟩
   have hW : WrB T E (φ.bs ++ ls) (g.β i) (v'.ownBlock.getD (g.β i)) (w'.heap[g.β i]?) (w'.heap[v'.ownBlock.getD (g.β i)]?) := by
    refine WrB.of k1 (.inr rfl) ?_ k3;simpa [hll] using k2
   have hρ : v.ownBlock = none ∧ (g.ρ i).b = g.β i ∨ v.ownBlock = some (g.ρ i).b := h5
   obtain ⟨kk, ss⟩ := opq_turn sm hMi (φ' := wrO T E (φ.bs ++ ls)) (w' := w') (rb := v'.ownBlock.getD (g.β i)) k4.size ⟨k4.os, k4.output⟩ (fun k q1 q2 q3 => k4.block k q1 q2 (by
     rcases hρ with ⟨h, _⟩ | h <;> rw [h]
     ·simp
     ·simpa using q3))
    (by
     rcases k5 with h | h
     ·rcases hρ with ⟨h', _⟩ | h'
      ·right; left; rw [h, h']; rfl
      ·left; rw [h, h']; rfl
     ·right; right; rw [h]; exact ⟨Nat.le_refl _, k6 _ h⟩) hW
   refine ⟨_, rfl, g.β, _, ss, ?_, kk⟩;exact .ptr (g := ⟨g.M.set i (.opq (wrO T E (φ.bs ++ ls))), g.β, _, w', g.X⟩) i 0 (by simpa using hi)
  ·cases h
 ·cases h
end Go.Ab
namespace Go.Proofs
open Go.RowKit Go.Ab
set_option maxHeartbeats 1000000 in
set_option maxRecDepth 100000 in
theorem Tryz.u8W (b : Nat) (w : World) (p v : Value) (n : Nat) (xs : List Value) (hb : w.heap[b]? = some (.cells #[p, v] 126 (0, 0))) (hp : p = .pointer none ∨ p = .pointer (some ⟨b, 0, none⟩))
  (hown : w.ownsRow 0 5 1 v n xs) (hne : v.ownBlock ≠ some b) (ad : Addr) (m c : Nat) (news : List Value) (hl : news.length = m) (hm : 0 < m) (hnews : ∀ j u, news[j]? = some u → w.cell? (ad.add j) = some u)
  (h1 : ∀ u ∈ news, u.oneCell' = true) (hap : ∀ j, (ad.add j).block ≠ b) (hbytes : n + m ≤ 140737488355328) :
  Calls Tryz.prog 68 #[.pointer (some ⟨b, 0, none⟩), .slice (some ad) m c] w fun e w' => e = .returned (.pointer (some ⟨b, 0, none⟩)) ∧
   ∃ v', w'.heap[b]? = some (.cells #[.pointer (some ⟨b, 0, none⟩), v'] 126 (0, 0)) ∧ w'.ownsRow 0 5 1 v' (n + m) (xs ++ news) ∧ v'.ownBlock ≠ some b ∧ WrKeep b v.ownBlock w w' ∧
     (v'.ownBlock = v.ownBlock ∨ v'.ownBlock = some w.heap.size) ∧ ∀ g, v'.ownBlock = some g → g < w'.heap.size := by
 have H1 := hidW (Tryz.writeW b w p v n xs hb hp hown hne ad m c news hl hm hnews h1 hap hbytes);clear hb hp hown hne hnews h1 hap hl hm hbytes
 go_enter Tryz.func68, Tryz.ntmps68
 go_wp2_with (go_at_call 100; refine H1.out.mono ?_);rintro e w1 ⟨rfl, h⟩;have H2 := hidW h;clear h;go_wp2;go_ret;exact ⟨rfl, H2.out⟩
set_option maxHeartbeats 1000000 in
set_option maxRecDepth 100000 in
theorem Tryz.textW (b g cap : Nat) (w : World) (p : Value) (l : List UInt8) (cur : Array Value) (hb : w.heap[b]? = some (.cells #[p, .slice (some ⟨g, 0, none⟩) l.length cap] 126 (0, 0)))
  (hg : w.heap[g]? = some (.cells cur 5 (0, 0))) (hnc : l.length ≤ cap) (hcm : cap ≤ maxLen) (hcs : cur.size = cap) (ht : cur.toList.take l.length = Lib.byteCells l) (h0 : l ≠ []) :
  Calls Tryz.prog 73 #[.pointer (some ⟨b, 0, none⟩)] w fun e w' => e = .returned (.string ⟨l.toArray⟩) ∧ WrKeep b (some g) w w' ∧ w'.heap.size = w.heap.size := by
 have H1 := hidW (Tryz.stringW b g cap w p l cur hb hg hnc hcm hcs ht h0);clear hb hg hnc hcm hcs ht h0
 go_enter Tryz.func73, Tryz.ntmps73
 go_wp2_with (go_at_call 30; refine H1.out.mono ?_);rintro e w1 ⟨rfl, h⟩;have H2 := hidW h;clear h;go_wp2;go_ret;exact ⟨rfl, H2.out⟩
theorem gak.U8.ok : SpecOk Tryz.prog 68 (wrPutS 126 5) :=
 putW_ok (fun _ _ => by kernel_rfl) Tryz.u8W
theorem gak.Text.ok : SpecOk Tryz.prog 73 (wrTextS 126 5) :=
 textW_ok (fun _ _ => by kernel_rfl) Tryz.textW
theorem Tryz.wrZero (w : World) : (zeroValue 126).run Tryz.prog w = .ok (.agg #[.pointer none, .slice none 0 0]) w := by kernel_rfl
theorem gak.alloc {n B : Nat} {Q : Exit → Go.Ab.St → Prop} {σ : Go.Ab.St} {id d1 : Nat} {ops : Array Oper} {o1 : Oper} (ho : ops.toList = [o1]) (ho1 : o1.op = .alloc 126) (hg : o1.guard = none)
  (hd1 : o1.dst = some d1) (hd : dstsOk ops n ops.toList [] = true) (hn : noTags σ.A = true) {dead : List Nat}
  (h : Q .normal ⟨⟨d1, none, .ptr σ.M.length 0⟩ :: without dead (without [d1] σ.A), σ.M ++ [.opq (wrO 126 5 [])]⟩) : AWp Tryz.prog n B (.region id ops false) Q σ :=
 AWp.regAlloc (wrO 126 5 []) ho ho1 hg hd1 hd hn Tryz.wrZero rfl (fun b o => wr_fresh _ _ b o) h
end Go.Proofs
end
section
namespace Go.Ab
open Go.Proofs Go.RowKit Go.Shelf
@[simp] def trimA : Sp
  | [.lit (.string s), .lit (.string c)], _ => some { av := .lit (.string (trimB s c)), obl := s.size ≤ 9223372036854775807 ∧ AsciiB c }
  | _, _ => none
@[simp] def atoiA : Sp
  | [.lit (.string s)], _ => some { av := .tup [.lit (.int .i64 ((Lib.atoi s.data.toList).getD 0)), .lit .nilIface], obl := s.size ≤ 18 ∧ (Lib.atoi s.data.toList).isSome = true }
  | _, _ => none
@[simp] def hasA : Sp
  | [.sl els _, .lit (.string x)], _ => some { av := .lit (.bool (hasT (els.map decS) x)), obl := els = (els.map decS).map eTxt ∧ lenL els ≤ 140737488355328 }
  | _, _ => none
end Go.Ab
namespace Go.Proofs
open Go.RowKit Go.Ab Go.Shelf
theorem gTrim.ok : SpecOk Tryz.prog 94 trimA := by
 intro l M out h;unfold trimA at h;split at h
 ·rename_i s c;cases h;intro g vs hM sm hr ho;cases hr with | cons hv hr => cases hr with | cons hc hr => cases hr with | nil =>
  cases hv;cases hc;obtain ⟨h1, h2, h3⟩ := ho;exact ok_below (fun _ _ => by kernel_rfl) sm (Any.strings_Trim_laid Tryz.laysTrim (by kernel_rfl) s c g.w h1 h2 (ascii_of_all h3))
 ·cases h
theorem gAtoi.ok : SpecOk Tryz.prog 95 atoiA := by
 intro l M out h;unfold atoiA at h;split at h
 ·rename_i s;cases h;intro g vs hM sm hr ho;cases hr with | cons hv hr => cases hr with | nil =>
  cases hv;obtain ⟨h1, h2⟩ := ho;obtain ⟨n, hn⟩ := Option.isSome_iff_exists.1 h2;refine ⟨by kernel_rfl, (Any.strconv_Atoi Tryz.laysAtoi s n h1 hn g.w).mono ?_⟩;rintro e w' ⟨rfl, t, rfl⟩;have hb : Below g.w.heap.size g.w (Lib.bytesWorld g.w (Tryz.laysAtoi_ren.t 5) t) := Lib.bytesWorld_below _ _ _;refine ⟨_, rfl, g.β, g.ρ, sim_below hb sm, ?_, keep_below hb⟩;rw [hn];refine .tup _ _ rfl fun j hj => ?_
  match j, hj with
  | 0, _ => exact .lit _
  | 1, _ => exact .lit _
 ·cases h
theorem gHas.ok : SpecOk Tryz.prog 32 hasA := by
 intro l M out h;unfold hasA at h;split at h
 ·rename_i els tok x;cases h;intro g vs hM sm hr ho;cases hr with | cons hv hr => cases hr with | cons hc hr => cases hr with | nil =>
  cases hc;obtain ⟨h1, h2⟩ := ho;refine ⟨enters_of Tryz.func32 (by kernel_rfl) rfl _ _, ?_⟩;cases hv with
  | nil _ _ =>
    refine (Any.slices_Contains_string_empty Tryz.laysHas _ 0 x g.w).mono ?_;rintro e w' ⟨rfl, rfl⟩;exact ⟨_, rfl, Post.same rfl sm (.lit _)⟩
  | sl _ _ b off s cap xs hs k1 _ k3 _ _ _ =>
    have hlen : els.length ≤ 9223372036854775807 := by
     have : lenL els = els.length := rfl;omega
    have hel : ∀ j (hj : j < els.length), els[j] = [.lit (.string (els.map decS)[j]!)] := fun j hj => by
     have := congrArg (fun l => l[j]?) h1;simp only [List.getElem?_map, List.getElem?_eq_getElem hj, Option.map_some] at this;have e : (els.map decS)[j]! = decS els[j] := by simp [hj]
     rw [e];exact Option.some.inj this
    refine (Any.slices_Contains_string Tryz.laysHas b off els.length cap (els.map decS) x g.w (by simp) hlen (fun j hj => ?_)).mono ?_
    ·have hj' : j < els.length := by simpa using hj
     have hs1 : s = 1 := by rw [← hs j hj', hel j hj']; rfl
     subst hs1;have c := k1 j 0 hj' (by omega);have r := k3 j 0 hj' (by rw [hs j hj']; omega);simp only [hel j hj', List.getElem_cons_zero] at r;rw [r.lit_inv] at c;simp only [Nat.mul_one, Nat.add_zero] at c;rw [c];simp [hj']
    ·rintro e w' ⟨rfl, rfl⟩;have e2 : (els.map decS).take els.length = els.map decS := List.take_of_length_le (by simp);rw [e2];exact ⟨_, rfl, Post.same rfl sm (.lit _)⟩
 ·cases h
end Go.Proofs
end
section
namespace Go.Proofs
open Go.Ab
end Go.Proofs
end
section
namespace Go.Ab
theorem eqI_d (a b : Int) : eqI a b = decide (a = b) := by
 unfold eqI; by_cases h : a = b <;> simp [h]
theorem neI_d (a b : Int) : neI a b = decide (a ≠ b) := by
 unfold neI; by_cases h : a = b <;> simp [h]
theorem ltI_d (a b : Int) : ltI a b = decide (a < b) := rfl
theorem leI_d (a b : Int) : leqI a b = decide (a ≤ b) := rfl
theorem eqI_t {a b : Int} (h : a = b) : eqI a b = true := by rw [eqI_d]; exact decide_eq_true h
theorem eqI_f {a b : Int} (h : a ≠ b) : eqI a b = false := by rw [eqI_d]; exact decide_eq_false h
theorem neI_t {a b : Int} (h : a ≠ b) : neI a b = true := by rw [neI_d]; exact decide_eq_true h
theorem neI_f {a b : Int} (h : a = b) : neI a b = false := by rw [neI_d]; exact decide_eq_false (fun q => q h)
theorem ltI_t {a b : Int} (h : a < b) : ltI a b = true := decide_eq_true h
theorem ltI_f {a b : Int} (h : ¬ a < b) : ltI a b = false := decide_eq_false h
theorem leI_t {a b : Int} (h : a ≤ b) : leqI a b = true := decide_eq_true h
theorem leI_f {a b : Int} (h : ¬ a ≤ b) : leqI a b = false := decide_eq_false h
theorem notB_d (a : Bool) : notB a = !a := rfl
theorem pickB_and (x y : Bool) : pickB x y false = (x && y) := by cases x <;> rfl
theorem pickB_or (x y : Bool) : pickB x true y = (x || y) := by cases x <;> rfl
theorem minI_d (a b : Int) : minI a b = min a b := rfl
theorem maxI_d (a b : Int) : maxI a b = max a b := rfl
theorem addI_n {a b : Int} (h0 : -9223372036854775808 ≤ a + b) (h1 : a + b < 9223372036854775808) : addI .i64 a b = a + b := wrap64_of h0 h1
theorem subI_n {a b : Int} (h0 : -9223372036854775808 ≤ a - b) (h1 : a - b < 9223372036854775808) : subI .i64 a b = a - b := wrap64_of h0 h1
theorem mulI_n {a b : Int} (h0 : -9223372036854775808 ≤ a * b) (h1 : a * b < 9223372036854775808) : mulI .i64 a b = a * b := wrap64_of h0 h1
theorem tdiv_bounds {a b : Int} (h : 0 ≤ a) (hb : 0 < b) : 0 ≤ a.tdiv b ∧ a.tdiv b ≤ a := by
 rw [Int.tdiv_eq_ediv_of_nonneg h];exact ⟨Int.ediv_nonneg h (by omega), Int.ediv_le_self _ h⟩
theorem quoI_n {a b : Int} (h : 0 ≤ a) (h2 : a < 9223372036854775808) (hb : 0 < b) : quoI .i64 a b = a / b := by
 have := tdiv_bounds h hb;unfold quoI;rw [wrap64_of (by omega) (by omega), Int.tdiv_eq_ediv_of_nonneg h]
theorem Lf {α : Type} {p : Prop} {x : Option α} (h : p) : need p x = x := by unfold need; rw [if_pos h]
@[simp] theorem need_true {α : Type} (x : Option α) : need True x = x := Lf trivial
@[simp] theorem flC_go {V X : Type} (v : V) (k : V → Option X) : flC (.go v) k = k v := rfl
@[simp] theorem flC_out {V X : Type} (x : X) (k : V → Option X) : flC (.out x) k = some x := rfl
@[simp] theorem Lh {α β : Type} (x : α) (k : α → Option β) : (some x).bind k = k x := rfl
@[simp] theorem getD_so {α : Type} (x y : α) : (some x).getD y = x := rfl
theorem under_of {e : Bool} {b : Bool} {p : Prop} (h : p) : Under e b p := fun _ => h
def RoundP {S T : Type} (I : S → Prop) (Q : T → Prop) (μ : S → Nat) (s : S) : Option (Fl S T) → Prop
 | some (.go s') => I s' ∧ μ s' < μ s
 | some (.out t) => Q t
 | none => False
theorem loop_ends {S T : Type} {body : S → Option (Fl S T)} (I : S → Prop) (Q : T → Prop) (μ : S → Nat) (h : ∀ s, I s → RoundP I Q μ s (body s)) (s : S) (hs : I s) : ∃ t, loopF body s = some t ∧ Q t :=
 loopF_ends I Q μ (fun s hI => by
  have q := h s hI;cases hb : body s with
  | none => rw [hb] at q; exact q.elim
  | some f =>
    rw [hb] at q;refine ⟨f, rfl, ?_⟩;cases f <;> exact q) s hs
end Go.Ab
end
section
namespace Go.Ab
open Go.ChangeShapes Go.WideShapes Go.ChangeAt Go.RowKit
variable {H : Type} {enc : TypeId × Value → H} {P : Program}
end Go.Ab
end
