import Derived.Test.YtpamnignoocogaaGreatDoorM18
import Derived.Test.YtpamnignoocogaaGreatDoorM04
section
namespace Go.Proofs
open Go.Ab
inductive Shp : Cmd → List UInt8 → Prop
 | join (r n : List UInt8) (hr : r.length < 256) (hn : n.length < 256) : Shp (.mk 1 (ofB r) (ofB n) 0 0 0 0 false false []) (be 1 (r.length : Int) ++ (r ++ (be 1 (n.length : Int) ++ (n ++ []))))
 | leave (p : Int) (hp : 0 ≤ p ∧ p < 65536) : Shp (.mk 2 noS noS p 0 0 0 false false []) (be 2 p ++ [])
 | publish (p t : Int) (v : Bool) (ss : List Int) (hp : 0 ≤ p ∧ p < 65536) (ht : 0 ≤ t ∧ t < 256) (hl : ss.length < 256) (hs : ∀ x ∈ ss, 0 ≤ x ∧ x < 4294967296) : Shp (.mk 3 noS noS p 0 t 0 false v ss) (be 2 p ++ (be 1 t ++ (bitB v :: (be 1 (ss.length : Int) ++ (ss.flatMap (be 4) ++ [])))))
 | unpublish (p t : Int) (hp : 0 ≤ p ∧ p < 65536) (ht : 0 ≤ t ∧ t < 256) : Shp (.mk 4 noS noS p 0 t 0 false false []) (be 2 p ++ (be 1 t ++ []))
 | subscribe (p o t l : Int) (hp : 0 ≤ p ∧ p < 65536) (ho : 0 ≤ o ∧ o < 65536) (ht : 0 ≤ t ∧ t < 256) (hl : 0 ≤ l ∧ l < 256) : Shp (.mk 5 noS noS p o t l false false []) (be 2 p ++ (be 2 o ++ (be 1 t ++ (be 1 l ++ []))))
 | unsubscribe (p o t : Int) (hp : 0 ≤ p ∧ p < 65536) (ho : 0 ≤ o ∧ o < 65536) (ht : 0 ≤ t ∧ t < 256) : Shp (.mk 6 noS noS p o t 0 false false []) (be 2 p ++ (be 2 o ++ (be 1 t ++ [])))
 | mute (p t : Int) (b : Bool) (hp : 0 ≤ p ∧ p < 65536) (ht : 0 ≤ t ∧ t < 256) : Shp (.mk 7 noS noS p 0 t 0 b false []) (be 2 p ++ (be 1 t ++ (bitB b :: [])))
 | pause (p o t : Int) (b : Bool) (hp : 0 ≤ p ∧ p < 65536) (ho : 0 ≤ o ∧ o < 65536) (ht : 0 ≤ t ∧ t < 256) : Shp (.mk 8 noS noS p o t 0 b false []) (be 2 p ++ (be 2 o ++ (be 1 t ++ (bitB b :: []))))
theorem shp_kind {c : Cmd} {s : List UInt8} (h : Shp c s) : 1 ≤ c.fa ∧ c.fa ≤ 8 := by
 cases h <;> simp
theorem shp_sizes {c : Cmd} {s : List UInt8} (h : Shp c s) : c.fc.size < 256 ∧ c.fe.size < 256 ∧ c.fb.length < 256 := by
 have h0 : noS.size = 0 := rfl;cases h <;> simp only [size_of, List.length_nil, h0] <;> omega
theorem ret_inv {c c' : Cmd} {s : List UInt8} (h : (Rd.ret c').run s 0 = (c, [], 0)) : c = c' ∧ s = [] := by
 simp only [Rd.run, Prod.mk.injEq] at h;exact ⟨h.1.symm, h.2.1⟩
theorem prog_inv {k : Int} (hk : 1 ≤ k ∧ k ≤ 8) {s : List UInt8} {c : Cmd} (h : (prog k).run s 0 = (c, [], 0)) : Shp c s ∧ c.fa = k := by
 unfold prog at h;rcases kinds hk with q | q | q | q | q | q | q | q <;> subst q <;> simp only [r1, r2, r3, r4, r5, r6, r7, r8, partsP, tkK, newC, Int.reduceEq, if_true, if_false] at h
 ·obtain ⟨a, s1, e1, a0, a1, h⟩ := Lq h;obtain ⟨r, s2, e2, hr, h⟩ := run_rd_inv h;obtain ⟨b, s3, e3, b0, b1, h⟩ := Lq h;obtain ⟨n, s4, e4, hn, h⟩ := run_rd_inv h;obtain ⟨rfl, e5⟩ := ret_inv h;subst e5 e4 e3 e2 e1;obtain ⟨a, rfl⟩ : ∃ m : Nat, a = m := ⟨a.toNat, by omega⟩;obtain ⟨b, rfl⟩ : ∃ m : Nat, b = m := ⟨b.toNat, by omega⟩;simp only [Int.toNat_natCast] at hr hn;subst hr hn;exact ⟨.join r n (by omega) (by omega), rfl⟩
 ·obtain ⟨p, s1, e1, p0, p1, h⟩ := Lq h;obtain ⟨rfl, e5⟩ := ret_inv h;subst e5 e1;exact ⟨.leave p ⟨p0, p1⟩, rfl⟩
 ·obtain ⟨p, s1, e1, p0, p1, h⟩ := Lq h;obtain ⟨t, s2, e2, t0, t1, h⟩ := Lq h;obtain ⟨v, s3, e3, h⟩ := run_tru_inv h;obtain ⟨m, s4, e4, m0, m1, h⟩ := Lq h;obtain ⟨ss, s6, e6, hl, hs, h⟩ := run_many_inv h;obtain ⟨rfl, e5⟩ := ret_inv h;subst e5 e6 e4 e3 e2 e1;obtain ⟨m, rfl⟩ : ∃ n : Nat, m = n := ⟨m.toNat, by omega⟩;simp only [Int.toNat_natCast] at hl;subst hl;exact ⟨.publish p t v ss ⟨p0, p1⟩ ⟨t0, t1⟩ (by omega) hs, rfl⟩
 ·obtain ⟨p, s1, e1, p0, p1, h⟩ := Lq h;obtain ⟨t, s2, e2, t0, t1, h⟩ := Lq h;obtain ⟨rfl, e5⟩ := ret_inv h;subst e5 e2 e1;exact ⟨.unpublish p t ⟨p0, p1⟩ ⟨t0, t1⟩, rfl⟩
 ·obtain ⟨p, s1, e1, p0, p1, h⟩ := Lq h;obtain ⟨o, s2, e2, o0, o1, h⟩ := Lq h;obtain ⟨t, s3, e3, t0, t1, h⟩ := Lq h;obtain ⟨l, s4, e4, l0, l1, h⟩ := Lq h;obtain ⟨rfl, e5⟩ := ret_inv h;subst e5 e4 e3 e2 e1;exact ⟨.subscribe p o t l ⟨p0, p1⟩ ⟨o0, o1⟩ ⟨t0, t1⟩ ⟨l0, l1⟩, rfl⟩
 ·obtain ⟨p, s1, e1, p0, p1, h⟩ := Lq h;obtain ⟨o, s2, e2, o0, o1, h⟩ := Lq h;obtain ⟨t, s3, e3, t0, t1, h⟩ := Lq h;obtain ⟨rfl, e5⟩ := ret_inv h;subst e5 e3 e2 e1;exact ⟨.unsubscribe p o t ⟨p0, p1⟩ ⟨o0, o1⟩ ⟨t0, t1⟩, rfl⟩
 ·obtain ⟨p, s1, e1, p0, p1, h⟩ := Lq h;obtain ⟨t, s2, e2, t0, t1, h⟩ := Lq h;obtain ⟨v, s3, e3, h⟩ := run_tru_inv h;obtain ⟨rfl, e5⟩ := ret_inv h;subst e5 e3 e2 e1;exact ⟨.mute p t v ⟨p0, p1⟩ ⟨t0, t1⟩, rfl⟩
 ·obtain ⟨p, s1, e1, p0, p1, h⟩ := Lq h;obtain ⟨o, s2, e2, o0, o1, h⟩ := Lq h;obtain ⟨t, s3, e3, t0, t1, h⟩ := Lq h;obtain ⟨v, s4, e4, h⟩ := run_tru_inv h;obtain ⟨rfl, e5⟩ := ret_inv h;subst e5 e4 e3 e2 e1;exact ⟨.pause p o t v ⟨p0, p1⟩ ⟨o0, o1⟩ ⟨t0, t1⟩, rfl⟩
theorem prog_fwd {s : List UInt8} {c : Cmd} (h : Shp c s) : (prog c.fa).run s 0 = (c, [], 0) := by
 unfold prog;cases h <;> simp only [r1, r2, r3, r4, r5, r6, r7, r8, partsP, tkK, newC, Int.reduceEq, if_true, if_false]
 case join r n hr hn =>
  rw [Lp (by omega) (by omega), run_rd_fwd (by simp), Lp (by omega) (by omega), run_rd_fwd (by simp)];rfl
 case leave p hp =>
  rw [Lp hp.1 hp.2];rfl
 case publish p t v ss hp ht hl hs =>
  rw [Lp hp.1 hp.2, Lp ht.1 ht.2, run_tru_fwd, Lp (by omega) (by omega), Int.toNat_natCast, run_many_fwd hs];rfl
 case unpublish p t hp ht =>
  rw [Lp hp.1 hp.2, Lp ht.1 ht.2];rfl
 case subscribe p o t l hp ho ht hl =>
  rw [Lp hp.1 hp.2, Lp ho.1 ho.2, Lp ht.1 ht.2, Lp hl.1 hl.2];rfl
 case unsubscribe p o t hp ho ht =>
  rw [Lp hp.1 hp.2, Lp ho.1 ho.2, Lp ht.1 ht.2];rfl
 case mute p t b hp ht =>
  rw [Lp hp.1 hp.2, Lp ht.1 ht.2, run_tru_fwd];rfl
 case pause p o t b hp ho ht =>
  rw [Lp hp.1 hp.2, Lp ho.1 ho.2, Lp ht.1 ht.2, run_tru_fwd];rfl
def noC : Cmd := .mk 0 noS noS 0 0 0 0 false false []
def endE (x : Cmd × List UInt8 × Int) : Int := if x.2.1 ≠ [] ∧ x.2.2 = 0 then 2 else x.2.2
noncomputable def specP (s : List UInt8) : Option (Cmd × Int) := match s with
 | [] => some (noC, 1)
 | b :: l => if (b.toNat : Int) < 1 ∨ 8 < (b.toNat : Int) then some (noC, 3) else
   if endE ((prog b.toNat).run l 0) ≠ 0 then some (noC, endE ((prog b.toNat).run l 0)) else
    (gae ((prog b.toNat).run l 0).1).bind fun v => if v ≠ 0 then some (noC, v) else some (((prog b.toNat).run l 0).1, 0)
theorem endE_0 {x : Cmd × List UInt8 × Int} (h : endE x = 0) : x.2 = ([], 0) := by
 obtain ⟨c, l, e⟩ := x;unfold endE at h;simp only at h ⊢;split at h
 ·omega
 ·rename_i q;subst h;cases l with
  | nil => rfl
  | cons a t => exact absurd ⟨by simp, rfl⟩ q
theorem stp1_nil : stp 1 [] 0 = ([], [], 1) := stp_short (by simp)
theorem stp1_cons (b : UInt8) (l : List UInt8) : stp 1 (b :: l) 0 = ([b], l, 0) := by rw [stp_ok (by simp)]; simp
theorem val1 (b : UInt8) : val [b] = b.toNat := by simp [val]
theorem hasL_nil {k : Int} (h : k < 1 ∨ 8 < k) : hasL k = [] := by
 unfold hasL;rw [if_neg (by omega), if_neg (by omega), if_neg (by omega), if_neg (by omega), if_neg (by omega), if_neg (by omega), if_neg (by omega), if_neg (by omega)]
theorem hasL_ne {k : Int} (h : 1 ≤ k ∧ k ≤ 8) : (hasL k).isEmpty = false := by
 rcases kinds h with h | h | h | h | h | h | h | h <;> subst h <;> rfl
theorem hasL_nodup (k : Int) : (runesL (hasL k)).Nodup := by
 by_cases h : k < 1 ∨ 8 < k
 ·rw [hasL_nil h]; decide +kernel
 ·rcases kinds (k := k) (by omega) with h | h | h | h | h | h | h | h <;> subst h <;> simp only [r1, r2, r3, r4, r5, r6, r7, r8] <;> decide
theorem scan_has (k : Int) : scan (ofB (hasL k)) 0 = runesL (hasL k) := by unfold scan; rw [restS_0, ofB_b]
theorem run_nil {k : Int} (h : k < 1 ∨ 8 < k) (l : List UInt8) (e : Int) : (prog k).run l e = (newC k, l, e) := by
 unfold prog;rw [hasL_nil h, show runesL [] = [] by decide +kernel];rfl
theorem parse_tail (k : Int) (l : List UInt8) (e : Int) (X : Option (Cmd × Int)) (hX : X = (if endE ((prog k).run l e) ≠ 0 then some (noC, endE ((prog k).run l e)) else
   (gt ((prog k).run l e).1).bind fun v => if v ≠ 0 then some (noC, v) else some (((prog k).run l e).1, 0))) :
  ((loopF (gw.loop2 (ofB (hasL k))) (Tb.mk (ofB l) e, k, ⟨#[]⟩, ⟨#[]⟩, 0, 0, 0, 0, false, false, true, [], 0)).bind fun f => flC f fun (v2 : Tb × Int × ByteArray × ByteArray × Int × Int × Int × Int × Bool × Bool × Bool × List Int) =>
    ((gA v2.1)).bind fun r6 =>
    bif (neI r6.1 0) then (
     some ((Ta.mk 0 ⟨#[]⟩ ⟨#[]⟩ 0 0 0 0 false false []), r6.1)
    ) else (
      ((gt (Ta.mk v2.2.1 v2.2.2.1 v2.2.2.2.1 v2.2.2.2.2.1 v2.2.2.2.2.2.1 v2.2.2.2.2.2.2.1 v2.2.2.2.2.2.2.2.1 v2.2.2.2.2.2.2.2.2.1 v2.2.2.2.2.2.2.2.2.2.1 v2.2.2.2.2.2.2.2.2.2.2.2))).bind fun r7 =>
      bif (neI r7 0) then (
       some ((Ta.mk 0 ⟨#[]⟩ ⟨#[]⟩ 0 0 0 0 false false []), r7)
      ) else (
        some ((Ta.mk v2.2.1 v2.2.2.1 v2.2.2.2.1 v2.2.2.2.2.1 v2.2.2.2.2.2.1 v2.2.2.2.2.2.2.1 v2.2.2.2.2.2.2.2.1 v2.2.2.2.2.2.2.2.2.1 v2.2.2.2.2.2.2.2.2.2.1 v2.2.2.2.2.2.2.2.2.2.2.2), 0)
      )
    )) = X := by
 obtain ⟨f', h1⟩ := parts_loop (ofB (hasL k)) (runesL (hasL k)) 0 (newC k) true l e (scan_has k) (.inl ⟨rfl, rfl, hasL_nodup k⟩);have h1' : loopF (gw.loop2 (ofB (hasL k))) (Tb.mk (ofB l) e, k, ⟨#[]⟩, ⟨#[]⟩, 0, 0, 0, 0, false, false, true, [], 0) = _ := h1;rw [h1'];simp only [Lg, flC_go];rw [show partsP (runesL (hasL k)) (newC k) = prog k from rfl];obtain ⟨R, h2⟩ := end_d ((prog k).run l e).2.1 ((prog k).run l e).2.2;rw [h2];simp only [Lg];rw [show (if ((prog k).run l e).2.1 ≠ [] ∧ ((prog k).run l e).2.2 = 0 then (2 : Int) else ((prog k).run l e).2.2) = endE ((prog k).run l e) from rfl, hX];by_cases he : endE ((prog k).run l e) = 0
 ·rw [neI_f he, if_neg (by simpa using he)];simp only [cond_false];congr 1;funext v;by_cases hv : v = 0
  ·rw [neI_f hv, if_neg (by simpa using hv)]; rfl
  ·rw [neI_t hv, if_pos hv]; rfl
 ·rw [neI_t he, if_pos he];rfl
theorem spec_b (b : UInt8) (l : List UInt8) : specP (b :: l) = if (b.toNat : Int) < 1 ∨ 8 < (b.toNat : Int) then some (noC, 3) else
  if endE ((prog b.toNat).run l 0) ≠ 0 then some (noC, endE ((prog b.toNat).run l 0)) else
   (gae ((prog b.toNat).run l 0).1).bind fun v => if v ≠ 0 then some (noC, v) else some (((prog b.toNat).run l 0).1, 0) := rfl
theorem parse_d (s : List UInt8) : gw (ofB s) = specP s := by
 unfold gw gac gK;simp only [Lg, u8_d, has_d, getD_so];cases s with
 | nil =>
   rw [stp1_nil];simp only [eqI_f (show (1 : Int) ≠ 0 by decide)];rw [need_s];simp only [pickB, cond_false, Lg, flC_go, val_nil];rw [show cvtI .i64 0 = 0 by decide];refine parse_tail 0 [] 1 _ ?_;rw [run_nil (by omega)];rfl
 | cons b l =>
   have hb := b.toNat_lt;rw [stp1_cons, val1, cvt64 (by omega) (by omega)];simp only [eqI_t (show (0 : Int) = 0 from rfl), eqS_ofB];rw [need_s];rw [spec_b];by_cases h : (b.toNat : Int) < 1 ∨ 8 < (b.toNat : Int)
   ·rw [show (hasL (b.toNat : Int)).isEmpty = true by rw [hasL_nil h]; rfl, if_pos h, fail_d _ _ _ (by omega)];simp only [pickB, cond_true, Lg, flC_go];rw [show (flt 3 l 0) = ([], 3) from rfl];refine parse_tail b.toNat [] 3 _ ?_;rw [run_nil h];rfl
   ·rw [hasL_ne (by omega), if_neg h];simp only [pickB, cond_true, cond_false, Lg, flC_go];refine parse_tail b.toNat l 0 _ ?_;by_cases he : endE ((prog (b.toNat : Int)).run l 0) = 0
    ·rw [if_neg (by simpa using he), if_neg (by simpa using he)];have h2 := endE_0 he;obtain ⟨hs, _⟩ := prog_inv (k := (b.toNat : Int)) (by omega) (s := l) (c := ((prog (b.toNat : Int)).run l 0).1) (by rw [← h2]);obtain ⟨z1, z2, z3⟩ := shp_sizes hs;rw [check_eq _ (by omega) (by omega) (by omega)]
    ·rw [if_pos he, if_pos he]
theorem kb {k : Int} (h : 1 ≤ k ∧ k ≤ 8) : be 1 k = [k.toNat.toUInt8] := by
 rcases kinds h with h | h | h | h | h | h | h | h <;> subst h <;> rfl
theorem kb' {k : Int} (h : 1 ≤ k ∧ k ≤ 8) : ((k.toNat.toUInt8).toNat : Int) = k := byte_of (by omega) (by omega)
theorem spec_cons {k : Int} (h : 1 ≤ k ∧ k ≤ 8) (l : List UInt8) : specP (be 1 k ++ l) = if endE ((prog k).run l 0) ≠ 0 then some (noC, endE ((prog k).run l 0)) else
   (gae ((prog k).run l 0).1).bind fun v => if v ≠ 0 then some (noC, v) else some (((prog k).run l 0).1, 0) := by
 rw [kb h];show specP (k.toNat.toUInt8 :: l) = _;unfold specP;dsimp only;rw [kb' h];rw [if_neg (by omega)]
theorem spec_of {c : Cmd} {l : List UInt8} (h : Shp c l) (hc : gae c = some 0) : specP (be 1 c.fa ++ l) = some (c, 0) := by
 rw [spec_cons (shp_kind h), prog_fwd h];show (if endE (c, [], 0) ≠ 0 then _ else _) = _;rw [if_neg (by simp [endE])];simp only [hc, Lg];rfl
end Go.Proofs
end
section
namespace Go.Proofs
open Go.Ab
def nums (l : List UInt8) : List Int := l.map fun b => (b.toNat : Int)
theorem nums_app (a b : List UInt8) : nums (a ++ b) = nums a ++ nums b := List.map_append
theorem nums_len (a : List UInt8) : lenL (nums a) = (a.length : Int) := by unfold lenL nums; rw [List.length_map]
theorem str_nums (l : List UInt8) : strOfNums (nums l) = ofB l := bytes_ext (by
 rw [nums_b, ofB_b];unfold nums;rw [List.map_map];have : ∀ b : UInt8, ((fun n : Int => n.toNat.toUInt8) ∘ fun b : UInt8 => (b.toNat : Int)) b = b := fun b => by simp
 rw [List.map_congr_left fun b _ => this b, List.map_id'])
theorem numsOf_of (l : List UInt8) : numsOf (ofB l) = nums l := numsOf_ofB l
theorem be_high : ∀ (n : Nat) (x : Int), be (n + 1) x = ((x / 256 ^ n) % 256).toNat.toUInt8 :: be n x
 | 0, x => by simp [be]
 | n + 1, x => by
   rw [be, be_high n (x / 256), be]
   have : x / 256 / 256 ^ n = x / 256 ^ (n + 1) := by
    rw [Int.pow_succ, Int.mul_comm, ← Int.ediv_ediv_of_nonneg (by omega)]
   rw [this];rfl
theorem cvtu8 (x : Int) : cvtI .u8 x = x % 256 := by unfold cvtI; rw [IntKind.wrap_u8']
theorem wnum_loop2 (x : Int) (s1 : Int × List Int) (hs : s1.1 = 0) (h0 : 0 ≤ x) : ∀ (m : Nat) (acc : List UInt8), m ≤ 8 → acc.length + m ≤ 1000000 →
  loopF (gf.loop2 [x] s1) ((m : Int) - 1, nums acc) = some (.go (nums (acc ++ be m x)))
 | 0, acc, _, _ => by
   rw [loopF_eq];simp only [gf.loop2];rw [leI_f (by omega)];simp [be]
 | m + 1, acc, hm, ha => by
   rw [loopF_eq];simp only [gf.loop2];have e1 : (((m + 1 : Nat) : Int) - 1) = (m : Int) := by omega
   rw [e1, leI_t (by omega), mulI_n (by omega) (by omega), Lf (show NonN _ by unfold NonN; omega), Lf (show AppB _ _ _ from ⟨by rw [nums_len]; omega, by rw [nums_len]; omega⟩), subI_n (by omega) (by omega), hs]
   have e2 : cvtI .u8 (shrI .u64 (nthI [x] 0) (8 * (m : Int))) = (((x / 256 ^ m) % 256).toNat.toUInt8.toNat : Int) := by
    rw [cvtu8, byte_of (by omega) (by omega)];unfold shrI;rw [show nthI [x] 0 = x from rfl]
    have : (2 : Int) ^ (min (8 * (m : Int)).toNat IntKind.u64.bits) = 256 ^ m := by
     have e3 : min (8 * (m : Int)).toNat IntKind.u64.bits = 8 * m := by
      have : IntKind.u64.bits = 64 := rfl;omega
     rw [e3, Int.pow_mul];rfl
    rw [this, Int.fdiv_eq_ediv_of_nonneg _ (by exact Int.pow_nonneg (by omega))]
   rw [e2];simp only [cond_true]
   have e4 : appL (nums acc) [(((x / 256 ^ m) % 256).toNat.toUInt8.toNat : Int)] = nums (acc ++ [((x / 256 ^ m) % 256).toNat.toUInt8]) := by
    rw [nums_app]; rfl
   rw [e4, wnum_loop2 x s1 hs h0 m _ (by omega) (by simp; omega), be_high];simp
theorem wnum_d {n : Nat} (h1 : 1 ≤ n) (h8 : n ≤ 8) {x : Int} (h0 : 0 ≤ x) (acc : List UInt8) (ha : acc.length ≤ 900000) : gf (nums acc) (n : Int) [x] = some (nums (acc ++ be n x)) := by
 unfold gf;have hm : minI (maxI (n : Int) 1) 8 = (n : Int) := by rw [minI_d, maxI_d]; omega
 rw [loopF_eq];simp only [gf.loop1, hm];rw [ltI_t (show (0 : Int) < lenL [x] by show (0 : Int) < 1; omega), Lf (show InB 0 (lenL [x]) from ⟨by omega, by show (0 : Int) < 1; omega⟩), subI_n (by omega) (by omega), wnum_loop2 x _ rfl h0 n acc (by omega) (by omega)];simp only [cond_true, Lg, flC_go];rw [addI_n (by omega) (by omega), loopF_eq];simp only [gf.loop1];rw [ltI_f (show ¬ (0 + 1 : Int) < lenL [x] by show ¬ ((0 : Int) + 1 < 1); omega)];rfl
theorem cvtu64 {x : Int} (h0 : 0 ≤ x) (h1 : x < 18446744073709551616) : cvtI .u64 x = x := by unfold cvtI; exact wrapU64 h0 h1
theorem cvtu16 {x : Int} (h0 : 0 ≤ x) (h1 : x < 65536) : cvtI .u16 x = x := by unfold cvtI; rw [IntKind.wrap_u16]; omega
theorem u16w {x : Int} (h0 : 0 ≤ x) (h1 : x < 65536) (acc : List UInt8) (ha : acc.length ≤ 900000) : gl (nums acc) [cvtI .u16 x] = some (nums (acc ++ be 2 x)) := by
 rw [cvtu16 h0 h1];unfold gl;rw [loopF_eq];simp only [gl.loop1];have := wnum_d (n := 2) (by omega) (by omega) h0 acc ha;rw [show ((2 : Nat) : Int) = 2 from rfl] at this;rw [ltI_t (show (0 : Int) < lenL [x] by show (0 : Int) < 1; omega), Lf (show InB 0 (lenL [x]) from ⟨by omega, by show (0 : Int) < 1; omega⟩), show nthI [x] 0 = x from rfl, cvtu64 h0 (by omega), this];simp only [cond_true, Lg];rw [addI_n (by omega) (by omega), loopF_eq];simp only [gl.loop1];rw [ltI_f (show ¬ (0 + 1 : Int) < lenL [x] by show ¬ ((0 : Int) + 1 < 1); omega)];rfl
theorem be_flat_len (n : Nat) (l : List Int) : (l.flatMap (be n)).length = l.length * n := by
 induction l with
 | nil => simp
 | cons a t ih => rw [List.flatMap_cons, List.length_append, ih, be_len, List.length_cons, Nat.succ_mul]; omega
theorem u32w (ss : List Int) (hs : ∀ x ∈ ss, 0 ≤ x ∧ x < 4294967296) (hl : ss.length < 256) : ∀ (t p : List Int) (acc : List UInt8), ss = p ++ t → acc.length + 4 * t.length ≤ 900000 →
  loopF (gm.loop1 ss) ((p.length : Int), nums acc) = some (.go (nums (acc ++ t.flatMap (be 4))))
 | [], p, acc, h, ha => by
   rw [loopF_eq];simp only [gm.loop1];rw [ltI_f (by unfold lenL; rw [h]; simp)];simp
 | x :: t, p, acc, h, ha => by
   have hx := hs x (by rw [h]; simp);have hL : ss.length = p.length + (t.length + 1) := by rw [h]; simp
   rw [List.length_cons] at ha;rw [loopF_eq];simp only [gm.loop1]
   have hn : nthI ss (p.length : Int) = x := by
    unfold nthI;rw [h];simp
   have := wnum_d (n := 4) (by omega) (by omega) hx.1 acc (by omega);rw [show ((4 : Nat) : Int) = 4 from rfl] at this;rw [ltI_t (by unfold lenL; omega), Lf (show InB _ _ from ⟨by omega, by unfold lenL; omega⟩), hn, cvtu64 hx.1 (by omega), this];simp only [cond_true, Lg];rw [addI_n (by omega) (by omega)];have ih := u32w ss hs hl t (p ++ [x]) (acc ++ be 4 x) (by rw [h]; simp) (by rw [List.length_append, be_len]; omega);rw [List.flatMap_cons, ← List.append_assoc, ← ih];congr 2;simp
theorem u32w_d {ss : List Int} (hs : ∀ x ∈ ss, 0 ≤ x ∧ x < 4294967296) (hl : ss.length < 256) (acc : List UInt8) (ha : acc.length ≤ 10000) : gm (nums acc) ss = some (nums (acc ++ ss.flatMap (be 4))) := by
 unfold gm;have := u32w ss hs hl ss [] acc rfl (by omega);rw [show (([] : List Int).length : Int) = 0 from rfl] at this;rw [this];rfl
theorem put_d (s : List UInt8) (hs : 0 < s.length) (hl : s.length < 256) (acc : List UInt8) (ha : acc.length ≤ 900000) : gn (nums acc) [ofB s] = some (nums (acc ++ s)) := by
 unfold gn;rw [loopF_eq];simp only [gn.loop1];rw [ltI_t (show (0 : Int) < lenL [ofB s] by show (0 : Int) < 1; omega), Lf (show InB 0 (lenL [ofB s]) from ⟨by omega, by show (0 : Int) < 1; omega⟩), show nthI [ofB s] 0 = ofB s from rfl, lenS_of, Lf (by omega), Lf (show AppB _ _ _ from ⟨by rw [nums_len]; omega, by rw [nums_len]; omega⟩), numsOf_of];simp only [cond_true];rw [addI_n (by omega) (by omega), loopF_eq];simp only [gn.loop1];rw [ltI_f (show ¬ (0 + 1 : Int) < lenL [ofB s] by show ¬ ((0 : Int) + 1 < 1); omega), ← show appL (nums acc) (nums s) = nums (acc ++ s) from (nums_app acc s).symm];rfl
def outL (c : Cmd) (x : Int) : List UInt8 :=
 if x = 114 then be 1 (lenS c.fc) ++ bytesOf c.fc ++ be 1 (lenS c.fe) ++ bytesOf c.fe
 else if x = 112 then be 2 c.fd
 else if x = 111 then be 2 c.fOf
 else if x = 116 then be 1 c.fg
 else if x = 108 then be 1 c.fh
 else if x = 98 then [bitB c.fOn]
 else if x = 115 then bitB c.ff :: (be 1 (lenL c.fb) ++ c.fb.flatMap (be 4))
 else []
structure Rng (c : Cmd) : Prop where
 room : c.fc.size < 256
 name : c.fe.size < 256
 peer : 0 ≤ c.fd ∧ c.fd < 65536
 of : 0 ≤ c.fOf ∧ c.fOf < 65536
 track : 0 ≤ c.fg ∧ c.fg < 256
 layer : 0 ≤ c.fh ∧ c.fh < 256
 len : c.fb.length < 256
 srcs : ∀ x ∈ c.fb, 0 ≤ x ∧ x < 4294967296
theorem app1 (acc : List UInt8) (x : Int) : appL (nums acc) [cvtI .u8 x] = nums (acc ++ be 1 x) := by
 have hb : be 1 x = [(x % 256).toNat.toUInt8] := by simp [be]
 rw [nums_app, hb, cvtu8];unfold appL;congr 1;show [x % 256] = [((x % 256).toNat.toUInt8.toNat : Int)];rw [byte_of (by omega) (by omega)]
theorem bit_d (b : Bool) : gY b = some ((bitB b).toNat : Int) := by cases b <;> rfl
theorem outL_len {c : Cmd} (h : Rng c) (x : Int) : (outL c x).length ≤ 2000 := by
 have a := h.room; have b := h.name; have d := h.len;unfold outL
 repeat' split
 all_goals simp only [List.length_append, List.length_cons, List.length_nil, be_len, be_flat_len, bytesOf_len]
 all_goals omega
theorem text_loop {c : Cmd} (hc : Rng c) (r : ByteArray) : ∀ (xs : List Int) (pos : Nat) (acc : List UInt8), scan r pos = xs → (114 ∈ xs → 0 < c.fc.size ∧ 0 < c.fe.size) → acc.length + 2000 * xs.length ≤ 10000 →
  loopF (gi.loop1 c r) (nums acc, pos) = some (.go (nums (acc ++ xs.flatMap (outL c)))) := by
 intro xs
 induction xs with
 | nil =>
   intro pos acc hs _ _
   have h : restS r pos = [] := by
    by_cases h : restS r pos = []
    ·exact h
    ·rw [scan_t h] at hs; cases hs
   rw [loopF_eq];simp only [gi.loop1, nextB_f h];simp
 | cons x xs ih =>
   intro pos acc hs hx ha;have h : restS r pos ≠ [] := fun h => by rw [scan_f h] at hs; cases hs
   rw [scan_t h] at hs;obtain ⟨hr, hs2⟩ := List.cons.inj hs;have hlen := outL_len hc x;rw [List.length_cons] at ha;rw [List.flatMap_cons, ← List.append_assoc, ← ih (stepS r pos) (acc ++ outL c x) hs2 (fun m => hx (List.mem_cons_of_mem _ m)) (by rw [List.length_append]; omega), loopF_eq];have hA : ∀ {q : List UInt8} {m : Int}, q.length ≤ 20000 → m ≤ 1000 → AppB (lenL (nums q)) m 1 := fun {q m} hq hm => ⟨by rw [nums_len]; omega, by rw [nums_len]; omega⟩;have a0 := hc.room; have b0 := hc.name; have d0 := hc.len;simp only [gi.loop1, nextB_t h, cond_true, hr, eqI_d];by_cases h1 : x = 114
   ·subst h1;obtain ⟨y1, y2⟩ := hx (by simp);have g1 := put_d (bytesOf c.fc) (by rw [bytesOf_len]; omega) (by rw [bytesOf_len]; omega);have g2 := put_d (bytesOf c.fe) (by rw [bytesOf_len]; omega) (by rw [bytesOf_len]; omega);rw [ofB_of] at g1 g2;rw [Lf (hA (by omega) (by omega)), app1, g1 _ (by rw [List.length_append, be_len]; omega)];simp only [decide_true, cond_true, Lg];rw [Lf (hA (by simp [be_len, bytesOf_len]; omega) (by omega)), app1, g2 _ (by simp [be_len, bytesOf_len]; omega)];simp [outL]
   by_cases h2 : x = 112
   ·subst h2;rw [u16w hc.peer.1 hc.peer.2 acc (by omega)];simp [outL]
   by_cases h3 : x = 111
   ·subst h3;rw [u16w hc.of.1 hc.of.2 acc (by omega)];simp [outL]
   by_cases h4 : x = 116
   ·subst h4;rw [Lf (hA (by omega) (by omega)), app1];simp [outL, app1, Lf (hA (q := acc) (m := 1) (by omega) (by omega))]
   by_cases h5 : x = 108
   ·subst h5;rw [Lf (hA (by omega) (by omega)), app1];simp [outL, app1, Lf (hA (q := acc) (m := 1) (by omega) (by omega))]
   by_cases h6 : x = 98
   ·subst h6;rw [bit_d];simp only [Lg, Int.reduceEq, decide_true, decide_false, cond_true, cond_false];rw [Lf (hA (by omega) (by omega))];have : appL (nums acc) [((bitB c.fOn).toNat : Int)] = nums (acc ++ [bitB c.fOn]) := by rw [nums_app]; rfl
    rw [this];simp [outL]
   by_cases h7 : x = 115
   ·subst h7;rw [bit_d c.ff];simp only [Lg, Int.reduceEq, decide_true, decide_false, cond_true, cond_false];rw [Lf (hA (by omega) (by omega))]
    have : appL (nums acc) [((bitB c.ff).toNat : Int), cvtI .u8 (lenL c.fb)] = nums (acc ++ (bitB c.ff :: be 1 (lenL c.fb))) := by
     have := app1 (acc ++ [bitB c.ff]) (lenL c.fb);rw [List.append_assoc] at this;rw [show bitB c.ff :: be 1 (lenL c.fb) = [bitB c.ff] ++ be 1 (lenL c.fb) from rfl, ← this, nums_app];simp [appL, nums]
    rw [this, u32w_d hc.srcs hc.len _ (by simp only [List.length_append, List.length_cons, be_len]; omega)];simp [outL]
   ·simp [h1, h2, h3, h4, h5, h6, h7, outL]
theorem shp_rng {c : Cmd} {s : List UInt8} (h : Shp c s) : Rng c ∧ s = (runesL (hasL c.fa)).flatMap (outL c) := by
 have h0 : noS.size = 0 := rfl;have hz := shp_sizes h;cases h <;> refine ⟨⟨hz.1, hz.2.1, ?_, ?_, ?_, ?_, hz.2.2, ?_⟩, ?_⟩ <;> try simp only [r1, r2, r3, r4, r5, r6, r7, r8]
 all_goals first
  | exact ⟨by omega, by omega⟩
  | assumption
  | exact fun x hx => by cases hx
  | simp [outL, lenS_of, ofB_b, lenL]
theorem text_d {c : Cmd} {s : List UInt8} (h : Shp c s) (hn : c.fa = 1 → 0 < c.fc.size ∧ 0 < c.fe.size) : gi c = some (ofB (be 1 c.fa ++ s)) := by
 obtain ⟨hr, hs⟩ := shp_rng h;have hk := shp_kind h;unfold gi;have hb : be 1 c.fa = [c.fa.toNat.toUInt8] := kb hk;rw [Lf (show AppB 0 1 1 from ⟨by omega, by omega⟩), has_d];simp only [Lg]
 rw [show appL ([] : List Int) [cvtI .u8 c.fa] = nums (be 1 c.fa) from app1 [] c.fa, text_loop hr (ofB (hasL c.fa)) (runesL (hasL c.fa)) 0 (be 1 c.fa) (scan_has _) (fun m => hn (by
  by_cases q : c.fa = 1
  ·exact q
  ·exfalso;rcases kinds hk with e | e | e | e | e | e | e | e
   ·exact q e
   all_goals
    rw [e] at m;simp [r2, r3, r4, r5, r6, r7, r8] at m)) (by
  rw [be_len];rcases kinds hk with e | e | e | e | e | e | e | e <;> rw [e] <;> simp [r1, r2, r3, r4, r5, r6, r7, r8])]
 simp only [Lg, flC_go];rw [← hs, Lf, str_nums];refine ⟨fun q => ?_, fun x hx => ?_⟩
 ·rw [hb] at q; cases q
 ·unfold nums at hx;obtain ⟨b, _, rfl⟩ := List.mem_map.1 hx;have := b.toNat_lt;omega
end Go.Proofs
end
