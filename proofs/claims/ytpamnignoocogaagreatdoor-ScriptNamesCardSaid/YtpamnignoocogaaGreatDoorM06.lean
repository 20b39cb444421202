import Derived.Test.YtpamnignoocogaaGreatDoorM05
import Derived.Test.YtpamnignoocogaaGreatDoorM15
import Derived.Lib.UnsafeStr
import Derived.Test.YtpamnignoocogaaGreatDoorM04
import Derived.Test.YtpamnignoocogaaGreatDoorM09
import Derived.Lib.MapLaws
import Derived.Laws.Cover4
section
namespace Go.Proofs
end Go.Proofs
namespace Go.Ab
open Go.Proofs
@[simp] theorem bel_opq (m : Nat) (φ : Opq) : (AObj.opq φ).bel m ↔ True := Iff.rfl
@[simp] theorem wrO_bs (T E : TypeId) (bs : List Int) : (wrO T E bs).bs = bs := rfl
@[simp] def wrTextS (T E : TypeId) : Sp
  | [.ptr i 0], M => match M[i]? with
    | some (.opq φ) => some { av := .lit (.string (strOfNums φ.bs)), M := some (M.set i (.opq wrX)), obl := φ = wrO T E φ.bs ∧ TextB φ.bs }
    | _ => none
  | _, _ => none
theorem bytes_of {bs : List Int} (h : ∀ x ∈ bs, 0 ≤ x ∧ x < 256) : bs.map (Value.int .u8) = Lib.byteCells (bs.map fun n => n.toNat.toUInt8) := by
 simp only [Lib.byteCells, List.map_map];refine List.map_congr_left fun x hx => ?_;obtain ⟨h1, h2⟩ := h x hx;simp only [Function.comp, Nat.toUInt8, UInt8.toNat_ofNat'];congr 1;omega
theorem textW_ok {P : Program} {f : FuncId} {T E : TypeId} (hent : ∀ args w, (callFunc f args).run P w = .ok (.enter f args) w)
  (hS : ∀ (b g cap : Nat) (w : World) (p : Value) (l : List UInt8) (cur : Array Value), w.heap[b]? = some (.cells #[p, .slice (some ⟨g, 0, none⟩) l.length cap] T (0, 0)) → w.heap[g]? = some (.cells cur E (0, 0)) →
   l.length ≤ cap → cap ≤ maxLen → cur.size = cap → cur.toList.take l.length = Lib.byteCells l → l ≠ [] →
   Calls P f #[.pointer (some ⟨b, 0, none⟩)] w fun e w' => e = .returned (.string ⟨l.toArray⟩) ∧ WrKeep b (some g) w w' ∧ w'.heap.size = w.heap.size) : SpecOk P f (wrTextS T E) := by
 intro l M out h;unfold wrTextS at h;split at h
 ·rename_i i;split at h
  ·rename_i φ hMi;cases h;intro g vs hM sm hr ho;subst hM;obtain ⟨hφ, hne, hbb⟩ := ho;cases hr with | cons hv hr => cases hr with | nil =>
   cases hv with
   | ptr _ _ hi =>
   refine ⟨hent _ _, ?_⟩;have hq := sm.opq i φ hMi;rw [hφ] at hq;obtain ⟨p, v, h1, h2, h3⟩ := hq;rcases h3 with ⟨_, h, _⟩ | ⟨cap, cur, rfl, h4, h5, h6, h7, h8, h9⟩
   ·exact absurd h hne
   generalize hl : φ.bs.map (fun n => n.toNat.toUInt8) = ls;have hll : ls.length = φ.bs.length := by rw [← hl]; simp
   have hb : φ.bs.map (Value.int .u8) = Lib.byteCells ls := by rw [← hl]; exact bytes_of hbb
   have hstr : (⟨ls.toArray⟩ : ByteArray) = strOfNums φ.bs := by
    rw [← hl]; rfl
   simp only [wrO] at h1 h5 h6 h9;refine (hS (g.β i) (g.ρ i).b cap g.w p ls cur (by rw [hll]; exact h1) h5 (by omega) h7 h8 (by rw [hll, ← hb]; exact h9) (fun e => hne (List.eq_nil_of_length_eq_zero (by rw [← hll, e]; rfl)))).mono ?_;rintro e w' ⟨rfl, k1, k2⟩;obtain ⟨kk, ss⟩ := opq_turn sm hMi (φ' := wrX) (w' := w') (rb := (g.ρ i).b) k1.size ⟨k1.os, k1.output⟩ (fun k q1 q2 q3 => k1.block k q1 q2 (by simpa using q3)) (.inl rfl) trivial;refine ⟨_, rfl, g.β, _, ss, ?_, kk⟩;rw [hstr];exact .lit _
  ·cases h
 ·cases h
end Go.Ab
end
section
namespace Go.Proofs
open Go.Ab
noncomputable def gai (x0 : Int) : Option Bool :=
 some (pickB (leqI 2 x0) (leqI x0 8) false)
noncomputable def gao (x0 : Int) : Option Bool :=
 some (pickB (pickB (eqI x0 5) true (eqI x0 6)) true (eqI x0 8))
noncomputable def gaj (x0 : Int) : Option Bool :=
 some (pickB (leqI 3 x0) (leqI x0 8) false)
noncomputable def gal (x0 : Int) : Option Bool :=
 some (pickB (leqI 0 x0) (leqI x0 65535) false)
noncomputable def gT.loop2 (x0 : Ta) (s1 : Int) (s2 : Int) : Option (Fl Int (Fl Unit (Fl Int (Fl Unit Int)))) :=
 bif (ltI s2 s1) then (
  need (InB s1 (lenL x0.fb)) <|
  need (InB s2 (lenL x0.fb)) <|
  bif (eqI (nthI x0.fb s1) (nthI x0.fb s2)) then (
   some (.out (.out (.out (.out 10))))
  ) else (
    some (.go (addI .i64 s2 1))
  )
 ) else (
   some (.out (.go ()))
 )
noncomputable def gT.loop1 (x0 : Ta) (s1 : Int) : Option (Fl Int (Fl Unit Int)) :=
 bif (ltI s1 (lenL x0.fb)) then (
  ((loopF (gT.loop2 x0 s1) 0).bind fun f => flC f fun (_v2 : Unit) =>
    some (.go (addI .i64 s1 1))
  )
 ) else (
   some (.out (.go ()))
 )
noncomputable def gT (x0 : Ta) : Option Int :=
 bif (pickB (pickB (ltI (lenL x0.fb) 1) true (ltI 3 (lenL x0.fb))) true (pickB (ltI 1 (lenL x0.fb)) (notB x0.ff) false)) then (
  some 5
 ) else (
   ((loopF (gT.loop1 x0) 0).bind fun f => flC f fun (_v1 : Unit) =>
     some 0
   )
 )
noncomputable def gae (x0 : Ta) : Option Int :=
 bif (pickB (ltI x0.fa 1) true (ltI 8 x0.fa)) then (
  some 3
 ) else (
   need (Under (pickB (neI x0.fa 1) (pickB (neS x0.fc ⟨#[]⟩) true (neS x0.fe ⟨#[]⟩)) false) false ((gai x0.fa).isSome = true)) <|
   need (Under (pickB (pickB (neI x0.fa 1) (pickB (neS x0.fc ⟨#[]⟩) true (neS x0.fe ⟨#[]⟩)) false) true (pickB (notB ((gai x0.fa).getD dflt)) (neI x0.fd 0) false)) false ((gao x0.fa).isSome = true)) <|
   need (Under (pickB (pickB (pickB (neI x0.fa 1) (pickB (neS x0.fc ⟨#[]⟩) true (neS x0.fe ⟨#[]⟩)) false) true (pickB (notB ((gai x0.fa).getD dflt)) (neI x0.fd 0) false)) true (pickB (notB ((gao x0.fa).getD dflt)) (neI x0.fOf 0) false)) false ((gaj x0.fa).isSome = true)) <|
   bif (pickB (pickB (pickB (pickB (neI x0.fa 1) (pickB (neS x0.fc ⟨#[]⟩) true (neS x0.fe ⟨#[]⟩)) false) true (pickB (notB ((gai x0.fa).getD dflt)) (neI x0.fd 0) false)) true (pickB (notB ((gao x0.fa).getD dflt)) (neI x0.fOf 0) false)) true (pickB (notB ((gaj x0.fa).getD dflt)) (neI x0.fg 0) false)) then (
    some 2
   ) else (
     bif (pickB (pickB (pickB (neI x0.fa 5) (neI x0.fh 0) false) true (pickB (pickB (neI x0.fa 7) (neI x0.fa 8) false) x0.fOn false)) true (pickB (neI x0.fa 3) (pickB x0.ff true (ltI 0 (lenL x0.fb))) false)) then (
      some 2
     ) else (
       ((gal x0.fd)).bind fun r1 =>
       need (Under (notB r1) false ((gal x0.fOf).isSome = true)) <|
       bif (pickB (pickB (pickB (pickB (pickB (notB r1) true (notB ((gal x0.fOf).getD dflt))) true (ltI x0.fg 0)) true (ltI 3 x0.fg)) true (ltI x0.fh 0)) true (ltI 2 x0.fh)) then (
        some 5
       ) else (
         need (Under (eqI x0.fa 1) true ((gE x0.fc).isSome = true)) <|
         need (Under (notB ((gE x0.fc).getD dflt)) false (Under (eqI x0.fa 1) true ((gE x0.fe).isSome = true))) <|
         bif (pickB (eqI x0.fa 1) (pickB (notB ((gE x0.fc).getD dflt)) true (notB ((gE x0.fe).getD dflt))) false) then (
          some 6
         ) else (
           bif (eqI x0.fa 3) then (
            ((gT x0)).bind fun r2 =>
            some r2
           ) else (
             some 0
           )
         )
       )
     )
   )
 )
noncomputable def gaA (x0 : Bool) : Option ByteArray :=
 bif x0 then (
  some ⟨#[1]⟩
 ) else (
   some ⟨#[0]⟩
 )
noncomputable def gav.loop6 (x0 : Ta) (s6 : Int × ByteArray) : Option (Fl (Int × ByteArray) (Fl ByteArray (Fl ByteArray ByteArray))) :=
 bif (ltI s6.1 (lenL x0.fb)) then (
  need (InB s6.1 (lenL x0.fb)) <|
  ((gaf 4 (cvtI .u64 (nthI x0.fb s6.1)))).bind fun r13 =>
  need (CatB s6.2 r13) <|
  some (.go ((addI .i64 s6.1 1), (catS s6.2 r13)))
 ) else (
   some (.out (.go s6.2))
 )
noncomputable def gav (x0 : Ta) : Option ByteArray :=
 ((gaf 1 (cvtI .u64 x0.fa))).bind fun r1 =>
 bif (eqI x0.fa 1) then (
  ((gaf 1 (cvtI .u64 (lenS x0.fc)))).bind fun r2 =>
  need (CatB r1 r2) <|
  need (CatB (catS r1 r2) x0.fc) <|
  ((gaf 1 (cvtI .u64 (lenS x0.fe)))).bind fun r3 =>
  need (CatB (catS (catS r1 r2) x0.fc) r3) <|
  need (CatB (catS (catS (catS r1 r2) x0.fc) r3) x0.fe) <|
  some (catS (catS (catS (catS r1 r2) x0.fc) r3) x0.fe)
 ) else (
   ((gaf 2 (cvtI .u64 x0.fd))).bind fun r4 =>
   need (CatB r1 r4) <|
   ((
    ((gao x0.fa)).bind fun r5 =>
    bif r5 then (
     ((gaf 2 (cvtI .u64 x0.fOf))).bind fun r6 =>
     need (CatB (catS r1 r4) r6) <|
     some (.go (catS (catS r1 r4) r6))
    ) else (
      some (.go (catS r1 r4))
    )
    : Option (Fl ByteArray ByteArray)).bind fun f => flC f fun (v1 : ByteArray) =>
    ((
     ((gaj x0.fa)).bind fun r7 =>
     bif r7 then (
      ((gaf 1 (cvtI .u64 x0.fg))).bind fun r8 =>
      need (CatB v1 r8) <|
      some (.go (catS v1 r8))
     ) else (
       some (.go v1)
     )
     : Option (Fl ByteArray ByteArray)).bind fun f => flC f fun (v2 : ByteArray) =>
     ((
      bif (eqI x0.fa 5) then (
       ((gaf 1 (cvtI .u64 x0.fh))).bind fun r9 =>
       need (CatB v2 r9) <|
       some (.go (catS v2 r9))
      ) else (
        some (.go v2)
      )
      : Option (Fl ByteArray ByteArray)).bind fun f => flC f fun (v3 : ByteArray) =>
      ((
       bif (leqI 7 x0.fa) then (
        ((gaA x0.fOn)).bind fun r10 =>
        need (CatB v3 r10) <|
        some (.go (catS v3 r10))
       ) else (
         some (.go v3)
       )
       : Option (Fl ByteArray ByteArray)).bind fun f => flC f fun (v4 : ByteArray) =>
       ((
        bif (eqI x0.fa 3) then (
         ((gaA x0.ff)).bind fun r11 =>
         ((gaf 1 (cvtI .u64 (lenL x0.fb)))).bind fun r12 =>
         need (CatB r11 r12) <|
         need (CatB v4 (catS r11 r12)) <|
         ((loopF (gav.loop6 x0) (0, (catS v4 (catS r11 r12)))).bind fun f => flC f fun (v6 : ByteArray) =>
           some (.go v6)
         )
        ) else (
          some (.go v4)
        )
        : Option (Fl ByteArray ByteArray)).bind fun f => flC f fun (v5 : ByteArray) =>
        some v5
       )
      )
     )
    )
   )
 )
end Go.Proofs
end
section
namespace Go.Ab
theorem eqI_d (a b : Int) : eqI a b = decide (a = b) := by
 unfold eqI; by_cases h : a = b <;> simp [h]
theorem neI_d (a b : Int) : neI a b = decide (a ≠ b) := by
 unfold neI; by_cases h : a = b <;> simp [h]
theorem ltI_d (a b : Int) : ltI a b = decide (a < b) := rfl
theorem leI_d (a b : Int) : leqI a b = decide (a ≤ b) := rfl
theorem eqI_t {a b : Int} (h : a = b) : eqI a b = true := by rw [eqI_d]; exact decide_eq_true h
theorem eqI_f {a b : Int} (h : a ≠ b) : eqI a b = false := by rw [eqI_d]; exact decide_eq_false h
theorem neI_t {a b : Int} (h : a ≠ b) : neI a b = true := by rw [neI_d]; exact decide_eq_true h
theorem neI_f {a b : Int} (h : a = b) : neI a b = false := by rw [neI_d]; exact decide_eq_false (fun q => q h)
theorem ltI_t {a b : Int} (h : a < b) : ltI a b = true := decide_eq_true h
theorem ltI_f {a b : Int} (h : ¬ a < b) : ltI a b = false := decide_eq_false h
theorem leI_t {a b : Int} (h : a ≤ b) : leqI a b = true := decide_eq_true h
theorem leI_f {a b : Int} (h : ¬ a ≤ b) : leqI a b = false := decide_eq_false h
theorem notB_d (a : Bool) : notB a = !a := rfl
theorem pickB_and (x y : Bool) : pickB x y false = (x && y) := by cases x <;> rfl
theorem pickB_or (x y : Bool) : pickB x true y = (x || y) := by cases x <;> rfl
theorem minI_d (a b : Int) : minI a b = min a b := rfl
theorem maxI_d (a b : Int) : maxI a b = max a b := rfl
theorem addI_n {a b : Int} (h0 : -9223372036854775808 ≤ a + b) (h1 : a + b < 9223372036854775808) : addI .i64 a b = a + b := wrap64_of h0 h1
theorem subI_n {a b : Int} (h0 : -9223372036854775808 ≤ a - b) (h1 : a - b < 9223372036854775808) : subI .i64 a b = a - b := wrap64_of h0 h1
theorem mulI_n {a b : Int} (h0 : -9223372036854775808 ≤ a * b) (h1 : a * b < 9223372036854775808) : mulI .i64 a b = a * b := wrap64_of h0 h1
theorem Lf {α : Type} {p : Prop} {x : Option α} (h : p) : need p x = x := by unfold need; rw [if_pos h]
@[simp] theorem flC_go {V X : Type} (v : V) (k : V → Option X) : flC (.go v) k = k v := rfl
@[simp] theorem flC_out {V X : Type} (x : X) (k : V → Option X) : flC (.out x) k = some x := rfl
@[simp] theorem Lg {α β : Type} (x : α) (k : α → Option β) : (some x).bind k = k x := rfl
@[simp] theorem getD_so {α : Type} (x y : α) : (some x).getD y = x := rfl
theorem under_of {e : Bool} {b : Bool} {p : Prop} (h : p) : Under e b p := fun _ => h
def RoundP {S T : Type} (I : S → Prop) (Q : T → Prop) (μ : S → Nat) (s : S) : Option (Fl S T) → Prop
 | some (.go s') => I s' ∧ μ s' < μ s
 | some (.out t) => Q t
 | none => False
theorem loop_ends {S T : Type} {body : S → Option (Fl S T)} (I : S → Prop) (Q : T → Prop) (μ : S → Nat) (h : ∀ s, I s → RoundP I Q μ s (body s)) (s : S) (hs : I s) : ∃ t, loopF body s = some t ∧ Q t :=
 loopF_ends I Q μ (fun s hI => by
  have q := h s hI;cases hb : body s with
  | none => rw [hb] at q; exact q.elim
  | some f =>
    rw [hb] at q;refine ⟨f, rfl, ?_⟩;cases f <;> exact q) s hs
end Go.Ab
end
section
namespace Go.Ab
open Go.Lib
def bytesOf (s : ByteArray) : List UInt8 := s.data.toList
theorem bytesOf_len (s : ByteArray) : (bytesOf s).length = s.size := Array.length_toList
theorem lenS_b (s : ByteArray) : lenS s = ((bytesOf s).length : Int) := by rw [bytesOf_len]; rfl
theorem bytes_ext {a b : ByteArray} (h : bytesOf a = bytesOf b) : a = b := by
 cases a; cases b;congr 1;exact Array.ext' h
theorem eqS_b (a b : ByteArray) : eqS a b = decide (bytesOf a = bytesOf b) := by
 by_cases h : a = b
 ·subst h; rw [(eqS_iff a a).2 rfl]; simp
 ·have : eqS a b = false := by
   cases e : eqS a b with
   | false => rfl
   | true => exact absurd ((eqS_iff a b).1 e) h
  rw [this, decide_eq_false];exact fun q => h (bytes_ext q)
theorem neS_b (a b : ByteArray) : neS a b = !eqS a b := rfl
theorem cutS_b (s : ByteArray) (l h : Int) : bytesOf (cutS s l h) = ((bytesOf s).drop l.toNat).take (h.toNat - l.toNat) := by
 simp [cutS, bytesOf, ByteArray.data_extract, List.extract_eq_take_drop]
theorem catS_b (a b : ByteArray) : bytesOf (catS a b) = bytesOf a ++ bytesOf b := by
 simp [catS, bytesOf]
theorem lit_b (l : List UInt8) : bytesOf ⟨l.toArray⟩ = l := by simp [bytesOf]
theorem enc_b (r : Int) : bytesOf (Utf8.encode r) = encodeRune r := by
 unfold encodeRune;by_cases h : (0 ≤ r ∧ r < 55296) ∨ (57344 ≤ r ∧ r ≤ 1114111)
 ·have hv : Utf8.valid r = true := by simp [Utf8.valid]; omega
  obtain ⟨n, rfl⟩ : ∃ n : Nat, r = n := ⟨r.toNat, by omega⟩;unfold Utf8.encode;rw [if_pos hv];simp only [Int.toNat_natCast];by_cases h1 : n < 128
  ·rw [encodeRuneZ_one (by omega) (by omega), if_pos h1];simp [bytesOf]
  rw [if_neg h1];by_cases h2 : n < 2048
  ·rw [encodeRuneZ_two (by omega) (by omega), if_pos h2];have e1 : ((192 + (n : Int) / 64)).toNat = 192 + n / 64 := by omega
   have e2 : ((128 + (n : Int) % 64)).toNat = 128 + n % 64 := by omega
   simp [bytesOf, e1, e2]
  rw [if_neg h2];by_cases h3 : n < 65536
  ·rw [encodeRuneZ_three (by omega), if_pos h3];have e1 : ((224 + (n : Int) / 4096)).toNat = 224 + n / 4096 := by omega
   have e2 : ((128 + (n : Int) / 64 % 64)).toNat = 128 + n / 64 % 64 := by omega
   have e3 : ((128 + (n : Int) % 64)).toNat = 128 + n % 64 := by omega
   simp [bytesOf, e1, e2, e3]
  ·rw [encodeRuneZ_four (by omega) (by omega), if_neg h3];have e0 : ((240 + (n : Int) / 262144)).toNat = 240 + n / 262144 := by omega
   have e1 : ((128 + (n : Int) / 4096 % 64)).toNat = 128 + n / 4096 % 64 := by omega
   have e2 : ((128 + (n : Int) / 64 % 64)).toNat = 128 + n / 64 % 64 := by omega
   have e3 : ((128 + (n : Int) % 64)).toNat = 128 + n % 64 := by omega
   simp [bytesOf, e0, e1, e2, e3]
 ·have hv : Utf8.valid r = false := by
   cases e : Utf8.valid r with
   | false => rfl
   | true =>
     simp [Utf8.valid] at e;omega
  rw [encodeRuneZ_bad (by omega)];unfold Utf8.encode;simp only [hv, Bool.false_eq_true, if_false, Utf8.runeError];decide
theorem runes_foldl : ∀ (ns : List Int) (a : ByteArray), bytesOf (ns.foldl (fun r n => r ++ Utf8.encode n) a) = bytesOf a ++ ns.flatMap encodeRune
 | [], a => by simp
 | n :: ns, a => by
   rw [List.foldl_cons, runes_foldl ns, List.flatMap_cons, ← enc_b];simp [bytesOf]
theorem runes_b (ns : List Int) : bytesOf (runesBytes ns) = ns.flatMap encodeRune := by
 unfold runesBytes;rw [runes_foldl];rfl
theorem nums_b (ns : List Int) : bytesOf (strOfNums ns) = ns.map fun n => n.toNat.toUInt8 := by
 simp [strOfNums, bytesOf]
theorem numsRune_b (ns : List Int) : bytesOf (strOfNums (ns.flatMap runeZ)) = ns.flatMap encodeRune := by
 rw [nums_b, List.map_flatMap];rfl
theorem enc_len (r : Int) : 1 ≤ (encodeRune r).length ∧ (encodeRune r).length ≤ 4 := by
 have := encodeRuneZ_length r;simpa [encodeRune] using this
def runesF : Nat → List UInt8 → List Int
 | 0, _ => []
 | n + 1, l => match l with
   | [] => []
   | a :: t => ((decodeL (a :: t)).1 : Int) :: runesF n ((a :: t).drop (decodeL (a :: t)).2)
def runesL (l : List UInt8) : List Int := runesF l.length l
theorem runesF_fuel : ∀ (n m : Nat) (l : List UInt8), l.length ≤ n → l.length ≤ m → runesF n l = runesF m l
 | 0, 0, _, _, _ => rfl
 | 0, m + 1, l, h, _ => by
   have : l = [] := List.eq_nil_of_length_eq_zero (by omega);subst this; rfl
 | n + 1, 0, l, _, h => by
   have : l = [] := List.eq_nil_of_length_eq_zero (by omega);subst this; rfl
 | n + 1, m + 1, [], _, _ => rfl
 | n + 1, m + 1, a :: t, h, h' => by
   have hw := decodeL_width (a :: t);simp only [runesF];rw [runesF_fuel n m _ (by rw [List.length_drop]; omega) (by rw [List.length_drop]; omega)]
theorem runesL_nil : runesL [] = [] := rfl
theorem runesL_cons {l : List UInt8} (h : l ≠ []) : runesL l = ((decodeL l).1 : Int) :: runesL (l.drop (decodeL l).2) := by
 cases l with
 | nil => exact absurd rfl h
 | cons a t =>
   have hw := decodeL_width (a :: t);unfold runesL;simp only [List.length_cons, runesF];rw [runesF_fuel t.length _ _ (by rw [List.length_drop]; simp only [List.length_cons]; omega) (Nat.le_refl _)]
theorem rune_rng (l : List UInt8) : 0 ≤ ((decodeL l).1 : Int) ∧ ((decodeL l).1 : Int) ≤ 1114111 := by
 have := decodeL_rune l;omega
theorem runesL_rng : ∀ (n : Nat) (l : List UInt8), l.length ≤ n → ∀ r ∈ runesL l, 0 ≤ r ∧ r ≤ 1114111
 | n, [], _, r, hr => by cases hr
 | 0, a :: t, h, _, _ => by simp at h
 | n + 1, a :: t, h, r, hr => by
   have hw := decodeL_width (a :: t);rw [runesL_cons (by simp)] at hr;rcases List.mem_cons.1 hr with rfl | hr
   ·exact rune_rng _
   ·exact runesL_rng n _ (by rw [List.length_drop]; omega) r hr
theorem runesL_len : ∀ (n : Nat) (l : List UInt8), l.length ≤ n → (runesL l).length ≤ l.length ∧ l.length ≤ 4 * (runesL l).length
 | n, [], _ => by simp [runesL_nil]
 | 0, a :: t, h => by simp at h
 | n + 1, a :: t, h => by
   have hw := decodeL_width (a :: t)
   have hw4 : (decodeL (a :: t)).2 ≤ 4 := by
    rw [decodeL_N];rcases decodeN_shape (a :: t).length ((a :: t).getD 0 0).toNat ((a :: t).getD 1 0).toNat ((a :: t).getD 2 0).toNat ((a :: t).getD 3 0).toNat with ⟨c, e⟩ | ⟨c1, c2, c3, cv, e⟩ | ⟨c1, c2, c3, c4, cv, cs, e⟩ | ⟨c1, c2, c3, c4, c5, cv, cw, e⟩ | e
    all_goals (rw [e]; dsimp only; omega)
   have ih := runesL_len n ((a :: t).drop (decodeL (a :: t)).2) (by rw [List.length_drop]; omega);rw [runesL_cons (by simp)];rw [List.length_drop] at ih;simp only [List.length_cons] at ih ⊢;omega
def restS (s : ByteArray) (pos : Nat) : List UInt8 := (bytesOf s).drop pos
theorem restS_0 (s : ByteArray) : restS s 0 = bytesOf s := rfl
theorem restS_len (s : ByteArray) (pos : Nat) : (restS s pos).length = s.size - pos := by simp [restS, bytesOf_len]
theorem nextB_t {s : ByteArray} {pos : Nat} (h : restS s pos ≠ []) : nextB s pos = true := by
 have : 0 < (restS s pos).length := List.length_pos_iff.2 h;rw [restS_len] at this;simp [nextB]; omega
theorem nextB_f {s : ByteArray} {pos : Nat} (h : restS s pos = []) : nextB s pos = false := by
 have : (restS s pos).length = 0 := by rw [h]; rfl
 rw [restS_len] at this;simp [nextB]; omega
theorem runeS_d (s : ByteArray) (pos : Nat) : runeS s pos = ((decodeL (restS s pos)).1 : Int) := by
 unfold runeS restS bytesOf;rw [decodeL_drop]
theorem stepS_d (s : ByteArray) (pos : Nat) : stepS s pos = pos + (decodeL (restS s pos)).2 := by
 unfold stepS restS bytesOf;rw [decodeL_drop]
theorem restS_step (s : ByteArray) (pos : Nat) : restS s (stepS s pos) = (restS s pos).drop (decodeL (restS s pos)).2 := by
 rw [stepS_d];simp [restS, List.drop_drop]
theorem step_gt (s : ByteArray) (pos : Nat) : pos < stepS s pos := by
 rw [stepS_d];have := decodeL_width (restS s pos);omega
theorem rune_I32 (s : ByteArray) (pos : Nat) : I32B (runeS s pos) := by
 rw [runeS_d];have := rune_rng (restS s pos);exact ⟨by omega, by omega⟩
def scan (s : ByteArray) (pos : Nat) : List Int := runesL (restS s pos)
theorem scan_t {s : ByteArray} {pos : Nat} (h : restS s pos ≠ []) : scan s pos = runeS s pos :: scan s (stepS s pos) := by
 unfold scan;rw [runesL_cons h, restS_step, runeS_d]
theorem scan_f {s : ByteArray} {pos : Nat} (h : restS s pos = []) : scan s pos = [] := by
 unfold scan;rw [h]; rfl
theorem scan_rng (s : ByteArray) (pos : Nat) : ∀ r ∈ scan s pos, 0 ≤ r ∧ r ≤ 1114111 := runesL_rng _ _ (Nat.le_refl _)
theorem scan_len (s : ByteArray) (pos : Nat) : (scan s pos).length ≤ s.size - pos ∧ s.size - pos ≤ 4 * (scan s pos).length := by
 have := runesL_len _ (restS s pos) (Nat.le_refl _);rw [restS_len] at this;exact this
theorem dec_enc {r : Int} (h : (0 ≤ r ∧ r < 55296) ∨ (57344 ≤ r ∧ r ≤ 1114111)) (t : List UInt8) : ((decodeL (encodeRune r ++ t)).1 : Int) = r ∧ (decodeL (encodeRune r ++ t)).2 = (encodeRune r).length := by
 obtain ⟨n, rfl⟩ : ∃ n : Nat, r = n := ⟨r.toNat, by omega⟩;rw [decodeL_N];unfold encodeRune;by_cases h1 : n < 128
 ·rw [encodeRuneZ_one (by omega) (by omega)];have e : ((n : Int).toNat.toUInt8).toNat = n := by simp; omega
  simp only [List.map_cons, List.map_nil, List.cons_append, List.nil_append, List.getD_cons_zero, e];unfold decodeN;rw [if_pos h1];exact ⟨rfl, rfl⟩
 by_cases h2 : n < 2048
 ·rw [encodeRuneZ_two (by omega) (by omega)]
  have e0 : ((192 + (n : Int) / 64).toNat.toUInt8).toNat = 192 + n / 64 := by
   rw [show (192 + (n : Int) / 64).toNat = 192 + n / 64 by omega]; simp; omega
  have e1 : ((128 + (n : Int) % 64).toNat.toUInt8).toNat = 128 + n % 64 := by
   rw [show (128 + (n : Int) % 64).toNat = 128 + n % 64 by omega]; simp; omega
  simp only [List.map_cons, List.map_nil, List.cons_append, List.nil_append, List.getD_cons_zero, List.getD_cons_succ, e0, e1, List.length_cons];unfold decodeN;rw [if_neg (by omega), if_pos (by omega), if_pos (by omega)];refine ⟨?_, rfl⟩;dsimp only; omega
 by_cases h3 : n < 65536
 ·rw [encodeRuneZ_three (by omega)]
  have e0 : ((224 + (n : Int) / 4096).toNat.toUInt8).toNat = 224 + n / 4096 := by
   rw [show (224 + (n : Int) / 4096).toNat = 224 + n / 4096 by omega]; simp; omega
  have e1 : ((128 + (n : Int) / 64 % 64).toNat.toUInt8).toNat = 128 + n / 64 % 64 := by
   rw [show (128 + (n : Int) / 64 % 64).toNat = 128 + n / 64 % 64 by omega]; simp; omega
  have e2 : ((128 + (n : Int) % 64).toNat.toUInt8).toNat = 128 + n % 64 := by
   rw [show (128 + (n : Int) % 64).toNat = 128 + n % 64 by omega]; simp; omega
  simp only [List.map_cons, List.map_nil, List.cons_append, List.nil_append, List.getD_cons_zero, List.getD_cons_succ, e0, e1, e2, List.length_cons];unfold decodeN;rw [if_neg (by omega), if_neg (by omega), if_pos (by omega), if_pos (by omega)];refine ⟨?_, rfl⟩;dsimp only; omega
 ·rw [encodeRuneZ_four (by omega) (by omega)]
  have e0 : ((240 + (n : Int) / 262144).toNat.toUInt8).toNat = 240 + n / 262144 := by
   rw [show (240 + (n : Int) / 262144).toNat = 240 + n / 262144 by omega]; simp; omega
  have e1 : ((128 + (n : Int) / 4096 % 64).toNat.toUInt8).toNat = 128 + n / 4096 % 64 := by
   rw [show (128 + (n : Int) / 4096 % 64).toNat = 128 + n / 4096 % 64 by omega]; simp; omega
  have e2 : ((128 + (n : Int) / 64 % 64).toNat.toUInt8).toNat = 128 + n / 64 % 64 := by
   rw [show (128 + (n : Int) / 64 % 64).toNat = 128 + n / 64 % 64 by omega]; simp; omega
  have e3 : ((128 + (n : Int) % 64).toNat.toUInt8).toNat = 128 + n % 64 := by
   rw [show (128 + (n : Int) % 64).toNat = 128 + n % 64 by omega]; simp; omega
  simp only [List.map_cons, List.map_nil, List.cons_append, List.nil_append, List.getD_cons_zero, List.getD_cons_succ, e0, e1, e2, e3, List.length_cons];unfold decodeN;rw [if_neg (by omega), if_neg (by omega), if_neg (by omega), if_pos (by omega), if_pos (by omega)];refine ⟨?_, rfl⟩;dsimp only; omega
def ValidR (r : Int) : Prop := (0 ≤ r ∧ r < 55296) ∨ (57344 ≤ r ∧ r ≤ 1114111)
theorem dec_valid (l : List UInt8) : ValidR ((decodeL l).1 : Int) := by
 unfold ValidR;rw [decodeL_N];have k0 := (l.getD 0 0).toNat_lt;have k1 := (l.getD 1 0).toNat_lt;rcases decodeN_shape l.length (l.getD 0 0).toNat (l.getD 1 0).toNat (l.getD 2 0).toNat (l.getD 3 0).toNat with ⟨c, e⟩ | ⟨c1, c2, c3, cv, e⟩ | ⟨c1, c2, c3, c4, cv, cs, e⟩ | ⟨c1, c2, c3, c4, c5, cv, cw, e⟩ | e
 all_goals (rw [e]; dsimp only; omega)
theorem runesL_valid : ∀ (n : Nat) (l : List UInt8), l.length ≤ n → ∀ r ∈ runesL l, ValidR r
 | n, [], _, r, hr => by cases hr
 | 0, a :: t, h, _, _ => by simp at h
 | n + 1, a :: t, h, r, hr => by
   have hw := decodeL_width (a :: t);rw [runesL_cons (by simp)] at hr;rcases List.mem_cons.1 hr with rfl | hr
   ·exact dec_valid _
   ·exact runesL_valid n _ (by rw [List.length_drop]; omega) r hr
theorem enc_runes : ∀ (n : Nat) (l : List UInt8), l.length ≤ n → 65533 ∉ runesL l → (runesL l).flatMap encodeRune = l
 | n, [], _, _ => rfl
 | 0, a :: t, h, _ => by simp at h
 | n + 1, a :: t, h, hn => by
   have hw := decodeL_width (a :: t);rw [runesL_cons (by simp)] at hn ⊢;simp only [List.mem_cons, not_or] at hn;rw [List.flatMap_cons, enc_runes n _ (by rw [List.length_drop]; omega) hn.2, encode_decode (a :: t) (by simp) (fun q => hn.1 (by rw [q.1]; rfl)), List.take_append_drop]
end Go.Ab
end
