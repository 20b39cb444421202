import Derived.Test.YtoiieebljbhpbaaGreatDoorTs
import Derived.Test.YtoiieebljbhpbaaGreatDoorM13
import Derived.Test.YtoiieebljbhpbaaGreatDoorM08
import Derived.Test.YtoiieebljbhpbaaGreatDoorM04
section
namespace Go.Proofs
open Go.Ab
noncomputable def gu.loop1 (x0 : Te) (x1 : Int) (x2 : Int) (s1 : Int × List Tp) : Option (Fl (Int × List Tp) (Fl (List Tp) Te)) :=
 bif (ltI s1.1 (lenL x0.fa)) then (
  need (InB s1.1 (lenL x0.fa)) <|
  bif (pickB (neI ((nthI x0.fa s1.1).fc) x1) true (neI ((nthI x0.fa s1.1).fN) x2)) then (
   need (AppB (lenL s1.2) 1 48) <|
   some (.go ((addI .i64 s1.1 1), (appL s1.2 [(nthI x0.fa s1.1)])))
  ) else (
    some (.go ((addI .i64 s1.1 1), s1.2))
  )
 ) else (
   some (.out (.go s1.2))
 )
noncomputable def gu.loop2 (x0 : Te) (x1 : Int) (x2 : Int) (s2 : Int × List Tg) : Option (Fl (Int × List Tg) (Fl (List Tg) Te)) :=
 bif (ltI s2.1 (lenL x0.fd)) then (
  need (InB s2.1 (lenL x0.fd)) <|
  bif (pickB (neI ((nthI x0.fd s2.1).fc) x1) true (neI ((nthI x0.fd s2.1).fN) x2)) then (
   need (AppB (lenL s2.2) 1 40) <|
   some (.go ((addI .i64 s2.1 1), (appL s2.2 [(nthI x0.fd s2.1)])))
  ) else (
    some (.go ((addI .i64 s2.1 1), s2.2))
  )
 ) else (
   some (.out (.go s2.2))
 )
noncomputable def gu (x0 : Te) (x1 : Int) (x2 : Int) : Option Te :=
 ((loopF (gu.loop1 x0 x1 x2) (0, [])).bind fun f => flC f fun (v1 : List Tp) =>
   ((loopF (gu.loop2 x0 x1 x2) (0, [])).bind fun f => flC f fun (v2 : List Tg) =>
     some (Te.mk x0.fT v1 v2)
   )
 )
noncomputable def gz.loop1 (x1 : Int) (s1 : Int × Te) : Option (Fl (Int × Te) (Fl Te Te)) :=
 bif (ltI s1.1 4) then (
  ((gu s1.2 x1 s1.1)).bind fun r2 =>
  some (.go ((addI .i64 s1.1 1), r2))
 ) else (
   some (.out (.go s1.2))
 )
noncomputable def gz.loop2 (x1 : Int) (v1 : Te) (s2 : Int × List Tg) : Option (Fl (Int × List Tg) (Fl (List Tg) Te)) :=
 bif (ltI s2.1 (lenL v1.fd)) then (
  need (InB s2.1 (lenL v1.fd)) <|
  bif (neI ((nthI v1.fd s2.1).fu) x1) then (
   need (AppB (lenL s2.2) 1 40) <|
   some (.go ((addI .i64 s2.1 1), (appL s2.2 [(nthI v1.fd s2.1)])))
  ) else (
    some (.go ((addI .i64 s2.1 1), s2.2))
  )
 ) else (
   some (.out (.go s2.2))
 )
noncomputable def gz (x0 : Te) (x1 : Int) : Option Te :=
 ((gac x0.fT x1)).bind fun r1 =>
 ((loopF (gz.loop1 x1) (0, (Te.mk (Tl.mk r1.1.fL r1.1.fh) x0.fa x0.fd))).bind fun f => flC f fun (v1 : Te) =>
   ((loopF (gz.loop2 x1 v1) (0, [])).bind fun f => flC f fun (v2 : List Tg) =>
     some (Te.mk v1.fT v1.fa v2)
   )
 )
noncomputable def gk.loop1 (x0 : Te) (x1 : Int) (x2 : Int) (s1 : Int) : Option (Fl Int (Fl Unit Int)) :=
 bif (ltI s1 (lenL x0.fa)) then (
  need (InB s1 (lenL x0.fa)) <|
  bif (pickB (eqI ((nthI x0.fa s1).fc) x1) (eqI ((nthI x0.fa s1).fN) x2) false) then (
   some (.out (.out s1))
  ) else (
    some (.go (addI .i64 s1 1))
  )
 ) else (
   some (.out (.go ()))
 )
noncomputable def gk (x0 : Te) (x1 : Int) (x2 : Int) : Option Int :=
 ((loopF (gk.loop1 x0 x1 x2) 0).bind fun f => flC f fun (_v1 : Unit) =>
   some (-1)
 )
noncomputable def gp.loop2 (x0 : Te) (x1 : Int) (s1 : Int) (s2 : Int) : Option (Fl Int (Fl Unit (Fl Int (Fl Unit (Int × Int))))) :=
 bif (ltI s2 (lenL ((nthI x0.fa s1).fb))) then (
  need (InB s2 (lenL ((nthI x0.fa s1).fb))) <|
  bif (eqI (nthI ((nthI x0.fa s1).fb) s2) x1) then (
   some (.out (.out (.out (.out (s1, s2)))))
  ) else (
    some (.go (addI .i64 s2 1))
  )
 ) else (
   some (.out (.go ()))
 )
noncomputable def gp.loop1 (x0 : Te) (x1 : Int) (s1 : Int) : Option (Fl Int (Fl Unit (Int × Int))) :=
 bif (ltI s1 (lenL x0.fa)) then (
  need (InB s1 (lenL x0.fa)) <|
  ((loopF (gp.loop2 x0 x1 s1) 0).bind fun f => flC f fun (_v2 : Unit) =>
    some (.go (addI .i64 s1 1))
  )
 ) else (
   some (.out (.go ()))
 )
noncomputable def gp (x0 : Te) (x1 : Int) : Option (Int × Int) :=
 ((loopF (gp.loop1 x0 x1) 0).bind fun f => flC f fun (_v1 : Unit) =>
   some ((-1), 0)
 )
noncomputable def gS.loop1 (x0 : Te) (x1 : Tc) (s1 : Int) : Option (Fl Int (Fl Unit (Te × Int))) :=
 bif (ltI s1 (lenL x1.fb)) then (
  need (InB s1 (lenL x1.fb)) <|
  ((gp x0 (nthI x1.fb s1))).bind fun r2 =>
  bif (leqI 0 r2.1) then (
   some (.out (.out (x0, 16)))
  ) else (
    some (.go (addI .i64 s1 1))
  )
 ) else (
   some (.out (.go ()))
 )
noncomputable def gS (x0 : Te) (x1 : Tc) : Option (Te × Int) :=
 ((gk x0 x1.fc x1.ff)).bind fun r1 =>
 bif (leqI 0 r1) then (
  some (x0, 10)
 ) else (
   ((loopF (gS.loop1 x0 x1) 0).bind fun f => flC f fun (_v1 : Unit) =>
     need (AppB 0 (lenL x0.fa) 48) <|
     need (AppB (lenL x0.fa) 1 48) <|
     some ((Te.mk x0.fT (appL (appL [] x0.fa) [(Tp.mk x1.fc x1.ff x1.fq false x1.fb)]) x0.fd), 0)
   )
 )
noncomputable def gG.loop1 (x0 : Te) (x1 : Int) (x2 : Int) (x3 : Int) (s1 : Int) : Option (Fl Int (Fl Unit Int)) :=
 bif (ltI s1 (lenL x0.fd)) then (
  need (InB s1 (lenL x0.fd)) <|
  bif (pickB (pickB (eqI ((nthI x0.fd s1).fu) x1) (eqI ((nthI x0.fd s1).fc) x2) false) (eqI ((nthI x0.fd s1).fN) x3) false) then (
   some (.out (.out s1))
  ) else (
    some (.go (addI .i64 s1 1))
  )
 ) else (
   some (.out (.go ()))
 )
noncomputable def gG (x0 : Te) (x1 : Int) (x2 : Int) (x3 : Int) : Option Int :=
 ((loopF (gG.loop1 x0 x1 x2 x3) 0).bind fun f => flC f fun (_v1 : Unit) =>
   some (-1)
 )
noncomputable def gaw (x0 : Tg) (x1 : Tg) : Option Bool :=
 bif (neI x0.fu x1.fu) then (
  some (ltI x0.fu x1.fu)
 ) else (
   bif (neI x0.fc x1.fc) then (
    some (ltI x0.fc x1.fc)
   ) else (
     some (ltI x0.fN x1.fN)
   )
 )
noncomputable def gR.loop1 (x0 : List Tg) (x1 : Tg) (s1 : Int × Bool × List Tg) : Option (Fl (Int × Bool × List Tg) (Fl (Bool × List Tg) (List Tg))) :=
 bif (ltI s1.1 (lenL x0)) then (
  need (InB s1.1 (lenL x0)) <|
  ((
   need (Under (notB s1.2.1) true ((gaw x1 (nthI x0 s1.1)).isSome = true)) <|
   bif (pickB (notB s1.2.1) ((gaw x1 (nthI x0 s1.1)).getD dflt) false) then (
    need (AppB (lenL s1.2.2) 1 40) <|
    some (.go (true, (appL s1.2.2 [x1])))
   ) else (
     some (.go (s1.2.1, s1.2.2))
   )
   : Option (Fl (Bool × List Tg) (Fl (Int × Bool × List Tg) (Fl (Bool × List Tg) (List Tg))))).bind fun f => flC f fun (v2 : Bool × List Tg) =>
   need (AppB (lenL v2.2) 1 40) <|
   some (.go ((addI .i64 s1.1 1), v2.1, (appL v2.2 [(nthI x0 s1.1)])))
  )
 ) else (
   some (.out (.go (s1.2.1, s1.2.2)))
 )
noncomputable def gR (x0 : List Tg) (x1 : Tg) : Option (List Tg) :=
 ((loopF (gR.loop1 x0 x1) (0, false, [])).bind fun f => flC f fun (v1 : Bool × List Tg) =>
   ((
    bif (notB v1.1) then (
     need (AppB (lenL v1.2) 1 40) <|
     some (.go (appL v1.2 [x1]))
    ) else (
      some (.go v1.2)
    )
    : Option (Fl (List Tg) (List Tg))).bind fun f => flC f fun (v3 : List Tg) =>
    some v3
   )
 )
noncomputable def gD.loop1 (x0 : Te) (x1 : Tc) (s1 : Int × Int) : Option (Fl (Int × Int) (Fl Int (Te × Int))) :=
 bif (ltI s1.1 (lenL x0.fd)) then (
  need (InB s1.1 (lenL x0.fd)) <|
  bif (eqI ((nthI x0.fd s1.1).fu) x1.fc) then (
   some (.go ((addI .i64 s1.1 1), (addI .i64 s1.2 1)))
  ) else (
    some (.go ((addI .i64 s1.1 1), s1.2))
  )
 ) else (
   some (.out (.go s1.2))
 )
noncomputable def gD (x0 : Te) (x1 : Tc) : Option (Te × Int) :=
 bif (eqI x1.fOf x1.fc) then (
  some (x0, 15)
 ) else (
   ((gal x0.fT x1.fc x1.fOf)).bind fun r1 =>
   bif (notB r1) then (
    some (x0, 7)
   ) else (
     ((gk x0 x1.fOf x1.ff)).bind fun r2 =>
     bif (ltI r2 0) then (
      some (x0, 9)
     ) else (
       ((gG x0 x1.fc x1.fOf x1.ff)).bind fun r3 =>
       bif (leqI 0 r3) then (
        need (AppB 0 (lenL x0.fd) 40) <|
        need (InB r3 (lenL x0.fd)) <|
        some ((Te.mk x0.fT x0.fa (setI x0.fd r3 (Tg.mk ((nthI x0.fd r3).fu) ((nthI x0.fd r3).fc) ((nthI x0.fd r3).fN) x1.fp ((nthI x0.fd r3).fw)))), 0)
       ) else (
         ((loopF (gD.loop1 x0 x1) (0, 0)).bind fun f => flC f fun (v1 : Int) =>
           bif (leqI 16 v1) then (
            some (x0, 11)
           ) else (
             ((gR x0.fd (Tg.mk x1.fc x1.fOf x1.ff x1.fp false))).bind fun r4 =>
             some ((Te.mk x0.fT x0.fa r4), 0)
           )
         )
       )
     )
   )
 )
noncomputable def gaj (x0 : Te) (x1 : Tc) : Option (Te × Int) :=
 bif (pickB (eqI x1.fm 6) true (eqI x1.fm 8)) then (
  ((gG x0 x1.fc x1.fOf x1.ff)).bind fun r1 =>
  bif (ltI r1 0) then (
   some (x0, 12)
  ) else (
    need (AppB 0 (lenL x0.fd) 40) <|
    need (InB r1 (lenL x0.fd)) <|
    ((
     bif (eqI x1.fm 6) then (
      need (CutB 0 r1 (lenL x0.fd)) <|
      need (AppB 0 (lenL (cutL x0.fd 0 r1)) 40) <|
      need (CutB (addI .i64 r1 1) (lenL x0.fd) (lenL x0.fd)) <|
      need (AppB (lenL (cutL x0.fd 0 r1)) (lenL (cutL x0.fd (addI .i64 r1 1) (lenL x0.fd))) 40) <|
      some (.go (appL (appL [] (cutL x0.fd 0 r1)) (cutL x0.fd (addI .i64 r1 1) (lenL x0.fd))))
     ) else (
       some (.go (setI x0.fd r1 (Tg.mk ((nthI x0.fd r1).fu) ((nthI x0.fd r1).fc) ((nthI x0.fd r1).fN) ((nthI x0.fd r1).fp) x1.fOn)))
     )
     : Option (Fl (List Tg) (Te × Int))).bind fun f => flC f fun (v1 : List Tg) =>
     some ((Te.mk x0.fT x0.fa v1), 0)
    )
  )
 ) else (
   ((gk x0 x1.fc x1.ff)).bind fun r2 =>
   bif (ltI r2 0) then (
    some (x0, 9)
   ) else (
     bif (eqI x1.fm 4) then (
      ((gu x0 x1.fc x1.ff)).bind fun r3 =>
      some (r3, 0)
     ) else (
       need (AppB 0 (lenL x0.fa) 48) <|
       need (InB r2 (lenL x0.fa)) <|
       some ((Te.mk x0.fT (setI x0.fa r2 (Tp.mk ((nthI x0.fa r2).fc) ((nthI x0.fa r2).fN) ((nthI x0.fa r2).fq) x1.fOn ((nthI x0.fa r2).fb))) x0.fd), 0)
     )
   )
 )
noncomputable def gaE (x0 : Te) (x1 : Tc) : Option (Te × Int × Int) :=
 ((gX x1)).bind fun r1 =>
 bif (neI r1 0) then (
  some (x0, 0, r1)
 ) else (
   bif (eqI x1.fm 1) then (
    ((gae x0.fT x1.fk x1.fo)).bind fun r2 =>
    some ((Te.mk (Tl.mk r2.1.fL r2.1.fh) x0.fa x0.fd), r2.2.1, r2.2.2)
   ) else (
     ((gQ x0.fT x1.fc)).bind fun r3 =>
     bif (notB r3.2) then (
      some (x0, 0, 8)
     ) else (
       bif (eqI x1.fm 2) then (
        ((gz x0 x1.fc)).bind fun r4 =>
        some (r4, 0, 0)
       ) else (
         bif (eqI x1.fm 3) then (
          ((gS x0 x1)).bind fun r5 =>
          some (r5.1, 0, r5.2)
         ) else (
           bif (eqI x1.fm 5) then (
            ((gD x0 x1)).bind fun r6 =>
            some (r6.1, 0, r6.2)
           ) else (
             ((gaj x0 x1)).bind fun r7 =>
             some (r7.1, 0, r7.2)
           )
         )
       )
     )
   )
 )
end Go.Proofs
end
section
namespace Go.Proofs
open Go.Ab Go.Lib
abbrev Pr := Ta
theorem walk {S T : Type} {body : S → Option (Fl S T)} (st : Nat → S) : ∀ n : Nat, (∀ i, i < n → body (st i) = some (.go (st (i + 1)))) → loopF body (st 0) = loopF body (st n)
 | 0, _ => rfl
 | n + 1, h => by
   rw [walk st n fun i hi => h i (by omega), loopF_eq, h n (by omega)]
theorem walk_out {S T : Type} {body : S → Option (Fl S T)} (st : Nat → S) {n : Nat} {t : T} (h : ∀ i, i < n → body (st i) = some (.go (st (i + 1)))) (h2 : body (st n) = some (.out t)) : loopF body (st 0) = some t := by
 rw [walk st n h, loopF_eq, h2]
theorem nthI_at {α : Type} [Inhabited α] {l : List α} {i : Nat} (h : i < l.length) : nthI l (i : Int) = l[i] := by
 simp [nthI, List.getD, h]
theorem inB_at {α : Type} {l : List α} {i : Nat} (h : i < l.length) : InB (i : Int) (lenL l) := ⟨by omega, by unfold lenL; omega⟩
theorem Lp {i : Nat} (h : i < 1000000000) : addI .i64 (i : Int) 1 = ((i + 1 : Nat) : Int) := by rw [addI_n (by omega) (by omega)]; omega
theorem take_next {α : Type} {l : List α} {i : Nat} (h : i < l.length) : l.take (i + 1) = l.take i ++ [l[i]] := by simp
noncomputable def inL (L : List Pr) (room : ByteArray) : List Pr := L.filter fun p => eqS (foldS p.fk) (foldS room)
noncomputable def roomsL (L : List Pr) : List ByteArray := L.map fun p => foldS p.fk
def entL (L : List Pr) : List (Int × Pr) := L.map fun p => (p.fN, p)
def idsL (L : List Pr) : List Int := L.map fun p => p.fN
theorem keys_ent (L : List Pr) : keysM (entL L) = idsL L := by simp [keysM, entL, idsL, Function.comp_def]
theorem inL_app (L : List Pr) (p : Pr) (room : ByteArray) : inL (L ++ [p]) room = if eqS (foldS p.fk) (foldS room) = true then inL L room ++ [p] else inL L room := by
 unfold inL;rw [List.filter_append];cases h : eqS (foldS p.fk) (foldS room) <;> simp [h]
theorem inL_len (L : List Pr) (room : ByteArray) : (inL L room).length ≤ L.length := List.length_filter_le _ _
structure Tbl (L : List Pr) (nx : Int) : Prop where
 up : (idsL L).Pairwise (· < ·)
 rng : ∀ p ∈ L, 0 ≤ p.fN ∧ p.fN < nx
 num : 0 ≤ nx ∧ nx ≤ 65536
 len : (L.length : Int) ≤ nx
 room : ∀ p ∈ L, goodB (scan p.fk 0) = true ∧ p.fk.size ≤ 1000
 name : ∀ p ∈ L, goodB (scan p.fo 0) = true ∧ p.fo.size ≤ 1000
 few : ∀ s, (inL L s).length ≤ 16
 rooms : (nubL (roomsL L)).length ≤ 8
theorem Tbl.nodup {L : List Pr} {nx : Int} (h : Tbl L nx) : (idsL L).Nodup := h.up.imp fun h => by omega
theorem Tbl.nd {L : List Pr} {nx : Int} (h : Tbl L nx) : (keysM (entL L)).Nodup := by rw [keys_ent]; exact h.nodup
theorem Tbl.get {L : List Pr} {nx : Int} (h : Tbl L nx) {p : Pr} (hp : p ∈ L) (z : Pr) : getM eqI p.fN z (entL L) = p := getM_of h.nd (List.mem_map.2 ⟨p, hp, rfl⟩)
theorem Tbl.sort {L : List Pr} {nx : Int} (h : Tbl L nx) : sortL (keysM (entL L)) = idsL L := by
 rw [keys_ent];exact sortL_of (.refl _) (h.up.imp fun h => by omega)
theorem Tbl.keysB {L : List Pr} {nx : Int} (h : Tbl L nx) : KeysB (keysM (entL L)) := by
 rw [keys_ent];have h1 := h.num;have h2 := h.len;refine KeysB_of (fun x hx => ?_) (by simp only [idsL, List.length_map]; omega);obtain ⟨p, hp, rfl⟩ := List.mem_map.1 hx;have := h.rng p hp;omega
theorem ids_at {L : List Pr} {i : Nat} (h : i < L.length) : nthI (idsL L) (i : Int) = (L[i]).fN := by
 rw [nthI_at (by simpa [idsL] using h)];simp [idsL]
theorem ids_len (L : List Pr) : lenL (idsL L) = (L.length : Int) := by simp [lenL, idsL]
theorem in_d {L : List Pr} {nx : Int} (h : Tbl L nx) {room : ByteArray} (hr : room.size ≤ 1000000) (h0 : bytesOf room ≠ []) : gE (Tq.mk (entL L) nx) room = some (inL L room) := by
  have h1 := h.num;have h2 := h.len;unfold gE
  have w : loopF (gE.loop1 (Tq.mk (entL L) nx) room) (0, []) = some (.go (inL L room)) := by
   refine walk_out (n := L.length) (fun i => ((i : Int), inL (L.take i) room)) (fun i hi => ?_) ?_
   · have hm : L[i] ∈ L := List.getElem_mem hi;obtain ⟨g1, g2⟩ := h.room _ hm
     have hl : ((inL (L.take i) room).length : Int) ≤ 65536 := by
       have := inL_len (L.take i) room;simp only [List.length_take] at this;omega
     unfold gE.loop1;simp only;rw [h.sort, ltI_t (by rw [ids_len]; omega), cond_true, Lh ⟨by omega, by rw [ids_len]; omega⟩, ids_at hi, h.get hm, same_d (by omega) hr (good_ne g1) h0, Lg, take_next hi, inL_app, Lp (by omega)];cases eqS (foldS L[i].fk) (foldS room) with
     | true =>
       simp only [cond_true, if_true];rw [Lh (show AppB (lenL (inL (L.take i) room)) 1 40 from ⟨by unfold lenL; omega, by unfold lenL; omega⟩)];rfl
     | false => simp only [cond_false, Bool.false_eq_true, if_false]
   · unfold gE.loop1;simp only;rw [h.sort, ltI_f (by rw [ids_len]; omega), cond_false, List.take_length]
  rw [Lh h.keysB, w]; rfl
structure Doc (L : List Pr) : Prop where
 len : L.length ≤ 65536
 size : ∀ p ∈ L, p.fk.size ≤ 1000 ∧ p.fo.size ≤ 1000
theorem Tbl.doc {L : List Pr} {nx : Int} (h : Tbl L nx) : Doc L := ⟨by have := h.num; have := h.len; omega, fun p hp => ⟨(h.room p hp).2, (h.name p hp).2⟩⟩
theorem Doc.take {L : List Pr} (h : Doc L) (i : Nat) : Doc (L.take i) := ⟨by have := h.len; simp only [List.length_take]; omega, fun p hp => h.size p (List.mem_of_mem_take hp)⟩
theorem rin_d {L : List Pr} (h : Doc L) {nx : Int} {room : ByteArray} (hr : room.size ≤ 1000000) : gak (Tl.mk L nx) room = some (inL L room) := by
  have h2 := h.len;unfold gak
  have w : loopF (gak.loop1 (Tl.mk L nx) room) (0, []) = some (.go (inL L room)) := by
   refine walk_out (n := L.length) (fun i => ((i : Int), inL (L.take i) room)) (fun i hi => ?_) ?_
   · have hm : L[i] ∈ L := List.getElem_mem hi;have g2 := (h.size _ hm).1
     have hl : ((inL (L.take i) room).length : Int) ≤ 65536 := by
       have := inL_len (L.take i) room;simp only [List.length_take] at this;omega
     unfold gak.loop1;simp only;rw [ltI_t (by unfold lenL; omega), cond_true, Lh (inB_at hi), nthI_at hi, rfold_d (by omega), Lg, rfold_d hr, Lg, take_next hi, inL_app, Lp (by omega)];cases eqS (foldS L[i].fk) (foldS room) with
     | true =>
       simp only [cond_true, if_true];rw [Lh (show AppB (lenL (inL (L.take i) room)) 1 40 from ⟨by unfold lenL; omega, by unfold lenL; omega⟩)];rfl
     | false => simp only [cond_false, Bool.false_eq_true, if_false]
   · unfold gak.loop1;simp only;rw [ltI_f (by unfold lenL; omega), cond_false, List.take_length]
  rw [w]; rfl
theorem folds_ent {L : List Pr} {nx : Int} (h : Tbl L nx) : foldsM (entL L) = roomsL L := by
 unfold foldsM entL roomsL;rw [List.map_map];refine List.map_congr_left fun p hp => ?_;obtain ⟨g1, g2⟩ := h.room p hp;simp only [Function.comp];rw [fold_d (by omega) (good_ne g1)]; rfl
theorem rooms_d {L : List Pr} {nx : Int} (h : Tbl L nx) : gN (Tq.mk (entL L) nx) = some (sortS (nubL (roomsL L))) := by
 have h1 : ∀ e ∈ entL L, (gW e.2.fk).isSome = true := fun e he => by
  obtain ⟨p, hp, rfl⟩ := List.mem_map.1 he;obtain ⟨g1, g2⟩ := h.room p hp;simp only;rw [fold_d (by omega) (good_ne g1)]; rfl
 have h2 : KeysBS (roomsL L) := by
  refine ⟨fun x hx => ?_, ?_⟩
  ·obtain ⟨p, hp, rfl⟩ := List.mem_map.1 hx;have := (h.room p hp).2;have := fold_size p.fk;simp only [maxLen]; omega
  ·have := h.num;have := h.len;simp only [roomsL, List.length_map]; omega
 unfold gN gaG;simp only;rw [Lh h1, folds_ent h, Lh h2];rfl
theorem sortS_len (l : List ByteArray) : (sortS l).length = l.length := by simp [sortS]
theorem nub_snoc {l : List ByteArray} {f : List ByteArray} (hn : f.Nodup) (hm : ∀ y, y ∈ f ↔ y ∈ l) : f.length = (nubL l).length := by
 have : f.Perm (nubL l) := (List.perm_ext_iff_of_nodup hn (nodup_nubL l)).2 fun y => by rw [hm, mem_nubL]
 exact this.length_eq
theorem inL_nil {L : List Pr} {room : ByteArray} : inL L room = [] ↔ foldS room ∉ roomsL L := by
 unfold inL roomsL;rw [List.filter_eq_nil_iff, List.mem_map];constructor
 ·rintro h ⟨p, hp, e⟩;exact h p hp ((eqS_iff _ _).2 e)
 ·intro h p hp e;exact h ⟨p, hp, (eqS_iff _ _).1 e⟩
noncomputable def fst (L : List Pr) : Nat → List ByteArray
 | 0 => []
 | i + 1 => match L[i]? with
   | some p => if inL (L.take i) p.fk = [] then fst L i ++ [foldS p.fk] else fst L i
   | none => fst L i
theorem fst_ok (L : List Pr) : ∀ i, i ≤ L.length → (fst L i).Nodup ∧ ∀ y, y ∈ fst L i ↔ y ∈ roomsL (L.take i)
 | 0, _ => ⟨by simp [fst], fun y => by simp [fst, roomsL]⟩
 | i + 1, h => by
   obtain ⟨h1, h2⟩ := fst_ok L i (by omega);have hi : i < L.length := by omega
   have hl : L[i]? = some L[i] := List.getElem?_eq_getElem hi;have e : roomsL (L.take (i + 1)) = roomsL (L.take i) ++ [foldS L[i].fk] := by unfold roomsL; rw [take_next hi, List.map_append]; rfl
   rw [fst, hl, e];simp only;split
   ·rename_i hn;have hx := inL_nil.1 hn;refine ⟨List.nodup_append.2 ⟨h1, by simp, fun a ha b hb => ?_⟩, fun y => by rw [List.mem_append, List.mem_append, h2 y]⟩;rw [List.mem_singleton.1 hb];intro q;exact hx ((h2 _).1 (q ▸ ha))
   ·rename_i hn;refine ⟨h1, fun y => ?_⟩;rw [h2 y, List.mem_append, List.mem_singleton];refine ⟨.inl, fun q => q.elim id fun q => ?_⟩;rw [q];exact Classical.byContradiction fun hx => hn (inL_nil.2 hx)
theorem fst_len (L : List Pr) : (fst L L.length).length = (nubL (roomsL L)).length := by
 obtain ⟨h1, h2⟩ := fst_ok L L.length (Nat.le_refl _);exact nub_snoc h1 fun y => by rw [h2 y, List.take_length]
theorem fst_le (L : List Pr) : ∀ i, (fst L i).length ≤ i
 | 0 => by simp [fst]
 | i + 1 => by
   have := fst_le L i;rw [fst];split
   ·split
    ·simp only [List.length_append, List.length_cons, List.length_nil]; omega
    ·omega
   ·omega
theorem rrooms_d {L : List Pr} (h : Doc L) {nx : Int} : gY (Tl.mk L nx) = some (fst L L.length) := by
  have h2 := h.len;unfold gY
  have w : loopF (gY.loop1 (Tl.mk L nx)) (0, []) = some (.go (fst L L.length)) := by
   refine walk_out (n := L.length) (fun i => ((i : Int), fst L i)) (fun i hi => ?_) ?_
   · have hm : L[i] ∈ L := List.getElem_mem hi;have g2 := (h.size _ hm).1;have hl : L[i]? = some L[i] := List.getElem?_eq_getElem hi;have hf := fst_le L i;have hc : cutL L 0 (i : Int) = L.take i := by simp [cutL]
     unfold gY.loop1;simp only;rw [ltI_t (by unfold lenL; omega), cond_true, Lh (inB_at hi), Lh (show CutB 0 (i : Int) (lenL L) from ⟨by omega, by omega, by unfold lenL; omega⟩), nthI_at hi, hc, rin_d (h.take i) (by omega), Lg, Lp (by omega)];rw [fst, hl];simp only;by_cases hn : inL (L.take i) L[i].fk = []
     · rw [if_pos hn, hn, eqI_t (by rfl), cond_true, rfold_d (by omega), Lg, Lh (show AppB (lenL (fst L i)) 1 16 from ⟨by unfold lenL; omega, by unfold lenL; omega⟩)];rfl
     · have : (inL (L.take i) L[i].fk).length ≠ 0 := fun q => hn (List.eq_nil_of_length_eq_zero q);rw [if_neg hn, eqI_f (by unfold lenL; omega), cond_false]
   · unfold gY.loop1;simp only;rw [ltI_f (by unfold lenL; omega), cond_false]
  rw [w]; rfl
end Go.Proofs
end
