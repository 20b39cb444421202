import Derived.Test.YtoiieebljbhpbaaGreatDoorM14
namespace Go.Proofs
open Go.Ab Go.Lib
theorem walk_any {T α : Type} {body : Int → Option (Fl Int T)} {L : List α} (p : α → Bool) (hit : Nat → T) (miss : T)
  (h : ∀ i (hi : i < L.length), body (i : Int) = if p L[i] = true then some (.out (hit i)) else some (.go ((i + 1 : Nat) : Int))) (h2 : body (L.length : Int) = some (.out miss)) :
  (L.any p = false → loopF body 0 = some miss) ∧ (L.any p = true → ∃ (i : Nat) (hi : i < L.length), p L[i] = true ∧ L.find? p = some L[i] ∧ loopF body 0 = some (hit i)) := by
 have key : ∀ k i : Nat, i + k = L.length → ((L.drop i).any p = false → loopF body (i : Int) = some miss) ∧ ((L.drop i).any p = true → ∃ (j : Nat) (hj : j < L.length), p L[j] = true ∧ (L.drop i).find? p = some L[j] ∧ loopF body (i : Int) = some (hit j)) := by
  intro k
  induction k with
  | zero =>
    intro i hi;have : L.drop i = [] := List.drop_eq_nil_of_le (by omega);have e : i = L.length := by omega
    subst e;rw [this];refine ⟨fun _ => ?_, fun q => by cases q⟩;rw [loopF_eq, h2]
  | succ k ih =>
    intro i hi;have hlt : i < L.length := by omega
    obtain ⟨i1, i2⟩ := ih (i + 1) (by omega);rw [List.drop_eq_getElem_cons hlt, List.any_cons, List.find?_cons, loopF_eq, h i hlt];cases hp : p L[i] with
    | true => exact ⟨fun q => by simp at q, fun _ => ⟨i, hlt, hp, rfl, by simp⟩⟩
    | false =>
      simp only [Bool.false_or, Bool.false_eq_true, if_false];exact ⟨i1, i2⟩
 have := key L.length 0 (by omega);simpa using this
def findL (L : List Pr) (n : Int) : Option Pr := L.find? fun p => eqI p.fN n
theorem eqI_comm (a b : Int) : eqI a b = eqI b a := by
 rw [eqI_d, eqI_d];by_cases h : a = b
 ·rw [decide_eq_true h, decide_eq_true h.symm]
 ·rw [decide_eq_false h, decide_eq_false fun q => h q.symm]
theorem get_find (n : Int) (z : Pr) : ∀ L : List Pr, getM eqI n z (entL L) = (findL L n).getD z ∧ hasM eqI n (entL L) = (findL L n).isSome
 | [] => ⟨rfl, rfl⟩
 | p :: L => by
   obtain ⟨h1, h2⟩ := get_find n z L;unfold findL entL at *
   rw [List.map_cons, List.find?_cons, getM, hasM, eqI_comm n];cases eqI p.fN n with
   | true => simp [qaf]
   | false => simp only [Bool.false_eq_true, if_false, pickB_f]; exact ⟨h1, h2⟩
theorem find_mem {L : List Pr} {n : Int} {p : Pr} (h : findL L n = some p) : p ∈ L ∧ p.fN = n := by
 refine ⟨List.mem_of_find?_eq_some h, ?_⟩;have := List.find?_some h;rw [eqI_d] at this;exact of_decide_eq_true this
abbrev noPr : Pr := Ta.mk 0 ⟨#[]⟩ ⟨#[]⟩
theorem rfind_d {L : List Pr} (hl : L.length ≤ 65536) {nx : Int} (n : Int) : gaM (Tq.mk L nx) n = some ((findL L n).getD noPr, (findL L n).isSome) := by
 obtain ⟨w1, w2⟩ := walk_any (body := gaM.loop1 (Tq.mk L nx) n) (L := L) (fun p => eqI p.fN n) (fun i => .out (nthI L (i : Int), true)) (.go ()) (fun i hi => by
   unfold gaM.loop1;simp only;rw [ltI_t (by unfold qat; omega), cond_true, Lh (inB_at hi), qah hi, Lr (by omega)];cases eqI L[i].fN n <;> simp) (by
   unfold gaM.loop1;simp only;rw [ltI_f (by unfold qat; omega), cond_false])
 unfold gaM;cases ha : L.any fun p => eqI p.fN n with
 | false =>
   rw [w1 ha]
   have : findL L n = none := List.find?_eq_none.2 fun x hx q => by
    rw [List.any_eq_false] at ha;exact ha x hx q
   rw [this]; rfl
 | true =>
   obtain ⟨i, hi, _, h2, h3⟩ := w2 ha;rw [h3];have : findL L n = some L[i] := h2;rw [this];simp only [Le, flC_out, Option.getD_some, Option.isSome_some];rw [qah hi]
theorem peer_d {L : List Pr} {nx : Int} (n : Int) : gU (Tp.mk (entL L) nx) n = some ((findL L n).getD noPr, (findL L n).isSome) := by
 unfold gU;simp only;rw [(get_find n _ L).1, (get_find n noPr L).2]
noncomputable def togL (L : List Pr) (a b : Int) : Bool := (findL L a).isSome && (findL L b).isSome && decide (a ≠ b) && eqS (foldS ((findL L a).getD noPr).fm) (foldS ((findL L b).getD noPr).fm)
theorem together_d {L : List Pr} {nx : Int} (h : Tbl L nx) (a b : Int) : gD (Tp.mk (entL L) nx) a b = some (togL L a b) := by
 unfold gD togL;simp only;rw [(get_find a noPr L).1, (get_find b noPr L).1, (get_find a noPr L).2, (get_find b noPr L).2];simp only [qai, neI_d];cases ha : findL L a with
 | none =>
   simp only [Option.isSome_none, Bool.false_and];rw [Lh (show Under false true _ from fun q => by cases q)]
 | some p =>
   cases hb : findL L b with
   | none =>
     simp only [Option.isSome_none, Option.isSome_some, Bool.false_and, Bool.and_false];rw [Lh (show Under false true _ from fun q => by cases q)]
   | some q =>
     obtain ⟨g1, g2⟩ := h.room p (find_mem ha).1;obtain ⟨g3, g4⟩ := h.room q (find_mem hb).1;simp only [Option.isSome_some, Option.getD_some, Bool.true_and];rw [same_d (by omega) (by omega) (good_ne g1) (good_ne g3), need_s];rfl
theorem rtogether_d {L : List Pr} (hd : Doc L) {nx : Int} (a b : Int) : ga4 (Tq.mk L nx) a b = some (togL L a b) := by
 unfold ga4 togL;rw [rfind_d hd.len, rfind_d hd.len];simp only [Le, qai, neI_d];cases ha : findL L a with
 | none =>
   simp only [Option.isSome_none, Bool.false_and];rw [Lh (show Under false true _ from fun q => by cases q), Lh (show Under false true _ from fun q => by cases q)]
 | some p =>
   cases hb : findL L b with
   | none =>
     simp only [Option.isSome_none, Option.isSome_some, Bool.false_and, Bool.and_false];rw [Lh (show Under false true _ from fun q => by cases q), Lh (show Under false true _ from fun q => by cases q)]
   | some q =>
     have g1 := (hd.size p (find_mem ha).1).1;have g2 := (hd.size q (find_mem hb).1).1;simp only [Option.isSome_some, Option.getD_some, Bool.true_and];rw [rfold_d (s := p.fm) (by omega), rfold_d (s := q.fm) (by omega), need_s, need_s];rfl
noncomputable def leaveL (L : List Pr) (n : Int) : List Pr := L.filter fun p => neI p.fN n
theorem leave_no {L : List Pr} {n : Int} (h : findL L n = none) : leaveL L n = L := by
 unfold leaveL;refine List.filter_eq_self.2 fun p hp => ?_;have := List.find?_eq_none.1 h p hp;rw [eqI_d] at this;rw [neI_d];simpa using this
theorem leave_ent {L : List Pr} {nx : Int} (h : Tbl L nx) (n : Int) : delM eqI n (entL L) = entL (leaveL L n) := by
 rw [del_filter n (by have := h.nd; exact this)];unfold entL leaveL;rw [List.filter_map];congr 1;refine List.filter_congr fun p _ => ?_;simp only [Function.comp];rw [eqI_comm, neI_d, eqI_d];by_cases q : p.fN = n <;> simp [q]
noncomputable def leaveE (L : List Pr) (n : Int) : Int := if (findL L n).isSome = true then 0 else 8
theorem leave_d {L : List Pr} {nx : Int} (h : Tbl L nx) (n : Int) : gaa (Tp.mk (entL L) nx) n = some (leaveE L n, Tp.mk (entL (leaveL L n)) nx) := by
 unfold gaa leaveE;simp only;rw [(get_find n noPr L).2, leave_ent h];cases hf : findL L n with
 | none =>
   rw [leave_no hf]; rfl
 | some p => rfl
theorem leave_take {L : List Pr} {i : Nat} (hi : i < L.length) (n : Int) : leaveL (L.take (i + 1)) n = if neI L[i].fN n = true then leaveL (L.take i) n ++ [L[i]] else leaveL (L.take i) n := by
 unfold leaveL;rw [take_next hi, List.filter_append];cases hx : neI L[i].fN n <;> simp [hx]
theorem leave_lt {n : Int} : ∀ {L : List Pr} {p : Pr}, findL L n = some p → (leaveL L n).length < L.length := by
 intro L p h;obtain ⟨h1, h2⟩ := find_mem h;unfold leaveL;refine List.length_filter_lt_length_iff_exists.2 ⟨p, h1, ?_⟩;rw [neI_f h2]; decide
theorem rleave_d {L : List Pr} (hd : Doc L) {nx : Int} (n : Int) : gaR (Tq.mk L nx) n = some (Tq.mk (leaveL L n) nx, leaveE L n) := by
 have h2 := hd.len
 have w : loopF (gaR.loop1 (Tq.mk L nx) n) (0, []) = some (.go (leaveL L n)) := by
  refine walk_out (n := L.length) (fun i => ((i : Int), leaveL (L.take i) n)) (fun i hi => ?_) ?_
  ·have hl : ((leaveL (L.take i) n).length : Int) ≤ 65536 := by
    have : (leaveL (L.take i) n).length ≤ (L.take i).length := List.length_filter_le _ _;simp only [List.length_take] at this;omega
   unfold gaR.loop1;simp only;rw [ltI_t (by unfold qat; omega), cond_true, Lh (inB_at hi), qah hi, leave_take hi, Lr (by omega)];cases neI L[i].fN n with
   | true =>
     simp only [cond_true, if_true];rw [Lh (show AppB (qat (leaveL (L.take i) n)) 1 40 from ⟨by unfold qat; omega, by unfold qat; omega⟩)];rfl
   | false => simp only [cond_false, Bool.false_eq_true, if_false]
  ·unfold gaR.loop1;simp only;rw [ltI_f (by unfold qat; omega), cond_false, List.take_length]
 unfold gaR leaveE;rw [w];simp only [Le, qal];cases hf : findL L n with
 | none =>
   rw [leave_no hf, eqI_t (by rfl)]; rfl
 | some p =>
   have := leave_lt hf;rw [eqI_f (by unfold qat; omega)]; rfl
theorem nub_le {l l' : List ByteArray} (h : ∀ x ∈ l, x ∈ l') : (nubL l).length ≤ (nubL l').length := nodup_len (nodup_nubL l) fun x hx => mem_nubL.2 (h x (mem_nubL.1 hx))
theorem Tbl.leave {L : List Pr} {nx : Int} (h : Tbl L nx) (n : Int) : Tbl (leaveL L n) nx where
 up := by
  unfold idsL leaveL;have := h.up;unfold idsL at this;exact this.sublist (List.filter_sublist.map _)
 rng p hp := h.rng p (List.mem_filter.1 hp).1
 num := h.num
 len := by
  have h1 := h.len;have : (leaveL L n).length ≤ L.length := List.length_filter_le _ _;omega
 room p hp := h.room p (List.mem_filter.1 hp).1
 name p hp := h.name p (List.mem_filter.1 hp).1
 few s := by
  refine Nat.le_trans ?_ (h.few s);unfold inL leaveL;exact (List.filter_sublist.filter _).length_le
 rooms := by
  refine Nat.le_trans (nub_le fun x hx => ?_) h.rooms;obtain ⟨p, hp, rfl⟩ := List.mem_map.1 hx;exact List.mem_map.2 ⟨p, (List.mem_filter.1 hp).1, rfl⟩
noncomputable def hasN (l : List Pr) (name : ByteArray) : Bool := l.any fun p => eqS (foldS p.fp) (foldS name)
noncomputable def fullL (L : List Pr) (nx : Int) (room : ByteArray) : Bool := decide (16 ≤ (inL L room).length) || (decide ((inL L room).length = 0) && decide (8 ≤ (nubL (roomsL L)).length)) || decide (65535 < nx)
noncomputable def joinL (L : List Pr) (nx : Int) (room name : ByteArray) : List Pr × Int × Int × Int :=
 if goodB (scan room 0) = true ∧ goodB (scan name 0) = true then
  (if hasN (inL L room) name = true then (L, nx, 0, 10) else if fullL L nx room = true then (L, nx, 0, 11) else (L ++ [⟨nx, name, room⟩], nx + 1, nx, 0))
 else (L, nx, 0, 6)
theorem contains_d {l : List Pr} (hl : l.length ≤ 65536) (hg : ∀ p ∈ l, goodB (scan p.fp 0) = true ∧ p.fp.size ≤ 1000) {name : ByteArray} (hn : name.size ≤ 1000) (h0 : qar name ≠ []) :
  gc l name = some (hasN l name) := by
 obtain ⟨w1, w2⟩ := walk_any (body := ga.loop1 l name) (L := l) (fun p => eqS (foldS p.fp) (foldS name)) (fun i => .out (i : Int)) (.go ()) (fun i hi => by
   obtain ⟨g1, g2⟩ := hg _ (List.getElem_mem hi);unfold ga.loop1 gab;rw [ltI_t (by unfold qat; omega), cond_true, Lh (inB_at hi), qah hi, Lr (by omega), same_d (by omega) (by omega) (good_ne g1) h0];simp only [Le];cases eqS (foldS l[i].fp) (foldS name) <;> simp) (by
   unfold ga.loop1;rw [ltI_f (by unfold qat; omega), cond_false])
 unfold gc ga hasN;cases ha : l.any fun p => eqS (foldS p.fp) (foldS name) with
 | false =>
   rw [w1 ha]; rfl
 | true =>
   obtain ⟨i, hi, _, _, h3⟩ := w2 ha;rw [h3];simp only [Le, flC_out];rw [leI_t (by omega)]
theorem inL_mem {L : List Pr} {room : ByteArray} {p : Pr} (h : p ∈ inL L room) : p ∈ L := (List.mem_filter.1 h).1
theorem join_d {L : List Pr} {nx : Int} (h : Tbl L nx) {room name : ByteArray} (hr : room.size ≤ 1000) (hn : name.size ≤ 1000) :
  gP (Tp.mk (entL L) nx) room name = some ((joinL L nx room name).2.2.1, (joinL L nx room name).2.2.2, Tp.mk (entL (joinL L nx room name).1) (joinL L nx room name).2.1) := by
 have hb := h.num;unfold gP joinL;rw [check_d (s := room) (by omega), check_d (s := name) (by omega)];simp only [Le, qax, need_s];cases gr : goodB (scan room 0) with
 | false => simp [neI_d, qaf]
 | true =>
   cases gn : goodB (scan name 0) with
   | false => simp [neI_d, qaf]
   | true =>
     have hll := inL_len L room;have hl := h.len;simp only [if_true, neI_f (rfl : (0 : Int) = 0), pickB_f, cond_false, and_self];rw [in_d h (by omega) (good_ne gr), Le, contains_d (by omega) (fun p hp => h.name p (inL_mem hp)) hn (good_ne gn), Le];cases hh : hasN (inL L room) name with
     | true => simp only [cond_true, if_true, Le, flC_out]
     | false =>
       simp only [cond_false, Bool.false_eq_true, if_false];rw [rooms_d h];simp only [qax, need_s]
       have hk : nx ∉ keysM (entL L) := fun q => by
        rw [keys_ent] at q;obtain ⟨p, hp, e⟩ := List.mem_map.1 q;have := h.rng p hp;omega
       have hrl : qat (sortS (nubL (roomsL L))) = ((nubL (roomsL L)).length : Int) := by unfold qat; rw [sortS_len]
       by_cases f1 : 16 ≤ (inL L room).length
       ·have : fullL L nx room = true := by simp [fullL, f1]
        rw [leI_t (by unfold qat; omega), this];simp only [cond_true, Le, qal, flC_out, if_true]
       ·rw [leI_f (by unfold qat; omega)];simp only [cond_false];by_cases f2 : (inL L room).length = 0 ∧ 8 ≤ (nubL (roomsL L)).length
        ·have : fullL L nx room = true := by simp [fullL, f2]
         rw [eqI_t (by unfold qat; omega), hrl, leI_t (by omega), this];simp only [qaf, cond_true, Le, qal, flC_out, if_true]
        ·have e : qaf (eqI (qat (inL L room)) 0) (leqI 8 (qat (sortS (nubL (roomsL L))))) false = false := by
          rw [qai, hrl, eqI_d, leI_d, Bool.and_eq_false_iff];by_cases q : (inL L room).length = 0
          ·exact .inr (decide_eq_false (by omega))
          ·exact .inl (decide_eq_false (by unfold qat; omega))
         rw [e];simp only [cond_false, Le, qal];by_cases f3 : 65535 < nx
         ·have : fullL L nx room = true := by simp [fullL, f3]
          rw [ltI_t f3, this];simp only [cond_true, Le, flC_out, if_true]
         ·have : fullL L nx room = false := by
           simp only [fullL, Bool.or_eq_false_iff, Bool.and_eq_false_iff, decide_eq_false_iff_not];refine ⟨⟨by omega, ?_⟩, f3⟩;by_cases q : (inL L room).length = 0
           ·exact .inr (by omega)
           ·exact .inl q
          rw [ltI_f f3, this];simp only [cond_false, Le, qal, Bool.false_eq_true, if_false];rw [setM_no hk, addI_n (by omega) (by omega)];simp [entL]
theorem rjoin_d {L : List Pr} (hd : Doc L) {nx : Int} (hb : 0 ≤ nx ∧ nx ≤ 65536) {room name : ByteArray} (hr : room.size ≤ 1000) (hn : name.size ≤ 1000) :
  gaT (Tq.mk L nx) room name = some (Tq.mk (joinL L nx room name).1 (joinL L nx room name).2.1, (joinL L nx room name).2.2.1, (joinL L nx room name).2.2.2) := by
 unfold gaT joinL;rw [good_d (s := room) hr, good_d (s := name) hn];simp only [Le, qax, need_s];cases gr : goodB (scan room 0) with
 | false => simp [qaf]
 | true =>
   cases gn : goodB (scan name 0) with
   | false => simp [qaf]
   | true =>
     have hll := inL_len L room;have hl := hd.len;simp only [notB_f', pickB_f, cond_false, and_self, if_true];rw [rin_d hd (by omega), Le]
     obtain ⟨w1, w2⟩ := walk_any (body := gaT.loop1 (Tq.mk L nx) name (inL L room)) (L := inL L room) (fun p => eqS (foldS p.fp) (foldS name)) (fun _ => .out (Tq.mk L nx, 0, 10)) (.go ()) (fun i hi => by
       have g1 := (hd.size _ (inL_mem (List.getElem_mem hi))).2;unfold gaT.loop1;rw [ltI_t (by unfold qat; omega), cond_true, Lh (inB_at hi), qah hi, Lr (by omega), rfold_d (by omega), Le, rfold_d (by omega), Le];cases eqS (foldS (inL L room)[i].fp) (foldS name) <;> simp) (by
       unfold gaT.loop1;rw [ltI_f (by unfold qat; omega), cond_false])
     cases hh : hasN (inL L room) name with
     | true =>
       obtain ⟨i, hi, _, _, h3⟩ := w2 hh;rw [h3];simp only [Le, flC_out, if_true]
     | false =>
       rw [w1 hh, rrooms_d hd];simp only [Le, qal, qax, Bool.false_eq_true, if_false];rw [need_ss];have hrl : qat (fst L L.length) = ((nubL (roomsL L)).length : Int) := by unfold qat; rw [fst_len]
       have e : qaf (qaf (leqI 16 (qat (inL L room))) true (qaf (eqI (qat (inL L room)) 0) (leqI 8 (qat (fst L L.length))) false)) true (ltI 65535 nx) = fullL L nx room := by
        unfold fullL;rw [qaj, qaj, qai, hrl, leI_d, leI_d, eqI_d, ltI_d]
        have a1 : decide (16 ≤ qat (inL L room)) = decide (16 ≤ (inL L room).length) := by
         by_cases q : 16 ≤ (inL L room).length
         ·rw [decide_eq_true q, decide_eq_true (by unfold qat; omega)]
         ·rw [decide_eq_false q, decide_eq_false (by unfold qat; omega)]
        have a2 : decide (qat (inL L room) = 0) = decide ((inL L room).length = 0) := by
         by_cases q : (inL L room).length = 0
         ·rw [decide_eq_true q, decide_eq_true (by unfold qat; omega)]
         ·rw [decide_eq_false q, decide_eq_false (by unfold qat; omega)]
        have a3 : decide ((8 : Int) ≤ ((nubL (roomsL L)).length : Int)) = decide (8 ≤ (nubL (roomsL L)).length) := by
         by_cases q : 8 ≤ (nubL (roomsL L)).length
         ·rw [decide_eq_true q, decide_eq_true (by omega)]
         ·rw [decide_eq_false q, decide_eq_false (by omega)]
        rw [a1, a2, a3]
       rw [e];cases hf : fullL L nx room with
       | true => simp only [cond_true, if_true]
       | false =>
         have f3 : ¬ 65535 < nx := by
          simp only [fullL, Bool.or_eq_false_iff, decide_eq_false_iff_not] at hf;exact hf.2
         simp only [cond_false, Bool.false_eq_true, if_false];rw [Lh (show AppB 0 (qat L) 40 from ⟨by unfold qat; omega, by unfold qat; omega⟩), Lh (show AppB (qat L) 1 40 from ⟨by unfold qat; omega, by unfold qat; omega⟩), addI_n (by omega) (by omega)];simp [appL]
theorem Tbl.join {L : List Pr} {nx : Int} (h : Tbl L nx) {room name : ByteArray} (hr : room.size ≤ 1000) (hn : name.size ≤ 1000) : Tbl (joinL L nx room name).1 (joinL L nx room name).2.1 := by
 unfold joinL;split
 ·rename_i hg;split
  ·exact h
  ·split
   ·exact h
   ·rename_i hf;simp only [fullL, Bool.or_eq_true, Bool.and_eq_true, decide_eq_true_eq, not_or, not_and] at hf;obtain ⟨⟨f1, f2⟩, f3⟩ := hf;have hnum := h.num;have hlen := h.len;refine ⟨?_, ?_, by simp only; omega, by simp only [List.length_append, List.length_cons, List.length_nil]; omega, ?_, ?_, fun s => ?_, ?_⟩
    ·unfold idsL;rw [List.map_append];refine List.pairwise_append.2 ⟨h.up, by simp, fun a ha b hb => ?_⟩;obtain ⟨p, hp, rfl⟩ := List.mem_map.1 ha;simp only [List.map_cons, List.map_nil, List.mem_singleton] at hb;have := h.rng p hp;omega
    ·intro p hp;rcases List.mem_append.1 hp with hp | hp
     ·have := h.rng p hp;simp only; omega
     ·rw [List.mem_singleton.1 hp];exact ⟨hnum.1, Int.lt_succ nx⟩
    ·intro p hp;rcases List.mem_append.1 hp with hp | hp
     ·exact h.room p hp
     ·rw [List.mem_singleton.1 hp];exact ⟨hg.1, hr⟩
    ·intro p hp;rcases List.mem_append.1 hp with hp | hp
     ·exact h.name p hp
     ·rw [List.mem_singleton.1 hp];exact ⟨hg.2, hn⟩
    ·simp only;rw [inL_app];split
     ·rename_i he;have e : foldS room = foldS s := (eqS_iff _ _).1 he;have : inL L s = inL L room := by unfold inL; rw [e]
      rw [this];simp only [List.length_append, List.length_cons, List.length_nil];omega
     ·exact h.few s
    ·by_cases hx : foldS room ∈ roomsL L
     ·refine Nat.le_trans (nub_le fun x hx' => ?_) h.rooms;unfold roomsL at hx' ⊢;rw [List.map_append] at hx';rcases List.mem_append.1 hx' with q | q
      ·exact q
      ·simp only [List.map_cons, List.map_nil, List.mem_singleton] at q;rw [q]; exact hx
     ·have h0 : inL L room = [] := inL_nil.2 hx;have h8 := f2 (by rw [h0]; rfl)
      have : (nubL (roomsL (L ++ [⟨nx, name, room⟩]))).length ≤ (foldS room :: nubL (roomsL L)).length := nodup_len (nodup_nubL _) fun x hx' => by
       have := mem_nubL.1 hx';unfold roomsL at this;rw [List.map_append] at this;rcases List.mem_append.1 this with q | q
       ·exact List.mem_cons_of_mem _ (mem_nubL.2 q)
       ·simp only [List.map_cons, List.map_nil, List.mem_singleton] at q;rw [q]; exact List.mem_cons_self
      simp only [List.length_cons] at this;simp only;omega
 ·exact h
theorem Tbl.new : Tbl [] 0 := ⟨.nil, (fun _ h => by cases h), by omega, by decide, (fun _ h => by cases h), (fun _ h => by cases h), fun s => by simp [inL], by simp [roomsL, nubL]⟩
end Go.Proofs
