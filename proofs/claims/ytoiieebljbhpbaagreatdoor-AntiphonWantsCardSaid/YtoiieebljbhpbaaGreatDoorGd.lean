import Derived.Test.YtoiieebljbhpbaaGreatDoorM03
namespace Go.Ab
open Go.ChangeShapes Go.WideShapes Go.ChangeAt Go.RowKit
variable {H : Type} {enc : TypeId × Value → H} {P : Program}
def Sh2 (P : Program) : Nat → TypeId → List AV → Prop
 | 0, _, _ => False
 | n + 1, t, avs => match P.underlying t with
   | some .bool => ∃ b, avs = [.lit (.bool b)]
   | some (.int k) => ∃ m, avs = [.lit (.int k m)] ∧ (Lit.int k m).wf = true
   | some .string => ∃ s, avs = [.lit (.string s)] ∧ s.size ≤ maxLen
   | some (.slice e) => ∃ els, avs = [.sl els .no] ∧ (∀ q ∈ els, Sh2 P n e q) ∧ els.length ≤ maxLen
   | some (.struct fs) => ∃ parts : List (List AV), parts.length = fs.size ∧ avs = parts.flatten ∧ ∀ (j : Nat) f, fs[j]? = some f → ∃ q, parts[j]? = some q ∧ Sh2 P n f.type q
   | _ => False
def Sh2E (P : Program) (t : TypeId) (q : List AV) : Prop := ∃ n, Sh2 P n t q
def deepB (P : Program) (d : List TypeId) : Bool := d.all fun t => decide (t < P.types.size) && match P.underlying t with
 | some .bool | some (.int _) | some .string => true
 | some (.slice e) => d.contains e && decide (0 < P.cellsOf e)
 | some (.struct fs) => fs.toList.all fun f => d.contains f.type
 | _ => false
theorem RL.flat {g : G} : ∀ (A : List (List AV)) (B : List (List Value)), A.length = B.length → (∀ (j : Nat) a b, A[j]? = some a → B[j]? = some b → RL g a b) → RL g A.flatten B.flatten
 | [], [], _, _ => .nil
 | a :: A, b :: B, hl, h => (h 0 a b rfl rfl).app (RL.flat A B (by simpa using hl) fun j x y hx hy => h (j + 1) x y hx hy)
 | [], _ :: _, h, _ => by simp at h
 | _ :: _, [], h, _ => by simp at h
theorem pick {α : Type} {n : Nat} {Φ : Nat → α → Prop} (h : ∀ j, j < n → ∃ a, Φ j a) : ∃ l : List α, l.length = n ∧ ∀ j, j < n → ∃ a, l[j]? = some a ∧ Φ j a := by
 refine ⟨List.ofFn fun j : Fin n => (h j.1 j.2).choose, by simp, fun j hj => ⟨(h j hj).choose, ?_, (h j hj).choose_spec⟩⟩;simp [hj]
section
variable {w : World}
theorem add_none (b x y : Nat) : Addr.add ⟨b, x, none⟩ y = ⟨b, x + y, none⟩ := by
 unfold Addr.add; split
 ·rename_i h0; subst h0; rfl
 ·rfl
theorem spot_of_cells {a : Addr} {n : Nat} (hn : 0 < n) {cs : List Value} (h : w.cells? 0 (a.add 0) n = some cs) : a.spot = none := by
 obtain ⟨q1, q2⟩ := cells_get h;have h0 := q2 0 (by omega);have e : (a.add 0).add 0 = a := rfl;rw [e] at h0;exact World.cell?_spot h0
theorem slice_deep {n : Nat} {e : TypeId} (hpos : 0 < P.cellsOf e)
  (ih : ∀ (cs : List Value) (x : DataW H × List MemPlace), DataW.trod enc P w 0 (fun _ => true) true n e cs = some x → ∃ avs, RL (g0 w) avs cs ∧ Sh2 P n e avs ∧ ∀ v ∈ cs, v.oneCell' = true)
  {t : TypeId} (hu : P.underlying t = some (.slice e)) {cs : List Value} {x : DataW H × List MemPlace} (h : DataW.trod enc P w 0 (fun _ => true) true (n + 1) t cs = some x) :
  ∃ els v, cs = [v] ∧ R (g0 w) (.sl els .no) v ∧ v.oneCell' = true ∧ (∀ q ∈ els, Sh2 P n e q) ∧ els.length ≤ maxLen := by
 rcases DataW.trod_slice hu h with ⟨rfl, _⟩ | ⟨a, len, cap, elems, rest, m, hm, rfl, _, _, hlc, hcap, hel, hget, hspare, _⟩
 ·exact ⟨[], _, rfl, .nil _ trivial, rfl, by simp, by simp [maxLen]⟩
 ·cases hm;by_cases hc0 : cap = 0
  ·have hl0 : len = 0 := by omega
   subst hc0;subst hl0;exact ⟨[], _, rfl, .nil _ trivial, rfl, by simp, by simp [maxLen]⟩
  ·have hspot : a.spot = none := by
    by_cases hl0 : 0 < len
    ·have := hget 0 hl0;rw [List.getElem?_eq_getElem (by omega)] at this;obtain ⟨cs, h1, _⟩ := Option.bind_eq_some_iff.1 this;rw [Nat.zero_mul] at h1;exact spot_of_cells hpos h1
    ·have hl0 : len = 0 := by omega
     subst hl0;obtain ⟨r1, r2⟩ := hspare rfl;have := r2 0 (by omega);rw [List.getElem?_eq_getElem (by omega)] at this;obtain ⟨cs, h1, _⟩ := Option.bind_eq_some_iff.1 this;rw [Nat.add_zero, Nat.zero_mul] at h1;exact spot_of_cells hpos h1
   obtain ⟨ab, ao, asp⟩ := a;simp only at hspot;subst hspot
   have hrow : ∀ i, i < len → ∃ avs, ∃ cs, w.cells? 0 (Addr.add ⟨ab, ao, none⟩ (i * P.cellsOf e)) (P.cellsOf e) = some cs ∧ RL (g0 w) avs cs ∧ Sh2 P n e avs ∧ ∀ v ∈ cs, v.oneCell' = true := fun i hi => by
    have := hget i hi;rw [List.getElem?_eq_getElem (by omega)] at this;obtain ⟨cs, h1, h2⟩ := Option.bind_eq_some_iff.1 this;obtain ⟨avs, r1, r2, r3⟩ := ih cs _ h2;exact ⟨avs, cs, h1, r1, r2, r3⟩
   obtain ⟨els, hl, hE⟩ := pick hrow
   let row (i : Nat) : List Value := (w.cells? 0 (Addr.add ⟨ab, ao, none⟩ (i * P.cellsOf e)) (P.cellsOf e)).getD []
   have hr : ∀ i (hi : i < els.length), (row i).length = P.cellsOf e ∧ (∀ j (hj : j < (row i).length), w.cell? ⟨ab, ao + i * P.cellsOf e + j, none⟩ = some (row i)[j]) ∧ RL (g0 w) els[i] (row i) ∧ Sh2 P n e els[i] ∧ ∀ v ∈ row i, v.oneCell' = true := fun i hi => by
    obtain ⟨avs, e0, cs, h1, h2, h3, h4⟩ := hE i (by omega);rw [List.getElem?_eq_getElem hi] at e0;cases e0;have e1 : row i = cs := by simp only [row, h1, Option.getD_some]
    obtain ⟨q1, q2⟩ := cells_get h1;rw [e1];refine ⟨q1, fun j hj => ?_, h2, h3, h4⟩;rw [← q2 j hj, add_none, add_none]
   refine ⟨els, _, rfl, ?_, rfl, fun q hq => ?_, by omega⟩
   ·have := R.sl (g := g0 w) els .no ab ao (P.cellsOf e) cap (fun i j => (row i).getD j undef)
     (fun i hi => by
      obtain ⟨h1, _, h3, _⟩ := hr i hi;rw [← h1]; exact h3.length)
     (fun i j hi hj => by
      obtain ⟨h1, h2, _⟩ := hr i hi;rw [List.getD_eq_getElem?_getD, List.getElem?_eq_getElem (by omega)];exact h2 j (by omega))
     (fun i j _ _ => no_reg0 w _)
     (fun i j hi hj => by
      obtain ⟨_, _, h3, _⟩ := hr i hi;exact h3.get j hj)
     (fun i j hi hj => by
      obtain ⟨h1, _, _, _, h4⟩ := hr i hi;rw [List.getD_eq_getElem?_getD, List.getElem?_eq_getElem (by omega)];exact h4 _ (List.getElem_mem _))
     trivial (by omega)
    rwa [hl] at this
   ·obtain ⟨i, hi, rfl⟩ := List.mem_iff_getElem.1 hq;exact (hr i hi).2.2.2.1
theorem rel_deep (K : Kids P (· < P.types.size)) {d : List TypeId} (hd : deepB P d = true) : ∀ (n : Nat) (t : TypeId) (cs : List Value) (x : DataW H × List MemPlace), t ∈ d →
  DataW.trod enc P w 0 (fun _ => true) true n t cs = some x → ∃ avs, RL (g0 w) avs cs ∧ Sh2 P n t avs ∧ ∀ v ∈ cs, v.oneCell' = true := by
 intro n
 induction n with
 | zero => intro t cs x _ h; simp [DataW.trod] at h
 | succ n ih =>
   intro t cs x ht h;have hk := List.all_eq_true.1 hd t ht;simp only [Bool.and_eq_true, decide_eq_true_eq] at hk;obtain ⟨hsz, hk⟩ := hk;unfold Sh2;split at hk
   ·rename_i hu;obtain ⟨b, rfl, _⟩ := DataW.trod_bool hu h;exact ⟨_, .cons (.lit _) .nil, ⟨b, rfl⟩, by simp⟩
   ·rename_i k hu;obtain ⟨b, rfl, _, hw⟩ := DataW.trod_int hu h;exact ⟨_, .cons (.lit _) .nil, ⟨b, rfl, hw⟩, by simp⟩
   ·rename_i hu;obtain ⟨b, rfl, _, hw⟩ := DataW.trod_string hu h;exact ⟨_, .cons (.lit _) .nil, ⟨b, rfl, hw⟩, by simp⟩
   ·rename_i e hu;simp only [Bool.and_eq_true, decide_eq_true_eq, List.contains_eq_mem] at hk;obtain ⟨els, v, rfl, h1, h2, h3, h4⟩ := slice_deep hk.2 (fun cs x => ih e cs x hk.1) hu h;exact ⟨_, .cons h1 .nil, ⟨els, rfl, h3, h4⟩, by simpa using h2⟩
   ·rename_i fs hu;obtain ⟨xs, m, hm, _, hcl, hxl, hf⟩ := DataW.trod_struct hu h;cases hm;obtain ⟨_, hs2, hs3⟩ := K.struct hsz hu;obtain ⟨parts, p1, p2, p3⟩ := split_by (fs.toList.map fun f => P.cellsOf f.type) cs (by rw [hcl, hs2]);have hpl : parts.length = fs.size := by simpa using p1
    have hpart : ∀ j, j < fs.size → ∃ avs, ∃ q f, fs[j]? = some f ∧ parts[j]? = some q ∧ RL (g0 w) avs q ∧ Sh2 P n f.type avs ∧ ∀ v ∈ q, v.oneCell' = true := fun j hj0 => by
     have hj : fs[j]? = some fs[j] := by simp [hj0]
     have hj' : fs.toList[j]? = some fs[j] := by rw [Array.getElem?_toList]; exact hj
     have e := p3 j (P.cellsOf fs[j].type) (by simp [hj']);have ho := hs3 j fs[j] hj';rw [← List.map_take, ← ho] at e;have hx := hf j fs[j] hj;have hlt : j < xs.length := by rw [hxl]; exact hj0
     rw [List.getElem?_eq_getElem hlt] at hx
     have hmem : fs[j].type ∈ d := by
      have := List.all_eq_true.1 hk fs[j] (List.mem_of_getElem? hj');simpa using this
     obtain ⟨avs, r1, r2, r3⟩ := ih _ _ _ hmem hx;exact ⟨avs, _, fs[j], hj, e, r1, r2, r3⟩
    obtain ⟨A, a1, a2⟩ := pick hpart;refine ⟨A.flatten, ?_, ⟨A, a1, rfl, fun j f hj => ?_⟩, fun v hv => ?_⟩
    ·rw [p2];refine RL.flat A parts (by rw [a1, hpl]) fun j a b ha hb => ?_
     have hj : j < fs.size := by
      have := Lm hb;omega
     obtain ⟨a', e1, q, f, _, e2, r1, _⟩ := a2 j hj;rw [ha] at e1; cases e1;rw [hb] at e2; cases e2;exact r1
    ·have hj0 : j < fs.size := (Array.getElem?_eq_some_iff.1 hj).1;obtain ⟨a', e1, q, f', e3, e2, r1, r2, _⟩ := a2 j hj0;rw [hj] at e3; cases e3;exact ⟨a', e1, r2⟩
    ·rw [p2] at hv;obtain ⟨q, hq, hv⟩ := List.mem_flatten.1 hv;obtain ⟨j, hj, rfl⟩ := List.getElem_of_mem hq;obtain ⟨a', e1, q', f', e3, e2, r1, r2, r3⟩ := a2 j (by omega);rw [List.getElem?_eq_getElem hj] at e2;cases e2;exact r3 v hv
   ·cases hk
def ShV2 (P : Program) (t : TypeId) (av : AV) : Prop := match P.underlying t with
 | some (.struct _) => ∃ avs, av = .agg avs ∧ Sh2E P t avs
 | _ => Sh2E P t [av]
theorem RL.agg {g : G} {avs : List AV} {vs : List Value} (h : RL g avs vs) (h1 : ∀ v ∈ vs, v.oneCell' = true) : R g (.agg avs) (.agg vs.toArray) := by
 have hl := h.length
 have e : ∀ j (hj : j < avs.length), vs.toArray.getD j undef = vs.getD j undef := fun j hj => by
  have : j < vs.length := by omega
  simp [Array.getD, this]
 refine .agg _ _ (by simp [hl]) (fun j hj => ?_) (fun j hj => ?_)
 ·rw [e j hj]; exact h.get j hj
 ·rw [e j hj];have : j < vs.length := by omega
  rw [List.getD_eq_getElem?_getD, List.getElem?_eq_getElem this];exact h1 _ (List.getElem_mem _)
theorem rel_param2 (K : Kids P (· < P.types.size)) {d : List TypeId} (hd : deepB P d = true) {t : TypeId} {v : Value} {dw : DataW H} {ps : List MemPlace} {b : Nat} (ht : t ∈ d)
  (hv : Value.okWide P w .any b t v) (h : DataW.Trod enc P w 0 (fun _ => true) true t v dw ps) : ∃ av, R (g0 w) av v ∧ ShV2 P t av := by
 obtain ⟨n, h⟩ := h;have hk := List.all_eq_true.1 hd t ht;simp only [Bool.and_eq_true, decide_eq_true_eq] at hk;obtain ⟨_, hk⟩ := hk
 have one : (∀ fs, P.underlying t ≠ some (.struct fs)) → (∀ m e, P.underlying t ≠ some (.array m e)) → ∃ av, R (g0 w) av v ∧ Sh2E P t [av] := fun n1 n2 => by
  have hc : Cell.okWide P w .any b t v := by
   unfold Value.okWide at hv;split at hv
   ·rename_i fs hu; exact absurd hu (n1 fs)
   ·rename_i m e hu; exact absurd hu (n2 m e)
   ·exact hv
  have hcells : v.cells.toList = [v] := by
   cases v with
   | agg xs =>
     exfalso;unfold Cell.okWide at hc;cases hu : P.underlying t with
     | none => simp [Cell.ok, hu] at hc
     | some u => rw [hu] at hc; cases u <;> simp [Cell.ok, hu] at hc
   | _ => rfl
  rw [hcells] at h;obtain ⟨avs, r1, r2, _⟩ := rel_deep K hd n t _ _ ht h;cases r1 with
  | cons r r' =>
    cases r';exact ⟨_, r, n, r2⟩
 unfold ShV2;split at hk
 ·rename_i hu; have := one (by rw [hu]; simp) (by rw [hu]; simp); rw [hu]; exact this
 ·rename_i k hu; have := one (by rw [hu]; simp) (by rw [hu]; simp); rw [hu]; exact this
 ·rename_i hu; have := one (by rw [hu]; simp) (by rw [hu]; simp); rw [hu]; exact this
 ·rename_i e hu; have := one (by rw [hu]; simp) (by rw [hu]; simp); rw [hu]; exact this
 ·rename_i fs hu;rw [hu];unfold Value.okWide at hv;rw [hu] at hv;obtain ⟨cs, rfl, _⟩ := hv;obtain ⟨avs, r1, r2, r3⟩ := rel_deep K hd n t _ _ ht h;have := r1.agg r3;rw [show (Value.agg cs).cells.toList.toArray = cs from Array.toArray_toList] at this;exact ⟨_, this, avs, rfl, n, r2⟩
 ·cases hk
def ShAll2 (P : Program) : List TypeId → List AV → Prop
 | [], [] => True
 | t :: ts, a :: avl => ShV2 P t a ∧ ShAll2 P ts avl
 | _, _ => False
theorem rel_params2 (K : Kids P (· < P.types.size)) {d : List TypeId} (hd : deepB P d = true) {b : Nat} : ∀ {ts : List TypeId} {vs : List Value} {ds : List (DataW H)} {ps : List MemPlace},
  (∀ t ∈ ts, t ∈ d) → (∀ (j : Nat) t v, ts[j]? = some t → vs[j]? = some v → Value.okWide P w .any b t v) →
  DataW.TrodAll enc P w 0 (fun _ => true) true ts vs ds ps → ∃ avl, RL (g0 w) avl vs ∧ ShAll2 P ts avl
 | [], [], [], _, _, _, _ => ⟨[], .nil, trivial⟩
 | t :: ts, v :: vs, dw :: ds, ps, ht, hv, ⟨p, q, h1, h2, _⟩ => by
   obtain ⟨a, r1, r2⟩ := rel_param2 K hd (ht t (by simp)) (hv 0 t v rfl rfl) h1;obtain ⟨avl, s1, s2⟩ := rel_params2 K hd (fun t' h' => ht t' (by simp [h'])) (fun j t' v' hj hj' => hv (j + 1) t' v' (by simpa using hj) (by simpa using hj')) h2;exact ⟨a :: avl, .cons r1 s1, r2, s2⟩
end
theorem law_contract2 {C : Program} {f : FuncId} {fn : Func} {s : ChangeSpec} {tb : TypeId} {d : List TypeId}
  (hvars : s.vars = []) (hres : fn.resultTypes = #[tb]) (htb : C.underlying tb = some .bool)
  (hspec : ∀ ds : List (DataW H), ds.length = fn.params.toList.length → s.fn H ds = { results := [.lit (.bool true)], args := ds })
  (K : Kids C (· < C.types.size)) (hz : ((List.range C.types.size).all fun t => match C.underlying t with | some (.slice e) => decide (0 < C.cellsOf e) | _ => true) = true)
  (hd : deepB C d = true) (hT : (fn.params.toList.all fun t => decide (t < C.types.size) && d.contains t) = true)
  (call : ∀ avl, ShAll2 C fn.params.toList avl → ∃ o : Prop, o ∧ qao C f avl [] { av := .lit (.bool true), obl := o })
  (W : World) (hF : ∀ w' : World, (∀ b, b < W.heap.size → w'.heap[b]? = W.heap[b]?) → fctF w') (base : Nat) (args : Array Value) (ds gs : List (DataW H)) (before : List MemPlace)
  (hval : ∀ (j : Nat) t v, fn.params[j]? = some t → args[j]? = some v → Value.okWide C W .any base t v)
  (hW : DataW.Whole enc C fn.params.toList s.vars false W args.toList ds gs before) :
  Calls C f args W fun e W' => ∃ v, e = .returned v ∧ s.post enc C fn false true false false W args v W' := by
 have hW' := hW;obtain ⟨p, q, hA, hV, rfl, hfz, hnd⟩ := hW;rw [hvars] at hV;obtain ⟨rfl, rfl⟩ := trodVars_none hV
 have hT' : ∀ t ∈ fn.params.toList, t < C.types.size ∧ t ∈ d := fun t ht => by
  have := List.all_eq_true.1 hT t ht;simp only [Bool.and_eq_true, decide_eq_true_eq] at this;exact ⟨this.1, by simpa using this.2⟩
 obtain ⟨avl, r1, r2⟩ := rel_params2 K hd (fun t ht => (hT' t ht).2) (fun j t v hj hj' => hval j t v (by simpa using hj) (by simpa using hj')) hA;obtain ⟨o, ho, hc⟩ := call avl r2;have hw := walk_of_call hc r1 ho hF;rw [Array.toArray_toList] at hw;refine hw.mono fun e W' ⟨he, hg⟩ => ⟨_, he, ?_⟩;have hs := hspec ds (trodAll_len hA);refine post_of_past (pa := p) (pv := []) hW' (fun _ _ _ => ?_) (fun sp hsp => ?_) (fun sp _ => ?_) rfl hg (ok_one hres rfl (okWide_bool_mk htb _))
 ·rw [List.append_nil, hs, hres];exact trodAll_mk1 (shut_bool htb _)
 ·rw [List.append_nil, hs];exact trodAll_past K (fun h1 h2 => slices_full_of C hz _ _ h1 h2) hg (fun t ht => (hT' t ht).1) hA (fun x hx => hW'.lt x (by simpa using hx)) (fun x hx => hsp x (by simpa using hx))
 ·rw [List.append_nil, hs, hvars];rfl
theorem law_lifted_deep {C : Checked} {os : Os} {f : FuncId} {fn : Func} {s : ChangeSpec} {conds : List PathCond} {tb : TypeId} {d : List TypeId} {laid : List (String × DataW Unit)}
  (own : ownKnob C.prog.godebug = none) (started : os.Started) (noInit : C.prog.inits.idxOf? f = none) (hfn : C.prog.funcs[f]? = some fn)
  (witness : ∃ (w : World) (tape : Tape) (i : Input), w.os = os ∧ (w.forCall tape i).Shaped C.prog ∧ i.vars = [] ∧ Input.okWide C.prog (w.forCall tape i) .any w.heap.size f i ∧
   ((s.pre enc C.prog fn conds false (w.forCall tape i).memory i.args ∧ laidMetH C.prog laid (w.forCall tape i).memory) ∧ sizedMet enc C.prog fn (OpenSpec.ofChange s) false (w.forCall tape i).memory i.args) ∧ ({} : Assume).holds C.prog (lone (Frame.enter C.prog f i.args .normal) [] (w.forCall tape i)))
  (hvars : s.vars = []) (hres : fn.resultTypes = #[tb]) (htb : C.prog.underlying tb = some .bool)
  (hspec : ∀ ds : List (DataW H), ds.length = fn.params.toList.length → s.fn H ds = { results := [.lit (.bool true)], args := ds })
  (K : Kids C.prog (· < C.prog.types.size)) (hz : ((List.range C.prog.types.size).all fun t => match C.prog.underlying t with | some (.slice e) => decide (0 < C.prog.cellsOf e) | _ => true) = true)
  (hd : deepB C.prog d = true) (hT : (fn.params.toList.all fun t => decide (t < C.prog.types.size) && d.contains t) = true)
  (call : ∀ avl, ShAll2 C.prog fn.params.toList avl → ∃ o : Prop, o ∧ qao C.prog f avl [] { av := .lit (.bool true), obl := o })
  (hF : ∀ w : World, laidMetH C.prog laid w → ∀ w' : World, (∀ b, b < w.heap.size → w'.heap[b]? = w.heap[b]?) → fctF w') :
  ReturnsInHanded {} C os f .any (fun w args => (s.pre enc C.prog fn conds false w args ∧ laidMetH C.prog laid w) ∧ sizedMet enc C.prog fn (OpenSpec.ofChange s) false w args) (s.post enc C.prog fn false true false false) := by
 refine returnsInHanded_of_change_and (X := fun w _ => laidMetH C.prog laid w) (fun _ _ _ hh h => h.of_heap hh) own started noInit hfn witness ?_;intro W base args ds gs before hval hW _ _ hL _;exact law_contract2 hvars hres htb hspec K hz hd hT call W (hF W hL) base args ds gs before hval hW
section
variable {t e : TypeId} {k : IntKind} {av : AV} {q : List AV}
theorem sh2_int (hu : P.underlying t = some (.int k)) (h : Sh2E P t q) : ∃ n, q = [.lit (.int k n)] ∧ (Lit.int k n).wf = true := by
 obtain ⟨n, h⟩ := h;cases n with
 | zero => exact h.elim
 | succ n => unfold Sh2 at h; rw [hu] at h; exact h
theorem sh2_bool (hu : P.underlying t = some .bool) (h : Sh2E P t q) : ∃ b, q = [.lit (.bool b)] := by
 obtain ⟨n, h⟩ := h;cases n with
 | zero => exact h.elim
 | succ n => unfold Sh2 at h; rw [hu] at h; exact h
theorem sh2_string (hu : P.underlying t = some .string) (h : Sh2E P t q) : ∃ s, q = [.lit (.string s)] ∧ s.size ≤ maxLen := by
 obtain ⟨n, h⟩ := h;cases n with
 | zero => exact h.elim
 | succ n => unfold Sh2 at h; rw [hu] at h; exact h
theorem sh2_slice (hu : P.underlying t = some (.slice e)) (h : Sh2E P t q) : ∃ els, q = [.sl els .no] ∧ (∀ r ∈ els, Sh2E P e r) ∧ els.length ≤ maxLen := by
 obtain ⟨n, h⟩ := h;cases n with
 | zero => exact h.elim
 | succ n =>
   unfold Sh2 at h; rw [hu] at h;obtain ⟨els, h1, h2, h3⟩ := h;exact ⟨els, h1, fun r hr => ⟨n, h2 r hr⟩, h3⟩
theorem rows_of {T : Type} {enc : T → List AV} {wf : T → Prop} {els : List (List AV)} (h : ∀ r ∈ els, ∃ x, r = enc x ∧ wf x) : ∃ l : List T, els = l.map enc ∧ ∀ x ∈ l, wf x := by
 induction els with
 | nil => exact ⟨[], rfl, fun _ h => by cases h⟩
 | cons r els ih =>
   obtain ⟨x, h1, h2⟩ := h r (List.mem_cons_self);obtain ⟨l, h3, h4⟩ := ih fun r hr => h r (List.mem_cons_of_mem _ hr)
   exact ⟨x :: l, by rw [h1, h3]; rfl, fun y hy => by
    rcases List.mem_cons.1 hy with rfl | hy
    ·exact h2
    ·exact h4 y hy⟩
theorem sh2_ints (hu : P.underlying t = some (.slice e)) (he : P.underlying e = some (.int k)) (h : Sh2E P t q) : ∃ l : List Int, q = [.sl (l.map (eNum k)) .no] ∧ l.length ≤ maxLen ∧ ∀ x ∈ l, (Lit.int k x).wf = true := by
 obtain ⟨els, rfl, h1, h2⟩ := sh2_slice hu h
 obtain ⟨l, rfl, h4⟩ := rows_of (enc := eNum k) (wf := fun x => (Lit.int k x).wf = true) fun r hr => by
  obtain ⟨x, h3, h4⟩ := sh2_int he (h1 r hr);exact ⟨x, h3, h4⟩
 exact ⟨l, rfl, by simpa using h2, h4⟩
theorem shV2_flat {d : TypeDesc} (hu : P.underlying t = some d) (hs : ∀ fs, d ≠ .struct fs) (h : ShV2 P t av) : Sh2E P t [av] := by
 unfold ShV2 at h; rw [hu] at h;cases d <;> first | exact h | exact absurd rfl (hs _)
def ShFs2 (P : Program) : List TypeId → List AV → Prop
 | [], q => q = []
 | t :: ts, q => ∃ r q', q = r ++ q' ∧ Sh2E P t r ∧ ShFs2 P ts q'
theorem shFs2_of : ∀ {ts : List TypeId} {parts : List (List AV)}, parts.length = ts.length → (∀ (j : Nat) (t : TypeId), ts[j]? = some t → ∃ r, parts[j]? = some r ∧ Sh2E P t r) → ShFs2 P ts parts.flatten
 | [], [], _, _ => rfl
 | [], _ :: _, h, _ => by simp at h
 | _ :: _, [], h, _ => by simp at h
 | t :: ts, p :: parts, h, hp => by
   obtain ⟨r, h1, h2⟩ := hp 0 t rfl;cases h1;exact ⟨p, parts.flatten, by simp, h2, shFs2_of (by simpa using h) fun j t' ht => hp (j + 1) t' ht⟩
theorem shV2_fields {fs : Array Field} {l : List TypeId} (hu : P.underlying t = some (.struct fs)) (hl : fs.toList.map (·.type) = l) (h : ShV2 P t av) : ∃ avs, av = .agg avs ∧ ShFs2 P l avs := by
 unfold ShV2 at h;rw [hu] at h;obtain ⟨avs, rfl, n, h⟩ := h;refine ⟨avs, rfl, ?_⟩;cases n with
 | zero => exact h.elim
 | succ n =>
   unfold Sh2 at h;rw [hu] at h;obtain ⟨parts, h1, rfl, h3⟩ := h;refine shFs2_of (by rw [h1, ← hl]; simp) fun j t' hj => ?_;rw [← hl] at hj;simp only [List.getElem?_map, Array.getElem?_toList] at hj;cases hf : fs[j]? with
   | none => rw [hf] at hj; cases hj
   | some f =>
     rw [hf] at hj;simp only [Option.map_some, Option.some.injEq] at hj;subst hj;obtain ⟨q, e1, e2⟩ := h3 j f hf;exact ⟨q, e1, n, e2⟩
theorem sh2_fields {fs : Array Field} {l : List TypeId} (hu : P.underlying t = some (.struct fs)) (hl : fs.toList.map (·.type) = l) (h : Sh2E P t q) : ShFs2 P l q := by
 obtain ⟨_, e, h'⟩ := shV2_fields hu hl (show ShV2 P t (.agg q) by unfold ShV2; rw [hu]; exact ⟨q, rfl, h⟩);cases e; exact h'
theorem sh2_struct {l : List (Nat × TypeId)} {size bytes : Nat} {z : List AV} {eq : Bool} (ht : tyOf P t = some ⟨.struct l, size, bytes, z, eq⟩) (h : Sh2E P t q) : ShFs2 P (l.map (·.2)) q := by
 unfold tyOf at ht;split at ht
 ·rename_i i d hi hd;split at ht
  ·split at ht
   ·simp only [Option.some.injEq, TyI.mk.injEq] at ht;obtain ⟨hk, _⟩ := ht;cases d with
    | struct fs =>
      simp only [kindOf, TyK.struct.injEq] at hk;exact sh2_fields hd (by rw [← hk]; simp) h
    | _ => simp [kindOf] at hk
   ·cases ht
  ·cases ht
 ·cases ht
theorem shAll2_cons {ts : List TypeId} {avl : List AV} (h : ShAll2 P (t :: ts) avl) : ∃ a avl', avl = a :: avl' ∧ ShV2 P t a ∧ ShAll2 P ts avl' := by
 cases avl with
 | nil => exact h.elim
 | cons a avl' => exact ⟨a, avl', rfl, h.1, h.2⟩
theorem shAll2_nil {avl : List AV} (h : ShAll2 P [] avl) : avl = [] := by
 cases avl with
 | nil => rfl
 | cons a avl' => exact h.elim
end
end Go.Ab
