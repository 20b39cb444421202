import Derived.Test.YtpamnignoocogaaGreatDoorM09
import Derived.Shelf.SlIter.Nil
section
namespace Go.Ab
variable {P : Program} {ty : TyTab} {Γ : Gam} {n B : Nat} {Q : Exit → St → Prop} {σ : St}
section
variable {K V : Type} {kt : TypeId} {eq : K → K → Bool} {enc : K → List AV} {dec : List AV → K} {vE : V → AV} {k : List AV}
end
def kval : AV → Option Value
 | .lit k => some k
 | .agg cells => if cells.all isLit = true then some (keyVal cells) else none
 | _ => none
theorem R.kvalEq {g : G} {a : AV} {v k : Value} (h : R g a v) (e : Ab.kval a = some k) : v = k := by
 unfold Ab.kval at e;split at e
 ·cases e; exact h.lit_inv
 ·split at e
  ·rename_i hl; cases e; exact h.keyVal hl
  ·cases e
 ·cases e
theorem R.of_kval {g : G} {a : AV} {k : Value} (e : Ab.kval a = some k) : R g a k := by
 unfold Ab.kval at e;split at e
 ·cases e; exact .lit _
 ·split at e
  ·rename_i hl; cases e; exact R.ofKey hl
  ·cases e
 ·cases e
theorem next_mapK {g : G} (sm : Sim g) {i t : Nat} {es : List (AV × AV)} {vis : List Value} {cur : Option Value} (hM : g.M[i]? = some (.mapr es vis cur t)) (hk : ∀ p ∈ es, ∃ k, kval p.1 = some k) (ty : TypeId) {a : Value} (ha : R g (.it t) a) :
  ((∀ c k v, (c, v) ∈ es → kval c = some k → k ∈ vis) ∧ (Instr.next a false ty).run P g.w = .ok (.tuple #[.bool false]) g.w) ∨
  ∃ c k v u w', kval c = some k ∧ k ∉ vis ∧ (c, v) ∈ es ∧ (Instr.next a false ty).run P g.w = .ok (.tuple #[.bool true, k, u]) w' ∧
    Sim (g.put i (.mapr es (k :: vis) (some k) t) (g.ρ i) w') ∧ Keep g (g.put i (.mapr es (k :: vis) (some k) t) (g.ρ i) w') := by
 cases ha with
 | it _ ht =>
 obtain ⟨t1, t2, o1, oi, hb, hbi, ents, clock, seen, rfl, rfl, ⟨ents', clock', hee, hst, hl, hes⟩, hseen, hcur⟩ := sm.mapr i es vis cur t hM;cases hee;rw [← t2];have hlt := Ll sm hM (.inl rfl);have hlti := Ll sm hM (.inr rfl);have hne : g.β i ≠ (g.ρ i).b := fun h => by rw [h, hbi] at hb; cases hb
 have hkeys : ∀ (j : Nat) (h : j < es.length), kval es[j].1 = some (ents.toList.getD j default).key := fun j hj => by
  obtain ⟨k, hk'⟩ := hk es[j] (List.getElem_mem hj);rw [hk', (hes j hj).1.kvalEq hk']
 rcases run_next_at (P := P) g.w ty (g.ρ i).b (g.β i) clock clock seen ents clock hbi hb hst.1 (Nat.le_refl _) with ⟨h1, h2⟩ | ⟨e, h1, w1, h2, h3⟩
 ·left;refine ⟨fun c k v hkv hck => ?_, h2⟩;obtain ⟨j, hj, hjj⟩ := List.mem_iff_getElem.1 hkv;have q2 := hkeys j hj;rw [hjj] at q2;have q3 := Option.some.inj (hck.symm.trans q2);have hj' : j < ents.toList.length := by omega
  have hge : ents.toList.getD j default = ents.toList[j] := by simp [List.getD_eq_getElem?_getD, List.getElem?_eq_getElem hj']
  rw [hge] at q3;rw [q3];refine (hseen _ (List.getElem_mem hj')).1 ?_;have h0 : leftOf ents seen = #[] := Array.eq_empty_of_size_eq_zero h1;unfold leftOf at h0;rw [Array.filter_eq_empty_iff] at h0;have := h0 ents.toList[j] (by simp);simpa using this
 ·right
  obtain ⟨m1, m2⟩ : e ∈ ents.toList ∧ seen.contains e.born = false := by
   unfold leftOf at h1;simpa using h1
  have hnv : e.key ∉ vis := fun h => by have := (hseen e m1).2 h; rw [m2] at this; cases this
  obtain ⟨j, hj, hje⟩ := List.mem_iff_getElem.1 m1;have q2 := hkeys j (by omega);have hge : ents.toList.getD j default = e := by simp [List.getD_eq_getElem?_getD, List.getElem?_eq_getElem hj, hje]
  rw [hge] at q2;have hh : w1.heap = g.w.heap := by rcases h2 with rfl | rfl <;> rfl
  have hW : ∀ q, q ≠ (g.ρ i).b → (ChangeMaps.setBlock w1 (g.ρ i).b (.mapIter (some (g.β i)) clock (seen.push e.born) clock)).heap[q]? = g.w.heap[q]? := fun q hq => by
   simp only [ChangeMaps.setBlock, hh];exact Array.getElem?_setIfInBounds_ne (Ne.symm hq)
  have hWi : (ChangeMaps.setBlock w1 (g.ρ i).b (.mapIter (some (g.β i)) clock (seen.push e.born) clock)).heap[(g.ρ i).b]? = some (.mapIter (some (g.β i)) clock (seen.push e.born) clock) := by
   simp [ChangeMaps.setBlock, hh, hlti]
  have hWs : (ChangeMaps.setBlock w1 (g.ρ i).b (.mapIter (some (g.β i)) clock (seen.push e.born) clock)).heap.size = g.w.heap.size := by
   simp [ChangeMaps.setBlock, hh]
  have hio : SameIO g.w (ChangeMaps.setBlock w1 (g.ρ i).b (.mapIter (some (g.β i)) clock (seen.push e.born) clock)) := by rcases h2 with rfl | rfl <;> exact ⟨rfl, rfl⟩
  have hin : Within g i (.mapr es (e.key :: vis) (some e.key) t) (g.ρ i) := fun a ha => .inl ⟨_, hM, ha⟩
  have hoth : ∀ q, q < g.w.heap.size → ¬ (AObj.mapr es vis cur t).whole (g.β i) (g.ρ i) q → (ChangeMaps.setBlock w1 (g.ρ i).b (.mapIter (some (g.β i)) clock (seen.push e.born) clock)).heap[q]? = g.w.heap[q]? :=
   fun q _ hq => hW q fun h => hq (.inr h)
  have hjn : ∀ x ∈ ents.toList, x.key = e.key → x = e := fun x hx hxe => nodup_inj hst.2.2 hx m1 hxe;have hjb : ∀ x ∈ ents.toList, x.born = e.born → x = e := fun x hx hxe => nodup_inj hst.2.1 hx m1 hxe
  refine ⟨es[j].1, e.key, es[j].2, e.val, _, q2, hnv, List.getElem_mem (by omega), h3, sim_turn (q := .map ents clock) (qi := .mapIter (some (g.β i)) clock (seen.push e.born) clock) sm hM (fun _ h => h) hin (Nat.le_of_eq hWs.symm) hoth hio (by rw [hWs]; exact hlti) t1 t2
   ((hW _ hne).trans hb) hWi ⟨ents, clock, seen.push e.born, rfl, rfl, ⟨ents, clock, rfl, hst, hl, hes⟩, fun x hx => ?_, fun k' hk' => ?_⟩, keep_turn sm hM (fun _ h => h) hin (Nat.le_of_eq hWs.symm) hoth hio⟩
  ·simp only [Array.contains_push, Bool.or_eq_true, beq_iff_eq];constructor
   ·rintro (h | h)
    ·exact List.mem_cons_of_mem _ ((hseen x hx).1 h)
    ·rw [hjb x hx h]; simp
   ·intro h;rcases List.mem_cons.1 h with h | h
    ·exact .inr (by rw [hjn x hx h])
    ·exact .inl ((hseen x hx).2 h)
  ·cases hk';exact ⟨e.born, by simp, fun x hx hxe => by rw [hjn x hx hxe]⟩
theorem AWp.regNextK (hty : TyOk P ty) (hΓ : GamOk P Γ) {id t u i d1 : Nat} {ops : Array Oper} {o1 : Oper} {rest : List Oper} (ho : ops.toList = o1 :: rest) (ho1 : o1.op = .next (.tmp t) false) (hg : o1.guard = none)
  (hd1 : o1.dst = some d1) {keep dead : List Nat} (hd : dstsOk ops n ops.toList [] = true) (hn : noTags σ.A = true) {es : List (AV × AV)} {vis : List Value} {cur : Option Value}
  (he : ent σ.A t = some (none, .it u)) (hM : σ.M[i]? = some (.mapr es vis cur u)) (hk : ∀ p ∈ es, ∃ k, kval p.1 = some k)
  (h0 : (∀ c k v, (c, v) ∈ es → kval c = some k → k ∈ vis) → ∃ σ', regE keep dead ops.toList σ σ' (runR ty Γ ops rest (⟨d1, none, .tup [.lit (.bool false)]⟩ :: σ.A) σ.M) ∧ Q .normal σ')
  (h1 : ∀ c k v x, kval c = some k → k ∉ vis → (c, v) ∈ es → ∃ σ', regE keep dead ops.toList σ σ' (runR ty Γ ops rest (⟨d1, none, .tup [.lit (.bool true), c, .lit x]⟩ :: σ.A) (σ.M.set i (.mapr es (k :: vis) (some k) u))) ∧ Q .normal σ') :
  AWp P n B (.region id ops false) Q σ := by
 obtain ⟨A, M⟩ := σ;intro g0 g a at_;have hgM : g.M = M := at_.mem
 have htags : tagsIn A [] := fun e he τ hτ => by
  have := List.all_eq_true.1 hn e he;simp [hτ] at this
 have hd' := hd;rw [ho] at hd';unfold dstsOk at hd';rw [hd1] at hd';simp only [Bool.and_eq_true] at hd';obtain ⟨hda, hdb⟩ := hd';have htag : tagOf ops o1 = some none := by unfold tagOf; rw [hg]
 rw [htag] at hdb
 have hdl : d1 < a.tmps.size := by
  rw [at_.size];simpa using hda
 have tail : ∀ (g' : G) (v : Value) (av : AV) (M2 : List AObj), Sim g' → Keep g g' → g'.X = g.X → g'.M = M2 → R g' av v →
   (∃ σ', regE keep dead ops.toList ⟨A, M⟩ σ' (runR ty Γ ops rest (⟨d1, none, av⟩ :: A) M2) ∧ Q .normal σ') →
   wpList P ops (fun e a' w' => ∃ σ' g', Q e σ' ∧ g'.w = w' ∧ At n B g0 g' a' σ') rest (a.put (some d1) v) g'.w := by
  rintro g' v av M2 s' k hx hM2 hr ⟨⟨A', M'⟩, q, hQ⟩;unfold regE at q;split at q
  ·rename_i recs A1 M1 hrun;obtain ⟨q1, q2, q3⟩ := q;simp only at q2 q3;subst q2;subst q3
   have hA' : EnvRel g' (⟨d1, none, av⟩ :: A) (a.put (some d1) v).tmps :=
    (EnvRel.keep k at_.env).put (dst := some d1) (tag := none) (fun d hd => by cases hd; exact ⟨hdl, free_of htags (by simp), fun τ hτ => by cases hτ⟩) hr
   refine run_text hty hΓ n rest hrun q1 hdb (fun e he τ hτ => ?_) (by rw [size_put]; exact at_.size) hM2 s' hA' fun a' g'' r1 r2 r3 rx r4 r5 r6 => ?_
   ·rcases List.mem_cons.1 he with rfl | he
    ·cases hτ
    ·exact htags e he τ hτ
   ·refine ⟨_, g'', hQ, rfl, at_.base, (rx.trans hx).trans at_.ax, (at_.keep.trans k).trans r5, r3, r4, keepE_rel r6 ?_ keep, r1, by rw [r2, defers_put]; exact at_.defers⟩;rw [without_app];refine without_rel fun t' tag av' he' => ?_;rw [without_ent] at he';split at he'
    ·cases he'
    ·rename_i hc;have hdst : dstL ops.toList = d1 :: dstL rest := by rw [ho, dstL, hd1]
     rw [hdst] at hc;simp only [List.contains_cons, Bool.or_eq_true, beq_iff_eq, not_or, Bool.not_eq_true] at hc;refine r6 t' tag av' ?_;rw [run_ent hrun t' (by simpa using hc.2), ent, if_neg (fun h => hc.1 h.symm)];exact he'
  ·exact q.elim
 refine wp_region_list ?_;rw [ho];unfold wpList;rw [wanted_iff htag];simp only [tagB, if_true];left;have hx : R g (.it u) (a.tmps.getD t undef) := at_.env t none _ he
 have hDoes : ∀ {v : Value} {w' : World}, (Instr.next (a.tmps.getD t undef) false o1.type).run P g.w = .ok v w' → Does P o1 a g.w (fun v' w'' => v' = v ∧ w'' = w') := by
  intro v w' hrun;obtain ⟨dst, op, type, pos, after, guard⟩ := o1;simp only at ho1 hrun;subst ho1;unfold Does;show After P _ ((do pure (Next.value (← Instr.next (a.tmps.getD t undef) false type))).run P g.w);rw [Sem.run_bind, hrun];exact ⟨rfl, rfl⟩
 rcases next_mapK (P := P) at_.sim (by rw [hgM]; exact hM) hk o1.type hx with ⟨q1, q2⟩ | ⟨c, k, v, x, w', q0, q1, q2, q3, q4, q5⟩
 ·refine (hDoes q2).wp fun v' w'' hv => ?_;obtain ⟨rfl, rfl⟩ := hv;rw [hd1];refine tail g _ (.tup [.lit (.bool false)]) M at_.sim (Keep.refl g) rfl hgM (.tup _ _ rfl fun j hj => ?_) (h0 q1)
  match j, hj with
  | 0, _ => exact .lit _
 ·refine (hDoes q3).wp fun v' w'' hv => ?_;obtain ⟨rfl, rfl⟩ := hv;rw [hd1];refine tail _ _ (.tup [.lit (.bool true), c, .lit x]) _ q4 q5 rfl (by show g.M.set i _ = _; rw [hgM]) (.tup _ _ rfl fun j hj => ?_) (h1 c k v x q0 q1 q2)
  match j, hj with
  | 0, _ => exact .lit _
  | 1, _ => exact R.of_kval q0
  | 2, _ => exact .lit _
section
variable {K V X : Type} {kE : K → AV} {kv : K → Value} {vE : V → AV}
theorem nodup_le {α : Type} : ∀ {l m : List α}, l.Nodup → (∀ x ∈ l, x ∈ m) → l.length ≤ m.length
 | [], _, _, _ => Nat.zero_le _
 | a :: l, m, h, hs => by
   rw [List.nodup_cons] at h;obtain ⟨m1, m2, rfl⟩ := List.append_of_mem (hs a (List.mem_cons_self))
   have := nodup_le (l := l) (m := m1 ++ m2) h.2 fun x hx => by
    have hx' := hs x (List.mem_cons_of_mem _ hx);rcases List.mem_append.1 hx' with q | q
    ·exact List.mem_append.2 (.inl q)
    ·rcases List.mem_cons.1 q with rfl | q
     ·exact absurd hx h.1
     ·exact List.mem_append.2 (.inr q)
   simp only [List.length_append, List.length_cons] at this ⊢;omega
end
end Go.Ab
end
section
namespace Go.Ab
open Go.Proofs Go.Shelf Go.Sort Go.Maps
def keysVS (es : List (AV × AV)) : List ByteArray := es.map fun e => dkS e.1
def StrKeys (es : List (AV × AV)) : Prop := ∀ e ∈ es, e.1 = kS (dkS e.1)
@[simp] theorem keysVS_nil : keysVS [] = [] := rfl
def KeysBS (l : List ByteArray) : Prop := (∀ x ∈ l, x.size ≤ maxLen) ∧ l.length * 16 ≤ 140737488355328
def kbytesOf (x : ByteArray) : List UInt8 := x.data.toList
def kofBytes (x : List UInt8) : ByteArray := ⟨x.toArray⟩
def sortS (l : List ByteArray) : List ByteArray := ((l.map kbytesOf).mergeSort fun x y => decide (x ≤ y)).map kofBytes
theorem R.ownsRowG {α : Type} (f : α → Value) (hf : ∀ a, (f a).oneCell' = true) {g : G} {w' : World} (sm : Sim g) {e : TypeId} {v : Value} {l : List α} (h : w'.ownsRow g.w.heap.size e 1 v l.length (l.map f)) :
  R { g with w := w' } (.sl (l.map fun a => [.lit (f a)]) .no) v := by
 rcases h.2 with ⟨rfl, hz⟩ | ⟨gb, cap, cur, rfl, hbase, hgb, hcap, _, hsz, htake⟩
 ·have : l = [] := List.eq_nil_of_length_eq_zero hz;subst this;exact .nil _ trivial
 ·have hlen : (l.map fun a => [AV.lit (f a)]).length = l.length := by simp
  have q : R { g with w := w' } (.sl (l.map fun a => [.lit (f a)]) .no) (.slice (some ⟨gb, 0, none⟩) (l.map fun a => [AV.lit (f a)]).length cap) := by
   have hcur : ∀ i (hi : i < l.length), cur[i]? = some (f l[i]) := fun i hi => by
    have : (cur.toList.take (l.length * 1))[i]? = some (f l[i]) := by
     rw [htake, List.getElem?_map];simp [hi]
    rw [List.getElem?_take_of_lt (by omega)] at this;simpa using this
   refine .sl _ .no gb 0 1 cap (fun i _ => ((l[i]?).map f).getD undef) (fun i hi => by simp) (fun i j hi hj => ?_) (fun i j hi hj hr => ?_) (fun i j hi hj => ?_) (fun i j hi hj => ?_) trivial (by omega)
   ·have hj0 : j = 0 := by omega
    subst hj0;have hi' : i < l.length := by omega
    have := hcur i hi';simp only [World.cell?, hgb, Nat.zero_add, Nat.mul_one, Nat.add_zero];rw [List.getElem?_eq_getElem hi'];simpa using this
   ·have := sm.inb _ hr;simp only at this;omega
   ·have hj0 : j = 0 := by simp at hj; omega
    subst hj0;have hi' : i < l.length := by omega
    simp only [List.getElem_map, List.getElem_cons_zero];rw [List.getElem?_eq_getElem hi'];exact .lit _
   ·have hi' : i < l.length := by omega
    rw [List.getElem?_eq_getElem hi'];exact hf _
  rw [hlen] at q; exact q
theorem ownsS_of {g : G} (sm : Sim g) {i : Nat} {es : List (AV × AV)} (hM : g.M[i]? = some (.mapo es)) (hk : StrKeys es) (hb : KeysBS (keysVS es)) {P : Program} {k : TypeId} (hkt : P.underlying k = some .string) :
  ∃ (D0 : DataW Unit) (R0 : Value → Option (DataW Unit × List MemPlace)), g.w.ownsMap P k R0 (g.β i) es.length D0 ∧ (strKeys D0).Perm ((keysVS es).map kbytesOf) ∧ Maps.size D0 = es.length := by
 obtain ⟨ents, clock, hh, hst, he⟩ := map_at sm hM;have hlen := he.len;simp only [Array.length_toList] at hlen
 have hkey : ∀ (es : List (AV × AV)) (l : List MapEntry), EntR g es l → StrKeys es → l.map (·.key) = (keysVS es).map .string := by
  intro es l h
  induction h with
  | nil => intro _; rfl
  | @cons a v es e l hk hv r ih =>
    intro q;have h1 := q (a, v) (.head _);simp only at h1;rw [h1] at hk;have h2 : e.key = .string (dkS a) := hk.lit_inv;simp only [List.map_cons, keysVS, h2];rw [ih fun e he => q e (.tail _ he)]; rfl
 have hks := hkey es ents.toList he hk
 have hread : ∀ x ∈ ents.toList, ∃ n : ByteArray, x.key = .string n ∧ n ∈ keysVS es := fun x hx => by
  have : x.key ∈ ents.toList.map (·.key) := List.mem_map.2 ⟨x, hx, rfl⟩;rw [hks] at this;obtain ⟨n, hn, e⟩ := List.mem_map.1 this;exact ⟨n, e.symm, hn⟩
 let R0 : Value → Option (DataW Unit × List MemPlace) := fun _ => some (.nil, [])
 have hrd : ∀ x ∈ ents.toList, ∃ n : ByteArray, x.key = .string n ∧ WideElems.rd P k R0 x = some (.string (kbytesOf n), .nil) := fun x hx => by
  obtain ⟨n, hn, hmem⟩ := hread x hx;refine ⟨n, hn, ?_⟩;have hsz := hb.1 n hmem;simp only [WideElems.rd, hn, R0, Option.map_some]
  have : keyOf P k (.string n) = some (.string (kbytesOf n)) := by
   simp [keyOf, hkt, mapKey, kbytesOf];exact hsz
  rw [this];rfl
 refine ⟨.map ((ents.toList.map (WideElems.rg P k R0)).foldr DataW.insert []), R0, ⟨ents, clock, hh, ⟨?_, hst, fun x hx => ?_⟩, by omega, rfl⟩, ?_, ?_⟩
 ·have := hb.2;simp only [keysVS, List.length_map] at this;simp only [maxLen]; omega
 ·obtain ⟨n, _, h⟩ := hrd x hx;exact ⟨_, h⟩
 ·show (((ents.toList.map (WideElems.rg P k R0)).foldr DataW.insert []).map fun p => strOf p.1).Perm _;refine ((WideShapes.sorted_perm _).map _).trans ?_;rw [List.map_map]
  have : ents.toList.map ((fun p => strOf p.1) ∘ WideElems.rg P k R0) = (keysVS es).map kbytesOf := by
   have h2 : (ents.toList.map (·.key)).map (fun v => match v with | .string n => kbytesOf n | _ => []) = (keysVS es).map kbytesOf := by
    rw [hks, List.map_map];exact List.map_congr_left fun n _ => rfl
   rw [← h2, List.map_map];refine List.map_congr_left fun x hx => ?_;obtain ⟨n, h3, h4⟩ := hrd x hx;simp only [Function.comp, WideElems.rg, h4, Option.getD_some, strOf, h3]
  rw [this]
 ·rw [Maps.size_eq, Go.length_read]; omega
theorem keysS_okZ {P : Program} {ρ : Ren} (L : SlLaysZ.n7 P ρ) {f k : Nat} (hf : ρ.f 7 = f) (hk : ρ.f 10 = k) (hent : ∀ args w, (callFunc f args).run P w = .ok (.enter f args) w) : SpecOk P f (keysS k) := by
 subst hf; subst hk;intro l M out h;unfold keysS at h;split at h
 ·rename_i i
  have h : some ({ av := .fn (ρ.f 10) [.mp i] } : Out) = some out := by
   split at h
   ·exact h
   ·exact h
   ·cases h
  ·cases h;intro g vs hM sm hr _;cases hr with | cons hv hr => cases hr with | nil =>
   cases hv with
   | mp _ hi =>
   refine ⟨hent _ _, ?_⟩;refine ((callsIn_wide (n := 5)).1 (AnyZ.keys_in L Fence.wide 5 trivial rfl _ _)).mono fun e w' => ?_;rintro ⟨rfl, rfl⟩;have hw : (g.w.alloc (.cells #[.map (some (g.β i))] (ρ.t 23))).heap = g.w.heap.push (.cells #[.map (some (g.β i))] (ρ.t 23)) := rfl;refine ⟨_, rfl, g.β, g.ρ, ?_, ?_, ?_⟩
   ·simp only [G.out, Option.getD_none];exact sim_push hw sm
   ·simp only [G.out, Option.getD_none]
    have q : R { g with w := g.w.alloc (.cells #[.map (some (g.β i))] (ρ.t 23)) } (.fn (ρ.f 10) [.mp i]) (.func (.func (ρ.f 10)) #[] ((List.range [AV.mp i].length).map fun j => Value.pointer (some ⟨(fun _ => g.w.heap.size) j, 0, none⟩)).toArray) := by
     refine .fn (ρ.f 10) [.mp i] (fun _ => g.w.heap.size) (fun _ => .map (some (g.β i))) (fun j hj => ?_) (fun j hj hreg => ?_) (fun j hj => ?_)
     ·simp [World.cell?, hw]
     ·have := sm.inb _ hreg;simp at this
     ·have hj0 : j = 0 := by simp at hj; omega
      subst hj0;exact .mp (g := { g with w := g.w.alloc (.cells #[.map (some (g.β i))] (ρ.t 23)) }) i hi
    exact q
   ·simp only [G.out, Option.getD_none];exact keep_push hw
 ·cases h
@[simp] def sortedSS (k : Nat) : Sp
  | [.fn k' [.mp i]], M => if k' = k then (match M[i]? with
    | some (.mapo es) => some { av := .sl ((sortS (keysVS es)).map eTxt) .no, obl := StrKeys es ∧ KeysBS (keysVS es) }
    | _ => none) else none
  | _, _ => none
theorem sortedS_ok {P : Program} {ρ ρ' : Ren} (L : SlLaysZ.n6 P ρ) (L' : SlLaysZ.n10 P ρ') {f k : Nat} (hf : ρ.f 6 = f) (hk : ρ'.f 10 = k) (hent : ∀ args w, (callFunc f args).run P w = .ok (.enter f args) w)
  (hsort : ∀ m, AnyZ.SortsIn P ρ Fence.wide m) (e9 : ∀ args w, (callFunc (ρ.f 9) args).run P w = .ok (.enter (ρ.f 9) args) w) (eg : ∀ args w, (callFunc k args).run P w = .ok (.enter k args) w) : SpecOk P f (sortedSS k) := by
 subst hf; subst hk;intro l M out h;unfold sortedSS at h;split at h
 ·rename_i k' i;split at h
  ·rename_i hkk;subst hkk;split at h
   ·rename_i es hMi;cases h;intro g vs hM sm hr ho;subst hM;cases hr with | cons hv hr => cases hr with | nil =>
    obtain ⟨b, rfl, hcell, hi⟩ := fn_inv hv;refine ⟨hent _ _, ?_⟩;obtain ⟨D0, R0, hown, hperm, hsize⟩ := ownsS_of sm hMi ho.1 ho.2 (P := P) (k := ρ'.t 26) L'.t26
    have hseq : SeqGives Fence.wide 2 P (ρ'.f 10) #[.pointer (some ⟨b, 0, none⟩)] encStr (fun ss => ss.Perm (strKeys D0)) (Maps.size D0) g.w :=
     AnyZ.keys_gives L' Fence.wide 2 trivial rfl (by omega) b (g.β i) es.length D0 g.w (cell_lt hcell) hcell hown
    have hbd := ho.2.2;simp only [keysVS, List.length_map] at hbd;have cS := AnyZ.sorted_in L Fence.wide 5 trivial trivial trivial trivial rfl (by omega) (hsort _) e9 (ρ'.f 10) #[.pointer (some ⟨b, 0, none⟩)] trivial eg _ _ (by rw [hsize]; simp only [maxLen]; omega) (by rw [hsize]; exact hbd) g.w hseq;refine ((callsIn_wide (n := 5)).1 cS).mono fun e w' => ?_;rintro ⟨v, ss, rfl, hS, hrow, _, hbel⟩;have hss : ss.mergeSort (fun x y => decide (x ≤ y)) = ((keysVS es).map kbytesOf).mergeSort (fun x y => decide (x ≤ y)) := mergeSort_of_perm (hS.trans hperm);rw [hss] at hrow;have hl : ss.length = (((keysVS es).map kbytesOf).mergeSort (fun x y => decide (x ≤ y))).length := by rw [← hss]; simp
    rw [hl] at hrow;refine ⟨_, rfl, g.β, g.ρ, ?_, ?_, ?_⟩
    ·simp only [G.out, Option.getD_none]; exact sim_below hbel sm
    ·simp only [G.out, Option.getD_none];have q := R.ownsRowG encStr (fun _ => rfl) sm hrow
     have e : (sortS (keysVS es)).map eTxt = (((keysVS es).map kbytesOf).mergeSort (fun x y => decide (x ≤ y))).map fun a => [AV.lit (encStr a)] := by
      unfold sortS;rw [List.map_map]; rfl
     rw [e]; exact q
    ·simp only [G.out, Option.getD_none]; exact keep_below hbel
   ·cases h
  ·cases h
 ·cases h
end Go.Ab
end
