import Derived.Test.YtoiieebljbhpbaaGreatDoorTy
import Derived.Test.YtoiieebljbhpbaaGreatDoorTs
import Derived.Test.YtoiieebljbhpbaaGreatDoorM09
import Derived.Test.YtoiieebljbhpbaaGreatDoorM12
section
set_option maxRecDepth 100000
namespace Go.Proofs
open Go.Ab
theorem pickB_andB (p q : Bool) : pickB p q false = (p && q) := by cases p <;> rfl
theorem Td.ks (x : Td) : keyS Tryz.ty 42 x.enc = true := by simp [keyS, coverT, coverFs, isLit, TyK.agg]
@[simp] theorem Td.ksl (a0 : Int) (a1 : Int) : keyS Tryz.ty 42 [.lit (.int .i64 a0), .lit (.int .i64 a1)] = true := Td.ks (Td.mk a0 a1)
theorem Td.eqT (x y : Td) : eqT Tryz.ty 8 42 x.enc y.enc = some (Td.eq x y) := by simp [Go.Ab.eqT, eqFs, Td.eq, pickB_andB]
@[simp] theorem Td.vren (σ : Nat → Nat) (x : Td) : (vA Td.enc x).ren σ = vA Td.enc x := vA_ren_eq (fun x => by simp) x
@[simp] theorem Td.hasS {V : Type} (vE : V → AV) (a0 : Int) (a1 : Int) (m : List (Td × V)) : hasS Tryz.ty 42 [.lit (.int .i64 a0), .lit (.int .i64 a1)] (encM (vA Td.enc) vE m) = some (hasM Td.eq (Td.mk a0 a1) m) := hasS_enc (dec := Td.dec) Td.ks Td.eqT (by rfl) m
@[simp] theorem Td.delS {V : Type} (vE : V → AV) (a0 : Int) (a1 : Int) (m : List (Td × V)) : delS Tryz.ty 42 [.lit (.int .i64 a0), .lit (.int .i64 a1)] (encM (vA Td.enc) vE m) = encM (vA Td.enc) vE (delM Td.eq (Td.mk a0 a1) m) := delS_enc (dec := Td.dec) Td.eqT (by rfl) m
theorem Tb.ks (x : Tb) : keyS Tryz.ty 51 x.enc = true := by simp [keyS, coverT, coverFs, isLit, TyK.agg]
@[simp] theorem Tb.ksl (a0 : Int) (a1 : Int) (a2 : Int) : keyS Tryz.ty 51 [.lit (.int .i64 a0), .lit (.int .i64 a1), .lit (.int .i64 a2)] = true := Tb.ks (Tb.mk a0 (Td.mk a1 a2))
theorem Tb.eqT (x y : Tb) : eqT Tryz.ty 8 51 x.enc y.enc = some (Tb.eq x y) := by simp [Go.Ab.eqT, eqFs, Tb.eq, pickB_andB, Bool.and_assoc]
@[simp] theorem Tb.vren (σ : Nat → Nat) (x : Tb) : (vA Tb.enc x).ren σ = vA Tb.enc x := vA_ren_eq (fun x => by simp) x
@[simp] theorem Tb.hasS {V : Type} (vE : V → AV) (a0 : Int) (a1 : Int) (a2 : Int) (m : List (Tb × V)) : hasS Tryz.ty 51 [.lit (.int .i64 a0), .lit (.int .i64 a1), .lit (.int .i64 a2)] (encM (vA Tb.enc) vE m) = some (hasM Tb.eq (Tb.mk a0 (Td.mk a1 a2)) m) := hasS_enc (dec := Tb.dec) Tb.ks Tb.eqT (by rfl) m
@[simp] theorem Tb.delS {V : Type} (vE : V → AV) (a0 : Int) (a1 : Int) (a2 : Int) (m : List (Tb × V)) : delS Tryz.ty 51 [.lit (.int .i64 a0), .lit (.int .i64 a1), .lit (.int .i64 a2)] (encM (vA Tb.enc) vE m) = encM (vA Tb.enc) vE (delM Tb.eq (Tb.mk a0 (Td.mk a1 a2)) m) := delS_enc (dec := Tb.dec) Tb.eqT (by rfl) m
@[simp] theorem Th.Td.getS (a0 : Int) (a1 : Int) (m : List (Td × Th)) : getS Tryz.ty 42 [.lit (.int .i64 a0), .lit (.int .i64 a1)] (.agg [.lit (.bool false), .lit (.bool false), .sl [] .no]) (encM (vA Td.enc) (vA Th.enc) m) = .agg (Th.enc (getM Td.eq (Td.mk a0 a1) (Th.mk false false []) m)) := getS_enc (vE := vA Th.enc) (d := (Th.mk false false [])) (dec := Td.dec) Td.eqT (by rfl) (by simp [vA]) m
@[simp] theorem Th.Td.setSc (a0 : Int) (a1 : Int) (b0 : Bool) (b1 : Bool) (b2 : List Int) (m : List (Td × Th)) : setS Tryz.ty 42 [.lit (.int .i64 a0), .lit (.int .i64 a1)] (.agg [.lit (.bool b0), .lit (.bool b1), .sl (b2.map (eNum .u32)) .no]) (encM (vA Td.enc) (vA Th.enc) m) = encM (vA Td.enc) (vA Th.enc) (setM Td.eq (Td.mk a0 a1) (Th.mk b0 b1 b2) m) := setS_enc (vE := vA Th.enc) (v := (Th.mk b0 b1 b2)) (dec := Td.dec) Td.eqT (by rfl) (by simp [vA]) m
@[simp] theorem Th.Td.setS (a0 : Int) (a1 : Int) (l : List AV) (h : l = Th.enc (Th.dec l)) (m : List (Td × Th)) : setS Tryz.ty 42 [.lit (.int .i64 a0), .lit (.int .i64 a1)] (.agg l) (encM (vA Td.enc) (vA Th.enc) m) = encM (vA Td.enc) (vA Th.enc) (setM Td.eq (Td.mk a0 a1) (Th.dec l) m) := setS_enc (vE := vA Th.enc) (v := Th.dec l) (dec := Td.dec) Td.eqT (by rfl) (congrArg AV.agg h) m
@[simp] theorem Th.Td.mren (σ : Nat → Nat) (m : List (Td × Th)) : (AObj.mapo (encM (vA Td.enc) (vA Th.enc) m)).ren σ = .mapo (encM (vA Td.enc) (vA Th.enc) m) := encM_ren (Td.vren σ) (Th.vren σ) m
@[simp] theorem Th.Td.mbel (n : Nat) (m : List (Td × Th)) : (AObj.mapo (encM (vA Td.enc) (vA Th.enc) m)).bel n ↔ True := encM_bel (fun x => by simp) (fun x => by simp) m
@[simp] theorem Th.Td.mdec (m : List (Td × Th)) : decM (dvA Td.dec) (dvA Th.dec) (encM (vA Td.enc) (vA Th.enc) m) = m := decM_encM (fun x => by simp) (fun x => by simp) m
@[simp] theorem Tf.Tb.getS (a0 : Int) (a1 : Int) (a2 : Int) (m : List (Tb × Tf)) : getS Tryz.ty 51 [.lit (.int .i64 a0), .lit (.int .i64 a1), .lit (.int .i64 a2)] (.agg [.lit (.int .i64 0), .lit (.bool false)]) (encM (vA Tb.enc) (vA Tf.enc) m) = .agg (Tf.enc (getM Tb.eq (Tb.mk a0 (Td.mk a1 a2)) (Tf.mk 0 false) m)) := getS_enc (vE := vA Tf.enc) (d := (Tf.mk 0 false)) (dec := Tb.dec) Tb.eqT (by rfl) (by simp [vA]) m
@[simp] theorem Tf.Tb.setSc (a0 : Int) (a1 : Int) (a2 : Int) (b0 : Int) (b1 : Bool) (m : List (Tb × Tf)) : setS Tryz.ty 51 [.lit (.int .i64 a0), .lit (.int .i64 a1), .lit (.int .i64 a2)] (.agg [.lit (.int .i64 b0), .lit (.bool b1)]) (encM (vA Tb.enc) (vA Tf.enc) m) = encM (vA Tb.enc) (vA Tf.enc) (setM Tb.eq (Tb.mk a0 (Td.mk a1 a2)) (Tf.mk b0 b1) m) := setS_enc (vE := vA Tf.enc) (v := (Tf.mk b0 b1)) (dec := Tb.dec) Tb.eqT (by rfl) (by simp [vA]) m
@[simp] theorem Tf.Tb.setS (a0 : Int) (a1 : Int) (a2 : Int) (l : List AV) (h : l = Tf.enc (Tf.dec l)) (m : List (Tb × Tf)) : setS Tryz.ty 51 [.lit (.int .i64 a0), .lit (.int .i64 a1), .lit (.int .i64 a2)] (.agg l) (encM (vA Tb.enc) (vA Tf.enc) m) = encM (vA Tb.enc) (vA Tf.enc) (setM Tb.eq (Tb.mk a0 (Td.mk a1 a2)) (Tf.dec l) m) := setS_enc (vE := vA Tf.enc) (v := Tf.dec l) (dec := Tb.dec) Tb.eqT (by rfl) (congrArg AV.agg h) m
@[simp] theorem Tf.Tb.mren (σ : Nat → Nat) (m : List (Tb × Tf)) : (AObj.mapo (encM (vA Tb.enc) (vA Tf.enc) m)).ren σ = .mapo (encM (vA Tb.enc) (vA Tf.enc) m) := encM_ren (Tb.vren σ) (Tf.vren σ) m
@[simp] theorem Tf.Tb.mbel (n : Nat) (m : List (Tb × Tf)) : (AObj.mapo (encM (vA Tb.enc) (vA Tf.enc) m)).bel n ↔ True := encM_bel (fun x => by simp) (fun x => by simp) m
@[simp] theorem Tf.Tb.mdec (m : List (Tb × Tf)) : decM (dvA Tb.dec) (dvA Tf.dec) (encM (vA Tb.enc) (vA Tf.enc) m) = m := decM_encM (fun x => by simp) (fun x => by simp) m
@[simp] theorem Tj.setVIc (k : IntKind) (x : Int) (b0 : Int) (b1 : Int) (b2 : Int) (m : List (Int × Tj)) : setV (.int k x) (.agg [.lit (.int .i64 b0), .lit (.int .i64 b1), .lit (.int .i64 b2)]) (encM (kI k) (vA Tj.enc) m) = encM (kI k) (vA Tj.enc) (setM eqI x (Tj.mk (Td.mk b0 b1) b2) m) := setV_I (vE := vA Tj.enc) (v := (Tj.mk (Td.mk b0 b1) b2)) (by simp [vA]) x m
@[simp] theorem Ta.setVIc (k : IntKind) (x : Int) (b0 : Int) (b1 : ByteArray) (b2 : ByteArray) (m : List (Int × Ta)) : setV (.int k x) (.agg [.lit (.int .i64 b0), .lit (.string b1), .lit (.string b2)]) (encM (kI k) (vA Ta.enc) m) = encM (kI k) (vA Ta.enc) (setM eqI x (Ta.mk b0 b1 b2) m) := setV_I (vE := vA Ta.enc) (v := (Ta.mk b0 b1 b2)) (by simp [vA]) x m
end Go.Proofs
end
section
set_option maxRecDepth 100000
namespace Go.Ab
open Go.Proofs Go.Maps Go.RowKit Go.Sort Go.Shelf Go.Lib ChangeMaps
def c3 (x : L3) : List AV := [.lit (.int .i64 x.1), .lit (.int .i64 x.2.1), .lit (.int .i64 x.2.2)]
def d3 : AV → L3
 | .agg [.lit (.int _ a), .lit (.int _ b), .lit (.int _ c)] => (a, b, c)
 | _ => (0, 0, 0)
def keys3 (es : List (AV × AV)) : List L3 := es.map fun e => d3 e.1
def Keys3Z (l : List L3) : Prop := l.length * 24 ≤ 140737488355328
def Keys3 (es : List (AV × AV)) : Prop := ∀ e ∈ es, e.1 = .agg (c3 (d3 e.1))
@[simp] def keysLS (k : Nat) : Sp
  | [.mp i], M => match M[i]? with
    | some (.mapo _) => some { av := .fn k [.mp i] }
    | _ => none
  | _, _ => none
@[simp] def sortedLS (k c : Nat) : Sp
  | [.fn k' [.mp i], .lit v], M => (match M[i]? with
    | some (.mapo es) => some { av := .sl ((srt3 (keys3 es)).map c3) .no, obl := Keys3 es ∧ Keys3Z (keys3 es) ∧ k' = k ∧ v = .func (.func c) #[] #[] }
    | _ => none)
  | _, _ => none
theorem keysL_c (mb : Option Nat) (w : World) : Calls Tryz.prog 43 #[.map mb] w fun e w' => e = .returned (.func (.func 93) #[] #[.pointer (some ⟨w.heap.size, 0, none⟩)]) ∧ w' = w.alloc (.cells #[.map mb] 28) := by
 go_enter Tryz.func43, Tryz.ntmps43
 go_wp2;go_ret;exact ⟨rfl, rfl⟩
theorem keysL_ok : SpecOk Tryz.prog 43 (keysLS 93) := by
 intro l M out h;unfold keysLS at h;split at h
 ·rename_i i;split at h
  ·cases h;intro g vs hM sm hr _;cases hr with | cons hv hr => cases hr with | nil =>
   cases hv with
   | mp _ hi =>
   refine ⟨enters_of Tryz.func43 (by kernel_rfl) rfl _ _, ?_⟩;refine (keysL_c _ _).mono fun e w' => ?_;rintro ⟨rfl, rfl⟩;have hw : (g.w.alloc (.cells #[.map (some (g.β i))] 28)).heap = g.w.heap.push (.cells #[.map (some (g.β i))] 28) := rfl;refine ⟨_, rfl, g.β, g.ρ, ?_, ?_, ?_⟩
   ·simp only [G.out, Option.getD_none];exact sim_push hw sm
   ·simp only [G.out, Option.getD_none];refine .fn _ [.mp i] (fun _ => g.w.heap.size) (fun _ => .map (some (g.β i))) (fun j hj => ?_) (fun j hj hreg => ?_) (fun j hj => ?_)
    ·simp [World.cell?, hw]
    ·have := sm.inb _ hreg;simp at this
    ·have hj0 : j = 0 := by simp at hj; omega
     subst hj0;exact .mp (g := { g with w := g.w.alloc (.cells #[.map (some (g.β i))] 28) }) i hi
   ·simp only [G.out, Option.getD_none];exact keep_push hw
  ·cases h
 ·cases h
theorem R.rows3 {g : G} {w' : World} (sm : Sim g) {gb cap : Nat} {l : List L3} (hH : HoldsK cs3 3 w' gb 0 l.toArray) (hbase : g.w.heap.size ≤ gb) (hc : l.length ≤ cap) : R { g with w := w' } (.sl (l.map c3) .no) (.slice (some ⟨gb, 0, none⟩) l.length cap) := by
 have hlen : (l.map c3).length = l.length := by simp
 have q : R { g with w := w' } (.sl (l.map c3) .no) (.slice (some ⟨gb, 0, none⟩) (l.map c3).length cap) := by
  refine .sl _ .no gb 0 3 cap (fun i j => (cs3 l[i]!)[j]!) (fun i hi => by simp [c3]) (fun i j hi hj => ?_) (fun i j hi hj hr => ?_) (fun i j hi hj => ?_) (fun i j hi hj => ?_) trivial (by omega)
  ·have h1 := (hH (i * 3 + j) (by simp only [size_flatK, List.size_toArray]; omega)).1;rw [get_flatK _ _ _ _ (by simp only [List.size_toArray]; omega)] at h1;have e1 : (i * 3 + j) / 3 = i := by omega
   have e2 : (i * 3 + j) % 3 = j := by omega
   rw [e1, e2] at h1;simp only [id, ← Nat.add_assoc] at h1;simpa using h1
  ·have := sm.inb _ hr;simp only at this;omega
  ·have hi' : i < l.length := by omega
   have hj' : j < 3 := by simpa [c3] using hj
   have e : l[i]! = l[i] := by simp [hi']
   simp only [List.getElem_map, e];rcases (show j = 0 ∨ j = 1 ∨ j = 2 by omega) with rfl | rfl | rfl <;> exact .lit _
  ·rcases (show j = 0 ∨ j = 1 ∨ j = 2 by omega) with rfl | rfl | rfl <;> rfl
 rw [hlen] at q; exact q
theorem fn_inv3 {g : G} {f : Nat} {i : Nat} {v : Value} (h : R g (.fn f [.mp i]) v) : ∃ b, v = .func (.func f) #[] #[.pointer (some ⟨b, 0, none⟩)] ∧ g.w.cell? ⟨b, 0, none⟩ = some (.map (some (g.β i))) ∧ i < g.M.length := by
 cases h with
 | fn _ _ bs us h1 h2 h3 =>
   have h4 := h3 0 (by simp);simp only [List.getElem_cons_zero] at h4;generalize hu : us 0 = u at h4;cases h4 with
   | mp _ hi =>
     refine ⟨bs 0, by simp [List.range_succ], ?_, hi⟩;have := h1 0 (by simp);rw [hu] at this; exact this
theorem sortedL_ok : SpecOk Tryz.prog 42 (sortedLS 93 44) := by
 intro l M out h;unfold sortedLS at h;split at h
 ·rename_i k' i v0;split at h
  ·rename_i es hMi
   ·cases h;intro g vs hM sm hr ho;subst hM;obtain ⟨ho1, ho2, rfl, rfl⟩ := ho;cases hr with | cons hv hr => cases hr with | cons hu hr => cases hr with | nil =>
    obtain ⟨b, rfl, hcell, hi⟩ := fn_inv3 hv;obtain rfl := hu.lit_inv;refine ⟨enters_of Tryz.func42 (by kernel_rfl) rfl _ _, ?_⟩;obtain ⟨ents, clock, hh, hst, he⟩ := map_at sm hMi
    have hK : ents.toList.map (·.key) = (keys3 es).map kv3 := by
     have : ∀ (es : List (AV × AV)) (l : List MapEntry), EntR g es l → Keys3 es → l.map (·.key) = (keys3 es).map kv3 := by
      intro es l h
      induction h with
      | nil => intro _; rfl
      | @cons a v es e l hk hv r ih =>
        intro q;have h1 := q (a, v) (.head _);simp only at h1;rw [h1] at hk;have h2 := hk.keyVal rfl;simp only [List.map_cons, keys3];rw [h2, ih fun e he => q e (.tail _ he)]; rfl
     exact this es ents.toList he ho1
    refine (sorted3 b (g.β i) ents clock (keys3 es) hst.1 hst.2.1 hK ho2 g.w hcell hh).mono fun e w' => ?_;rintro ⟨v, rfl, hbel, hrow⟩;refine ⟨_, rfl, g.β, g.ρ, ?_, ?_, ?_⟩
    ·simp only [G.out, Option.getD_none]; exact sim_below hbel sm
    ·simp only [G.out, Option.getD_none];rcases hrow with ⟨rfl, hz⟩ | ⟨gb, cap, rfl, hbase, hc, _, hH⟩
     ·have hn : srt3 (keys3 es) = [] := by rw [hz]; simp [srt3]
      rw [hn]; exact .nil _ trivial
     ·have hl : (keys3 es).length = (srt3 (keys3 es)).length := by simp [srt3]
      rw [hl];exact R.rows3 sm hH hbase (by rw [← hl]; exact hc)
    ·simp only [G.out, Option.getD_none]; exact keep_below hbel
  ·cases h
 ·cases h
end Go.Ab
end
