import Derived.Test.YtpamnignoocogaaGreatDoorM20
import Derived.Test.YtpamnignoocogaaGreatDoorM19
import Derived.Test.YtpamnignoocogaaGreatDoorBu
import Derived.Test.YtpamnignoocogaaGreatDoorM16
import Derived.Test.YtpamnignoocogaaGreatDoorM13
import Derived.Test.YtpamnignoocogaaGreatDoorTy
import Derived.Test.YtpamnignoocogaaGreatDoorM05
section
namespace Go.Ab
section
variable {P : Program}
theorem LibOk.free {f : FuncId} {S : Sp} (h : SpecOk P f S) (hob : ∀ l M o, S l M = some o → o.obl) : LibOk P f S := fun l M o q => ⟨fun g vs hM sm hr _ => h l M o q g vs hM sm hr (hob l M o q), hob l M o q⟩
theorem keysS_free {k : Nat} (l : List AV) (M : List AObj) (o : Out) (h : keysS k l M = some o) : o.obl := by
 unfold keysS at h;split at h
 ·split at h <;> first | (cases h; trivial) | cases h
 ·cases h
instance (l : List Int) : Decidable (KeysB l) := inferInstanceAs (Decidable ((∀ x ∈ l, (Lit.int .i64 x).wf = true) ∧ l.length * 8 ≤ 140737488355328))
instance (l : List ByteArray) : Decidable (KeysBS l) := inferInstanceAs (Decidable ((∀ x ∈ l, x.size ≤ maxLen) ∧ l.length * 16 ≤ 140737488355328))
def isI64 : AV → Bool
 | .lit (.int .i64 _) => true
 | _ => false
theorem isI64_spec {a : AV} (h : isI64 a = true) : a = kI .i64 (dkI a) := by
 unfold isI64 at h;split at h
 ·rfl
 ·cases h
def isStr : AV → Bool
 | .lit (.string _) => true
 | _ => false
theorem isStr_spec {a : AV} (h : isStr a = true) : a = kS (dkS a) := by
 unfold isStr at h;split at h
 ·rfl
 ·cases h
def sortedOb (l : List AV) (M : List AObj) : Bool := match l with
 | [.fn _ [.mp i]] => match M[i]? with
   | some (.mapo es) => (es.all fun e => isI64 e.1) && decide (KeysB (keysV es))
   | _ => false
 | _ => false
theorem sortedOb_spec {k : Nat} (l : List AV) (M : List AObj) (o : Out) (h : sortedS k l M = some o) (hb : sortedOb l M = true) : o.obl := by
 unfold sortedS at h;split at h
 ·rename_i k' i;split at h
  ·split at h
   ·rename_i es hM;cases h;simp only [sortedOb, hM, Bool.and_eq_true, decide_eq_true_eq] at hb;exact ⟨fun e he => isI64_spec (List.all_eq_true.1 hb.1 e he), hb.2⟩
   ·rename_i Q hM;simp only [sortedOb, hM] at hb;cases hb
   ·cases h
  ·cases h
 ·cases h
def sortedSOb (l : List AV) (M : List AObj) : Bool := match l with
 | [.fn _ [.mp i]] => match M[i]? with
   | some (.mapo es) => (es.all fun e => isStr e.1) && decide (KeysBS (keysVS es))
   | _ => false
 | _ => false
theorem sortedSOb_spec {k : Nat} (l : List AV) (M : List AObj) (o : Out) (h : sortedSS k l M = some o) (hb : sortedSOb l M = true) : o.obl := by
 unfold sortedSS at h;split at h
 ·rename_i k' i;split at h
  ·split at h
   ·rename_i es hM;cases h;simp only [sortedSOb, hM, Bool.and_eq_true, decide_eq_true_eq] at hb;exact ⟨fun e he => isStr_spec (List.all_eq_true.1 hb.1 e he), hb.2⟩
   ·cases h
  ·cases h
 ·cases h
def cloneOb (n b : Nat) (l : List AV) (M : List AObj) : Bool := match l with
 | [.sl els _] => lensB n els && decide (AppB 0 (lenL els) b) && !marked M
 | _ => false
theorem cloneOb_spec {n b : Nat} (l : List AV) (M : List AObj) (o : Out) (h : cloneS n b l M = some o) (hb : cloneOb n b l M = true) : o.obl := by
 unfold cloneS at h;split at h
 ·cases h;simp only [cloneOb, Bool.and_eq_true, decide_eq_true_eq, Bool.not_eq_true'] at hb;exact ⟨lensB_spec hb.1.1, hb.1.2, hb.2⟩
 ·cases h
end
end Go.Ab
end
section
set_option maxRecDepth 100000
set_option maxHeartbeats 2000000
namespace Go.Ab
open Go.Proofs Go.RowKit
@[simp] def wrTextE (T E : TypeId) : Sp
  | [.ptr i 0], M => match M[i]? with
    | some (.opq φ) => some { av := .lit (.string (strOfNums φ.bs)), M := some (M.set i (.opq wrX)), obl := φ = wrO T E φ.bs ∧ TextE φ.bs }
    | _ => none
  | _, _ => none
theorem textE_ok {P : Program} {f : FuncId} {T E : TypeId} (hent : ∀ args w, (callFunc f args).run P w = .ok (.enter f args) w)
  (hS : ∀ (b g cap : Nat) (w : World) (p : Value) (l : List UInt8) (cur : Array Value), w.heap[b]? = some (.cells #[p, .slice (some ⟨g, 0, none⟩) l.length cap] T (0, 0)) → w.heap[g]? = some (.cells cur E (0, 0)) →
   l.length ≤ cap → cap ≤ maxLen → cur.size = cap → cur.toList.take l.length = Lib.byteCells l → l ≠ [] →
   Calls P f #[.pointer (some ⟨b, 0, none⟩)] w fun e w' => e = .returned (.string ⟨l.toArray⟩) ∧ WrKeep b (some g) w w' ∧ w'.heap.size = w.heap.size)
  (h0 : ∀ (b : Nat) (w : World) (p v : Value), w.heap[b]? = some (.cells #[p, v] T (0, 0)) → (v = .slice none 0 0 ∨ ∃ g cap cur, v = .slice (some ⟨g, 0, none⟩) 0 cap ∧ w.heap[g]? = some (.cells cur E (0, 0)) ∧ cur.size = cap) →
   Calls P f #[.pointer (some ⟨b, 0, none⟩)] w fun e w' => e = .returned (.string ⟨#[]⟩) ∧ WrKeep b none w w') : SpecOk P f (wrTextE T E) := by
 intro l M out h;unfold wrTextE at h;split at h
 ·rename_i i;split at h
  ·rename_i φ hMi;cases h;intro g vs hM sm hr ho;subst hM;obtain ⟨hφ, hbb⟩ := ho;by_cases hne : φ.bs ≠ []
   ·exact textW_ok hent hS [.ptr i 0] g.M { av := .lit (.string (strOfNums φ.bs)), M := some (g.M.set i (.opq wrX)), obl := φ = wrO T E φ.bs ∧ TextB φ.bs } (by unfold wrTextS; simp only [hMi]) g vs rfl sm hr ⟨hφ, hne, hbb⟩
   have he : φ.bs = [] := Classical.byContradiction hne;cases hr with | cons hv hr => cases hr with | nil =>
   cases hv with
   | ptr _ _ hi =>
   refine ⟨hent _ _, ?_⟩;have hq := sm.opq i φ hMi;rw [hφ] at hq;obtain ⟨p, v, h1, h2, h3⟩ := hq;simp only [wrO, he] at h3;refine (h0 (g.β i) g.w p v h1 ?_).mono ?_
   ·rcases h3 with ⟨h, _, _⟩ | ⟨cap, cur, h, h4, h5, h6, h7, h8, h9⟩
    ·exact .inl h
    ·exact .inr ⟨_, cap, cur, h, h5, h8⟩
   rintro e w' ⟨rfl, k1⟩;obtain ⟨kk, ss⟩ := opq_turn sm hMi (φ' := wrX) (w' := w') (rb := (g.ρ i).b) k1.size ⟨k1.os, k1.output⟩ (fun k q1 q2 q3 => k1.block k q1 q2 (by simp)) (.inl rfl) trivial;refine ⟨_, rfl, g.β, _, ss, ?_, kk⟩;rw [he];exact .lit _
  ·cases h
 ·cases h
end Go.Ab
namespace Go.Proofs
open Go.RowKit Go.Ab
theorem Tryz.bwbyteW (b : Nat) (w : World) (p v : Value) (n : Nat) (xs : List Value) (c : Int) (hb : w.heap[b]? = some (.cells #[p, v] 81 (0, 0))) (hp : p = .pointer none ∨ p = .pointer (some ⟨b, 0, none⟩))
    (hown : w.ownsRow 0 5 1 v n xs) (hne : v.ownBlock ≠ some b)  (hbytes : n + 1 ≤ 140737488355328) :
    Calls Tryz.prog 29 #[.pointer (some ⟨b, 0, none⟩), .int .u8 c] w fun e w' => e = .returned (.nilIface) ∧
      ∃ v', w'.heap[b]? = some (.cells #[.pointer (some ⟨b, 0, none⟩), v'] 81 (0, 0)) ∧ w'.ownsRow 0 5 1 v' (n + 1) (xs ++ [.int .u8 c]) ∧ v'.ownBlock ≠ some b ∧ WrKeep b v.ownBlock w w' ∧
        (v'.ownBlock = v.ownBlock ∨ v'.ownBlock = some (w.heap.size + 1)) ∧ ∀ g, v'.ownBlock = some g → g < w'.heap.size := by
  have hbl : b < w.heap.size := by
    rcases Nat.lt_or_ge b w.heap.size with h | h
    · exact h
    · simp [Array.getElem?_eq_none h] at hb
  have H1 := hidB (Tryz.bcAny b w p v n xs hb hp hown hne);have H2 := hidB (show _ ∧ _ from ⟨hbl, hne⟩);obtain ⟨i0, hi, hz⟩ := Option.map_eq_some_iff.1 Tryz.bbyteI;simp only [Prod.mk.injEq] at hz;obtain ⟨hz0, hz1, hz2⟩ := hz;have Hi := hidB (show _ ∧ _ ∧ _ ∧ _ from ⟨hi, hz0, hz1, hz2⟩);clear hb hp hown hne hbl hi hz0 hz1 hz2
  go_enter Tryz.func29, Tryz.ntmps29
  go_wp2_with (go_at_call 57; refine H1.out.mono ?_);rintro e w1 ⟨rfl, hb1, hown1, hsz1, hk1, hall1⟩;have Hk := hidB (show _ ∧ _ ∧ _ from ⟨hb1, hsz1, hk1⟩);have Ho := hidB hown1;have c0 : w1.cell? ⟨b, 0, none⟩ = some (.pointer (some ⟨b, 0, none⟩)) := by rw [Lib.cell_of_heap hb1]; rfl
  have c1 : w1.cell? ⟨b, 1, none⟩ = some v := by rw [Lib.cell_of_heap hb1]; rfl
  clear hb1 hown1 hsz1 hk1 hall1 H1;go_wp2_with (at_builtin; refine wpList_append_w rfl _ _ 77 77 rfl 5 i0 _ Tryz.underlying77 Hi.out.1 Hi.out.2.1 Hi.out.2.2.1 Hi.out.2.2.2 rfl v n xs rfl (Ho.out.alloc _) _ rfl 1 [.int .u8 c] (Src.ofSlice _ Tryz.underlying77 ⟨w1.heap.size, 0, none⟩ 1 1 [.int .u8 c] rfl ?c1 ?c2) (by decide) (by omega) ?c3)
  all_goals first
    | (intro u hu; simp at hu; subst hu; rfl)
    | (intro j u hj
       match j, hj with
       | 0, hj => simp at hj; subst hj; simp [Addr.add]
       | (j + 1), hj => simp at hj)
    | skip
  intro v' w2 hown' hgrow hblk' hnn;obtain ⟨hbl, hne⟩ := H2.out;obtain ⟨hb1, hsz1, hk1⟩ := Hk.out;have hlt : b < w1.heap.size := by omega
  have hblk' : v'.ownBlock = v.ownBlock ∨ v'.ownBlock = some (w1.heap.size + 1) := by simpa using hblk'
  have hne' : v'.ownBlock ≠ some b := by
    rcases hblk' with h | h
    · rw [h]; exact hne
    · rw [h]; intro e; simp only [Option.some.injEq] at e; omega
  have hb2 : w2.heap[b]? = some (.cells #[.pointer (some ⟨b, 0, none⟩), v] 81 (0, 0)) := by
    rw [hgrow.block b (by simp; omega) (fun e => hne e.symm), Lib.alloc_old w1 _ b hlt];exact hb1
  have fin : ∀ w3, w3 = w2.setCell ⟨b, 1, none⟩ v' → w3.heap[b]? = some (.cells #[.pointer (some ⟨b, 0, none⟩), v'] 81 (0, 0)) ∧ w3.ownsRow 0 5 1 v' (n + 1) (xs ++ [.int .u8 c]) ∧ v'.ownBlock ≠ some b ∧ WrKeep b v.ownBlock w w3 ∧
        (v'.ownBlock = v.ownBlock ∨ v'.ownBlock = some (w.heap.size + 1)) ∧ ∀ g, v'.ownBlock = some g → g < w3.heap.size := by
    rintro w3 rfl
    have kg : WrKeep b v.ownBlock w1 w2 := by
      refine ⟨by have := hgrow.size; simp at this; omega, hgrow.os, hgrow.output, fun k q1 _ q3 => ?_⟩;rw [hgrow.block k (by simp; omega) q3, Lib.alloc_old w1 _ k q1]
    refine ⟨by simp [World.setCell, Array.getElem?_modify, hb2], ?_, hne', (hk1.trans kg).trans (WrKeep.setCell _ _ _ _ _), by rw [hsz1] at hblk'; exact hblk', fun q hq => ?_⟩
    · exact hown'.kept (row := some b) ⟨rfl, rfl, rfl, by simp [World.setCell], fun k _ hk => heap_setCell_ne (fun e => hk (by simp [e]))⟩ (.inr hne')
    · rcases hown'.2 with ⟨_, h⟩ | ⟨g', cap', cur, hv, _, ho, _⟩
      · omega
      · subst hv;simp only [Value.ownBlock, Option.some.injEq] at hq;subst hq;simp only [World.setCell, Array.size_modify];rcases Nat.lt_or_ge g' w2.heap.size with h | h
        · exact h
        · simp [Array.getElem?_eq_none h] at ho
  have Hf := hidB fin;have d0 : w2.cell? ⟨b, 0, none⟩ = some (.pointer (some ⟨b, 0, none⟩)) := by rw [Lib.cell_of_heap hb2]; rfl
  have d1 : w2.cell? ⟨b, 1, none⟩ = some v := by rw [Lib.cell_of_heap hb2]; rfl
  have f1 : w2.frozen? ⟨b, 1, none⟩ = false := Lib.frozen_of_heap hb2 1
  obtain ⟨g, cap', hv'⟩ : ∃ g cap', v' = .slice (some ⟨g, 0, none⟩) (n + 1) cap' := by
    rcases hown'.2 with ⟨_, h⟩ | ⟨g, cap', cur, hv, _⟩
    · omega
    · exact ⟨_, _, hv⟩
  subst hv';clear hown' hgrow hblk' hnn hne' hk1 hsz1 hne hb1 hbl hlt hb2 fin H2 Hk Ho;go_wp2;go_ret;exact ⟨rfl, _, Hf.out _ rfl⟩
theorem Tryz.bwtextW (b : Nat) (w : World) (p v : Value) (n : Nat) (xs : List Value) (s : ByteArray) (hb : w.heap[b]? = some (.cells #[p, v] 81 (0, 0))) (hp : p = .pointer none ∨ p = .pointer (some ⟨b, 0, none⟩))
  (hown : w.ownsRow 0 5 1 v n xs) (hne : v.ownBlock ≠ some b) (hpos : 0 < s.size) (hbytes : n + s.size ≤ 140737488355328) :
  Calls Tryz.prog 101 #[.pointer (some ⟨b, 0, none⟩), .string s] w fun e w' => e = .returned (.tuple #[.int .i64 s.size, .nilIface]) ∧
   ∃ v', w'.heap[b]? = some (.cells #[.pointer (some ⟨b, 0, none⟩), v'] 81 (0, 0)) ∧ w'.ownsRow 0 5 1 v' (n + s.size) (xs ++ (byteCells s)) ∧ v'.ownBlock ≠ some b ∧ WrKeep b v.ownBlock w w' ∧
     (v'.ownBlock = v.ownBlock ∨ v'.ownBlock = some (w.heap.size)) ∧ ∀ g, v'.ownBlock = some g → g < w'.heap.size := by
 have hbl : b < w.heap.size := by
  rcases Nat.lt_or_ge b w.heap.size with h | h
  ·exact h
  ·simp [Array.getElem?_eq_none h] at hb
 have H1 := hidB (Tryz.bcAny b w p v n xs hb hp hown hne);have H2 := hidB (show _ ∧ _ from ⟨hbl, hne⟩);obtain ⟨i0, hi, hz⟩ := Option.map_eq_some_iff.1 Tryz.bbyteI;simp only [Prod.mk.injEq] at hz;obtain ⟨hz0, hz1, hz2⟩ := hz;have Hi := hidB (show _ ∧ _ ∧ _ ∧ _ from ⟨hi, hz0, hz1, hz2⟩);clear hb hp hown hne hbl hi hz0 hz1 hz2
 go_enter Tryz.func101, Tryz.ntmps101
 go_wp2_with (go_at_call 57; refine H1.out.mono ?_);rintro e w1 ⟨rfl, hb1, hown1, hsz1, hk1, hall1⟩;have Hk := hidB (show _ ∧ _ ∧ _ from ⟨hb1, hsz1, hk1⟩);have Ho := hidB hown1;have c0 : w1.cell? ⟨b, 0, none⟩ = some (.pointer (some ⟨b, 0, none⟩)) := by rw [Lib.cell_of_heap hb1]; rfl
 have c1 : w1.cell? ⟨b, 1, none⟩ = some v := by rw [Lib.cell_of_heap hb1]; rfl
 clear hb1 hown1 hsz1 hk1 hall1 H1;go_wp2_with (at_builtin; refine wpList_append_w rfl _ _ 77 9 rfl 5 i0 _ Tryz.underlying77 Hi.out.1 Hi.out.2.1 Hi.out.2.2.1 Hi.out.2.2.2 rfl v n xs rfl Ho.out _ rfl s.size (byteCells s) (Src.ofString _ Tryz.underlying9 s) hpos (by omega) ?c3);intro v' w2 hown' hgrow hblk' hnn;obtain ⟨hbl, hne⟩ := H2.out;obtain ⟨hb1, hsz1, hk1⟩ := Hk.out;have hlt : b < w1.heap.size := by omega
 have hne' : v'.ownBlock ≠ some b := by
  rcases hblk' with h | h
  ·rw [h]; exact hne
  ·rw [h]; intro e; simp only [Option.some.injEq] at e; omega
 have hb2 : w2.heap[b]? = some (.cells #[.pointer (some ⟨b, 0, none⟩), v] 81 (0, 0)) := by
  rw [hgrow.block b hlt (fun e => hne e.symm)];exact hb1
 have fin : ∀ w3, w3 = w2.setCell ⟨b, 1, none⟩ v' → w3.heap[b]? = some (.cells #[.pointer (some ⟨b, 0, none⟩), v'] 81 (0, 0)) ∧ w3.ownsRow 0 5 1 v' (n + s.size) (xs ++ (byteCells s)) ∧ v'.ownBlock ≠ some b ∧ WrKeep b v.ownBlock w w3 ∧
    (v'.ownBlock = v.ownBlock ∨ v'.ownBlock = some (w.heap.size)) ∧ ∀ g, v'.ownBlock = some g → g < w3.heap.size := by
  rintro w3 rfl
  have kg : WrKeep b v.ownBlock w1 w2 := by
   refine ⟨by have := hgrow.size; omega, hgrow.os, hgrow.output, fun k q1 _ q3 => ?_⟩;exact hgrow.block k q1 q3
  refine ⟨by simp [World.setCell, Array.getElem?_modify, hb2], ?_, hne', (hk1.trans kg).trans (WrKeep.setCell _ _ _ _ _), by rw [hsz1] at hblk'; exact hblk', fun q hq => ?_⟩
  ·exact hown'.kept (row := some b) ⟨rfl, rfl, rfl, by simp [World.setCell], fun k _ hk => heap_setCell_ne (fun e => hk (by simp [e]))⟩ (.inr hne')
  ·rcases hown'.2 with ⟨_, h⟩ | ⟨g', cap', cur, hv, _, ho, _⟩
   ·omega
   ·subst hv;simp only [Value.ownBlock, Option.some.injEq] at hq;subst hq;simp only [World.setCell, Array.size_modify];rcases Nat.lt_or_ge g' w2.heap.size with h | h
    ·exact h
    ·simp [Array.getElem?_eq_none h] at ho
 have Hf := hidB fin;have d0 : w2.cell? ⟨b, 0, none⟩ = some (.pointer (some ⟨b, 0, none⟩)) := by rw [Lib.cell_of_heap hb2]; rfl
 have d1 : w2.cell? ⟨b, 1, none⟩ = some v := by rw [Lib.cell_of_heap hb2]; rfl
 have f1 : w2.frozen? ⟨b, 1, none⟩ = false := Lib.frozen_of_heap hb2 1
 obtain ⟨g, cap', hv'⟩ : ∃ g cap', v' = .slice (some ⟨g, 0, none⟩) (n + s.size) cap' := by
  rcases hown'.2 with ⟨_, h⟩ | ⟨g, cap', cur, hv, _⟩
  ·omega
  ·exact ⟨_, _, hv⟩
 subst hv';clear hown' hgrow hblk' hnn hne' hk1 hsz1 hne hb1 hbl hlt hb2 fin H2 Hk Ho;go_wp2
 go_ret2
 exact ⟨rfl, _, Hf.out _ rfl⟩
theorem gBwByte.ok : SpecOk Tryz.prog 29 (wrPutB 81 5) :=
 putB_ok (fun _ _ => by kernel_rfl) fun b w p v n xs c hb hp hown hne hn => Tryz.bwbyteW b w p v n xs c hb hp hown hne hn
theorem gBwText.ok : SpecOk Tryz.prog 101 (wrPutT 81 5) :=
 putT_ok (fun _ _ => by kernel_rfl) fun b w p v n xs s hb hp hown hne hpos hn => Tryz.bwtextW b w p v n xs s hb hp hown hne hpos hn
theorem Tryz.bstringE1 (b : Nat) (w : World) (p : Value) (ao po : Option Addr) (cap : Nat) (hb : w.heap[b]? = some (.cells #[p, .slice ao 0 cap] 81 (0, 0)))
  (hSD : (Builtin.unsafeSliceData_ #[77] 118 #[.slice ao 0 cap]).run Tryz.prog w.drew = .ok (.pointer po) w.drew) :
  Calls Tryz.prog 30 #[.pointer (some ⟨b, 0, none⟩)] w fun e w' => e = .returned (.string ⟨#[]⟩) ∧ WrKeep b none w w' := by
 have c1 : w.drew.cell? ⟨b, 1, none⟩ = some (.slice ao 0 cap) := by
  have : w.drew.heap[b]? = some (.cells #[p, .slice ao 0 cap] 81 (0, 0)) := hb;rw [Lib.cell_of_heap this]; rfl
 have hUS : (Builtin.unsafeString_ #[118, 3] 9 #[.pointer po, .int .i64 0]).run Tryz.prog w.drew = .ok (.string ⟨#[]⟩) w.drew := Lib.run_unsafeString_none _ _ _ _ _;have Hf := hidB (show WrKeep b none w w.drew from ⟨by simp, rfl, rfl, fun k _ _ _ => rfl⟩);clear hb
 go_enter Tryz.func30, Tryz.ntmps30
 go_wp2
 go_region
 all_goals (go_wp2; go_ret; exact ⟨rfl, Hf.out⟩)
theorem Tryz.bstringE2 (b : Nat) (w : World) (p : Value) (g : Nat) (cur : Array Value) (hb : w.heap[b]? = some (.cells #[p, .slice (some ⟨g, 0, none⟩) 0 0] 81 (0, 0))) (hg : w.heap[g]? = some (.cells cur 5 (0, 0))) :
  Calls Tryz.prog 30 #[.pointer (some ⟨b, 0, none⟩)] w fun e w' => e = .returned (.string ⟨#[]⟩) ∧ WrKeep b none w w' := by
 have hbl : b < w.heap.size := by
  rcases Nat.lt_or_ge b w.heap.size with h | h
  ·exact h
  ·simp [Array.getElem?_eq_none h] at hb
 have hb' : w.drew.heap[b]? = some (.cells #[p, .slice (some ⟨g, 0, none⟩) 0 0] 81 (0, 0)) := hb;have hg' : w.drew.heap[g]? = some (.cells cur 5 (0, 0)) := hg;have c1 : w.drew.cell? ⟨b, 1, none⟩ = some (.slice (some ⟨g, 0, none⟩) 0 0) := by rw [Lib.cell_of_heap hb']; rfl
 have hSD : (Builtin.unsafeSliceData_ #[77] 118 #[.slice (some ⟨g, 0, none⟩) 0 0]).run Tryz.prog w.drew = _ := Lib.run_unsafeSliceData_zero w.drew _ _ 5 Tryz.underlying118 ⟨g, 0, none⟩ 0 (5, cur.size) (by simp only [World.shape?, hg'])
 have c2 : (w.alloc (Obj.view ⟨g, 0, none⟩ 5)).cell? ⟨b, 1, none⟩ = some (.slice (some ⟨g, 0, none⟩) 0 0) := by
  have : (w.alloc (Obj.view ⟨g, 0, none⟩ 5)).heap[b]? = some (.cells #[p, .slice (some ⟨g, 0, none⟩) 0 0] 81 (0, 0)) := by rw [Lib.alloc_old w _ b hbl]; exact hb
  rw [Lib.cell_of_heap this]; rfl
 have hUS : ∀ (W : World) (a : Option Addr), (Builtin.unsafeString_ #[118, 3] 9 #[.pointer a, .int .i64 0]).run Tryz.prog W = .ok (.string ⟨#[]⟩) W := fun W a => Lib.run_unsafeString_none _ _ _ _ _;have Hf := hidB (show WrKeep b none w (w.alloc (Obj.view ⟨g, 0, none⟩ 5)).drew from ⟨by simp, rfl, rfl, fun k q1 _ _ => by show (w.alloc _).heap[k]? = _; rw [Lib.alloc_old w _ k q1]⟩);clear hb hb' hg hg' hbl
 go_enter Tryz.func30, Tryz.ntmps30
 go_wp2
 go_region
 all_goals (go_wp2; go_ret; exact ⟨rfl, Hf.out⟩)
theorem Tryz.bstringE (b : Nat) (w : World) (p v : Value) (hb : w.heap[b]? = some (.cells #[p, v] 81 (0, 0)))
  (hv : v = .slice none 0 0 ∨ ∃ g cap cur, v = .slice (some ⟨g, 0, none⟩) 0 cap ∧ w.heap[g]? = some (.cells cur 5 (0, 0)) ∧ cur.size = cap) :
  Calls Tryz.prog 30 #[.pointer (some ⟨b, 0, none⟩)] w fun e w' => e = .returned (.string ⟨#[]⟩) ∧ WrKeep b none w w' := by
 rcases hv with rfl | ⟨g, cap, cur, rfl, hg, hs⟩
 ·exact Tryz.bstringE1 b w p none none 0 hb (Lib.run_unsafeSliceData_nil _ _ _ _ _)
 ·by_cases hc : cap = 0
  ·subst hc; exact Tryz.bstringE2 b w p g cur hb hg
  ·exact Tryz.bstringE1 b w p _ _ cap hb (Lib.run_unsafeSliceData_row _ _ _ _ _ _ hc)
theorem gBwString.ok : SpecOk Tryz.prog 30 (wrTextE 81 5) :=
 textE_ok (fun _ _ => by kernel_rfl) Tryz.bstringW Tryz.bstringE
end Go.Proofs
end
section
set_option maxRecDepth 100000
namespace Go.Ab
open Go.Proofs Go.Maps Go.RowKit Go.Sort Go.Shelf Go.Lib ChangeMaps
theorem keysU_c (mb : Option Nat) (w : World) : Calls Tryz.prog 169 #[.map mb] w fun e w' => e = .returned (.func (.func 237) #[] #[.pointer (some ⟨w.heap.size, 0, none⟩)]) ∧ w' = w.alloc (.cells #[.map mb] 148) := by
 go_enter Tryz.func169, Tryz.ntmps169
 go_wp2;go_ret;exact ⟨rfl, rfl⟩
theorem keysU_ok : SpecOk Tryz.prog 169 (keysLS 237) := by
 intro l M out h;unfold keysLS at h;split at h
 ·rename_i i;split at h
  ·cases h;intro g vs hM sm hr _;cases hr with | cons hv hr => cases hr with | nil =>
   cases hv with
   | mp _ hi =>
   refine ⟨enters_of Tryz.func169 (by kernel_rfl) rfl _ _, ?_⟩;refine (keysU_c _ _).mono fun e w' => ?_;rintro ⟨rfl, rfl⟩;have hw : (g.w.alloc (.cells #[.map (some (g.β i))] 148)).heap = g.w.heap.push (.cells #[.map (some (g.β i))] 148) := rfl;refine ⟨_, rfl, g.β, g.ρ, ?_, ?_, ?_⟩
   ·simp only [G.out, Option.getD_none];exact sim_push hw sm
   ·simp only [G.out, Option.getD_none];refine .fn _ [.mp i] (fun _ => g.w.heap.size) (fun _ => .map (some (g.β i))) (fun j hj => ?_) (fun j hj hreg => ?_) (fun j hj => ?_)
    ·simp [World.cell?, hw]
    ·have := sm.inb _ hreg;simp at this
    ·have hj0 : j = 0 := by simp at hj; omega
     subst hj0;exact .mp (g := { g with w := g.w.alloc (.cells #[.map (some (g.β i))] 148) }) i hi
   ·simp only [G.out, Option.getD_none];exact keep_push hw
  ·cases h
 ·cases h
theorem keysLS_free {k : Nat} (l : List AV) (M : List AObj) (o : Out) (h : keysLS k l M = some o) : o.obl := by
 unfold keysLS at h;split at h
 ·split at h <;> first | (cases h; trivial) | cases h
 ·cases h
theorem collectES_free {k : Nat} (l : List AV) (M : List AObj) (o : Out) (h : collectES k l M = some o) : o.obl := by
 unfold collectES at h;split at h
 ·split at h
  ·split at h <;> first | (cases h; trivial) | cases h
  ·cases h
 ·cases h
theorem libCloneI.ok : SpecOk Tryz.prog 155 (cloneS 1 8) := by
 intro l M out h;unfold cloneS at h;split at h
 ·rename_i els tok;cases h;refine callOk_nil ?_ ?_
  ·refine call_of_vc Tryz.mixed Tryz.tyOk gamL_nil (fun | 0 => [2] | 1 => [4] | 2 => [2] | 3 => [2] | _ => []) (fun _ => []) Tryz.func155 rfl (by kernel_rfl) rfl rfl (by simp) ?_;intro _ hbM hbA;simp [hbM]
  ·refine call_of_vc Tryz.mixed Tryz.tyOk gamL_nil (fun | 0 => [2] | 1 => [4] | 2 => [2] | 3 => [2] | _ => []) (fun _ => []) Tryz.func155 rfl (by kernel_rfl) rfl rfl (by simp) ?_;intro ho hbM hbA;simp at hbA ho;simp [hbA, hbM, ho, appL]
   try exact ho.1
 ·cases h
@[simp] def letterA : Sp
  | [.lit (.int .i32 r)], _ => if Lib.latin1 r then some { av := .lit (.bool (Lib.isLetterL r)) } else none
  | _, _ => none
theorem letterA_ok : LibOk Tryz.prog 75 letterA := by
 intro l M o q;unfold letterA at q;split at q
 ·rename_i r;split at q
  ·rename_i h;cases q;have hr : 0 ≤ r ∧ r ≤ 255 := by simpa [Lib.latin1] using h
   have e : letterR r = Lib.isLetterL r := by unfold letterR Lib.isLetterU; rw [if_pos h]
   refine ⟨?_, trivial⟩;intro g vs hM sm hv _;have := gax.ok [.lit (.int .i32 r)] M { av := .lit (.bool (letterR r)), obl := I32B r } rfl g vs hM sm hv ⟨by omega, by omega⟩;rw [e] at this; exact this
  ·cases q
 ·cases q
@[simp] def digitA : Sp
  | [.lit (.int .i32 r)], _ => if Lib.latin1 r then some { av := .lit (.bool (Lib.isDigitL r)) } else none
  | _, _ => none
theorem digitA_ok : LibOk Tryz.prog 76 digitA := by
 intro l M o q;unfold digitA at q;split at q
 ·rename_i r;split at q
  ·rename_i h;cases q;have hr : 0 ≤ r ∧ r ≤ 255 := by simpa [Lib.latin1] using h
   have e : digitR r = Lib.isDigitL r := by unfold digitR Lib.isDigitU; rw [if_pos hr.2]
   refine ⟨?_, trivial⟩;intro g vs hM sm hv _;have := gay.ok [.lit (.int .i32 r)] M { av := .lit (.bool (digitR r)), obl := I32B r } rfl g vs hM sm hv ⟨by omega, by omega⟩;rw [e] at this; exact this
  ·cases q
 ·cases q
instance (bs : List Int) : Decidable (TextE bs) := inferInstanceAs (Decidable (∀ x ∈ bs, 0 ≤ x ∧ x < 256))
def textEOb (T E : TypeId) (l : List AV) (M : List AObj) : Bool := isWr T E M l && decide (TextE (wrBs M l))
theorem textEOb_spec {T E : TypeId} (l : List AV) (M : List AObj) (o : Out) (h : wrTextE T E l M = some o) (hb : textEOb T E l M = true) : o.obl := by
 unfold textEOb at hb;simp only [Bool.and_eq_true, decide_eq_true_eq] at hb;unfold wrTextE at h;split at h
 ·split at h
  ·rename_i φ hM;cases h;have := hb.2;simp only [wrBs, hM] at this;exact ⟨isWr_spec hb.1 hM, this⟩
  ·cases h
 ·cases h
def isC3 : AV → Bool
 | .agg [.lit (.int .i64 _), .lit (.int .i64 _), .lit (.int .i64 _)] => true
 | _ => false
theorem isC3_spec {a : AV} (h : isC3 a = true) : a = .agg (c3 (d3 a)) := by
 unfold isC3 at h;split at h
 ·rfl
 ·cases h
def isFn (c : Nat) : Value → Bool
 | .func (.func c') ⟨[]⟩ ⟨[]⟩ => c' == c
 | _ => false
theorem isFn_spec {c : Nat} {v : Value} (h : isFn c v = true) : v = .func (.func c) #[] #[] := by
 unfold isFn at h;split at h
 ·rw [eq_of_beq h]
 ·cases h
def sortedLOb (k c : Nat) (l : List AV) (M : List AObj) : Bool := match l with
 | [.fn k' [.mp i], .lit v] => match M[i]? with
   | some (.mapo es) => (es.all fun e => isC3 e.1) && decide ((keys3 es).length * 24 ≤ 140737488355328) && k' == k && isFn c v
   | _ => false
 | _ => false
theorem sortedLOb_spec {k c : Nat} (l : List AV) (M : List AObj) (o : Out) (h : sortedLS k c l M = some o) (hb : sortedLOb k c l M = true) : o.obl := by
 unfold sortedLS at h;split at h
 ·rename_i k' i v;split at h
  ·rename_i es hM;cases h;simp only [sortedLOb, hM, Bool.and_eq_true, decide_eq_true_eq] at hb;exact ⟨fun e he => isC3_spec (List.all_eq_true.1 hb.1.1.1 e he), hb.1.1.2, eq_of_beq hb.1.2, isFn_spec hb.2⟩
  ·cases h
 ·cases h
end Go.Ab
end
section
namespace Go.Ab
@[simp] theorem decL_d {α : Type} (d : List AV → α) (els : List (List AV)) (tok : Tok) : decL d [.sl els tok] = els.map d := rfl
theorem Weak.trans {a b : AV} (h : Weak a b) : ∀ {c : AV}, Weak b c → Weak a c := by
 induction h with
 | refl a => intro c h; exact h
 | tok els tok =>
   intro c h;cases h with
   | refl => exact .tok _ _
   | tok => exact .tok _ _
 | nl =>
   intro c h;cases h with
   | refl => exact .nl
   | tok => exact .tok _ _
 | agg l l' hl h ih =>
   intro c h';cases h' with
   | refl => exact .agg _ _ hl h
   | agg _ l'' hl' h'' => exact .agg _ _ (hl.trans hl') fun j h1 h2 => ih j h1 (by omega) (h'' j (by omega) h2)
 | tup l l' hl h ih =>
   intro c h';cases h' with
   | refl => exact .tup _ _ hl h
   | tup _ l'' hl' h'' => exact .tup _ _ (hl.trans hl') fun j h1 h2 => ih j h1 (by omega) (h'' j (by omega) h2)
theorem WObj.trans {a b c : AObj} (h : WObj a b) (h' : WObj b c) : WObj a c := by
 cases h with
 | refl => exact h'
 | dead =>
   cases h' with
   | refl => exact .dead _
   | dead => exact .dead _
 | mapr es vis cur t =>
   cases h' with
   | refl => exact .mapr _ _ _ _
   | dead => exact .dead _
 | blk l l' hl h =>
   cases h' with
   | refl => exact .blk _ _ hl h
   | dead => exact .dead _
   | blk _ l'' hl' h'' => exact .blk _ _ (hl.trans hl') fun j h1 h2 => (h j h1 (by omega)).trans (h'' j (by omega) h2)
theorem WMem.trans {a b : List AObj} (h : WMem a b) : ∀ {c : List AObj}, WMem b c → WMem a c := by
 induction h with
 | nil => intro c h; exact h
 | cons h _ ih =>
   intro c h';cases h' with
   | cons q r => exact .cons (h.trans q) (ih r)
theorem WMem.take {a b : List AObj} (h : WMem a b) : ∀ n : Nat, WMem (a.take n) (b.take n) := by
 induction h with
 | nil => intro n; simp only [List.take_nil]; exact .nil
 | cons h _ ih =>
   intro n;cases n with
   | zero => exact .nil
   | succ n => exact .cons h (ih n)
theorem subE_mem {A : Env} : ∀ {A' : Env}, subE A A' → ∀ e ∈ A', e.tag = none ∧ ∃ av, ent A e.t = some (none, av) ∧ Weak av e.av
 | ⟨t, tag, av⟩ :: r, h, e, he => by
   obtain ⟨h1, h2⟩ := h;rcases List.mem_cons.1 he with rfl | he
   ·split at h1
    ·rename_i av' htag hent;exact ⟨htag, av', hent, h1⟩
    ·exact h1.elim
   ·exact subE_mem h2 e he
theorem subE_of {A : Env} : ∀ {A' : Env}, (∀ e ∈ A', e.tag = none ∧ ∃ av, ent A e.t = some (none, av) ∧ Weak av e.av) → subE A A'
 | [], _ => trivial
 | ⟨t, tag, av⟩ :: r, h => by
   obtain ⟨h1, av', h2, h3⟩ := h _ (.head _);simp only at h1 h2 h3;refine ⟨?_, subE_of fun e he => h e (.tail _ he)⟩;simp only [h1, h2];exact h3
theorem Conv.trans {B m m' : Nat} {σ σ' σ'' : St} (h : Conv B m σ σ') (h' : Conv B m' σ' σ'') : Conv B m' σ σ'' := by
 obtain ⟨a1, a2, a3, a4, a5, a6⟩ := h;obtain ⟨b1, b2, b3, b4, b5, b6⟩ := h';have hl := a5.length;rw [List.length_take] at hl;have hm : m' ≤ m := by omega
 refine ⟨b1, by omega, subE_of fun e he => ?_, b4, ?_, b6⟩
 ·obtain ⟨e1, av, e2, e3⟩ := subE_mem b3 e he;obtain ⟨_, av', e5, e6⟩ := subE_mem a3 _ (ent_mem e2);exact ⟨e1, av', e5, e6.trans e3⟩
 ·have := a5.take m';rw [List.take_take, Nat.min_eq_left hm] at this;exact this.trans b5
theorem fin_conv0 {ty : TyTab} {out : Out} {M : List AObj} {B m : Nat} {σ σ' : St} (hc : Conv B m σ σ') (h : finK out M σ'.M (resA ty σ'.A σ'.M [])) : finK out M σ.M (resA ty σ.A σ.M []) := by
 obtain ⟨_, _, _, _, a5, _⟩ := hc;simp only [resA, finK] at h ⊢;obtain ⟨h1, h2, h3, h4, h5, h6⟩ := h;refine ⟨h1, h2, h3, ?_, h5, h6⟩;have l1 := a5.length;have l2 := h4.length;rw [List.length_take] at l1 l2;have q := a5.take (out.M.getD M).length;rw [List.take_take, Nat.min_eq_left (by omega)] at q;exact q.trans h4
end Go.Ab
end
