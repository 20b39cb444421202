import Derived.Test.YtpamnignoocogaaGreatDoorM15
import Derived.Test.YtpamnignoocogaaGreatDoorM13
import Derived.Test.YtpamnignoocogaaGreatDoorM06
import Derived.Test.YtpamnignoocogaaGreatDoorM19
import Derived.Test.YtpamnignoocogaaGreatDoorSh
section
namespace Go.Proofs
open Go.Ab
noncomputable def gV (x0 : Int) : Option Int :=
 some (ixbS ⟨#[48, 49, 50, 51, 52, 53, 54, 55, 56, 57, 97, 98, 99, 100, 101, 102]⟩ x0)
noncomputable def gQ.loop1 (x0 : ByteArray) (s1 : Int × List Int) : Option (Fl (Int × List Int) (Fl (List Int) (ByteArray × Bool))) :=
 bif (ltI s1.1 (lenS x0)) then (
  need (InB s1.1 (lenS x0)) <|
  ((gV (idxS x0 s1.1))).bind fun r1 =>
  need (InB (addI .i64 s1.1 1) (lenS x0)) <|
  ((gV (idxS x0 (addI .i64 s1.1 1)))).bind fun r2 =>
  bif (pickB (ltI r1 0) true (ltI r2 0)) then (
   some (.out (.out (⟨#[]⟩, false)))
  ) else (
    need (AppB (lenL s1.2) 1 1) <|
    some (.go ((addI .i64 s1.1 2), (appL s1.2 [(cvtI .u8 (addI .i64 (mulI .i64 16 r1) r2))])))
  )
 ) else (
   some (.out (.go s1.2))
 )
noncomputable def gQ (x0 : ByteArray) : Option (ByteArray × Bool) :=
 need (NonZ 2) <|
 bif (neI (remI (lenS x0) 2) 0) then (
  some (⟨#[]⟩, false)
 ) else (
   need (NonZ 2) <|
   need (RepB (quoI .i64 (lenS x0) 2) (quoI .i64 (lenS x0) 2) 1) <|
   ((loopF (gQ.loop1 x0) (0, [])).bind fun f => flC f fun (v1 : List Int) =>
     some ((strOfNums v1), true)
   )
 )
noncomputable def gaw.loop1 (x0 : ByteArray) (s1 : Int × List Int) : Option (Fl (Int × List Int) (Fl (List Int) ByteArray)) :=
 bif (ltI s1.1 (lenS x0)) then (
  need (InB s1.1 (lenS x0)) <|
  need (NonN 4) <|
  need (InB (shrI .u8 (idxS x0 s1.1) 4) (lenS ⟨#[48, 49, 50, 51, 52, 53, 54, 55, 56, 57, 97, 98, 99, 100, 101, 102]⟩)) <|
  need (AppB (lenL s1.2) 1 1) <|
  need (InB s1.1 (lenS x0)) <|
  need (InB (bitsOp .and .u8 (idxS x0 s1.1) 15) (lenS ⟨#[48, 49, 50, 51, 52, 53, 54, 55, 56, 57, 97, 98, 99, 100, 101, 102]⟩)) <|
  need (AppB ((lenL s1.2) + 1) 1 1) <|
  some (.go ((addI .i64 s1.1 1), (appL (appL s1.2 [(idxS ⟨#[48, 49, 50, 51, 52, 53, 54, 55, 56, 57, 97, 98, 99, 100, 101, 102]⟩ (shrI .u8 (idxS x0 s1.1) 4))]) [(idxS ⟨#[48, 49, 50, 51, 52, 53, 54, 55, 56, 57, 97, 98, 99, 100, 101, 102]⟩ (bitsOp .and .u8 (idxS x0 s1.1) 15))])))
 ) else (
   some (.out (.go s1.2))
 )
noncomputable def gaw (x0 : ByteArray) : Option ByteArray :=
 ((loopF (gaw.loop1 x0) (0, [])).bind fun f => flC f fun (v1 : List Int) =>
   need (TextE v1) <|
   some (strOfNums v1)
 )
end Go.Proofs
end
section
namespace Go.Ab
section
variable {P : Program}
def anyR (T : EvT) (run : Nat → Code → St → Option (Exit × St)) (n : Nat) (x : Code) (σ : St) : Option (Exit × St) := match x with
 | .loop y => match anyX T run n y σ with
   | some r => some r
   | none => run n x σ
 | _ => run n x σ
theorem anyR_ok {T : EvT} (hT : EvOk P T) {run : Nat → Code → St → Option (Exit × St)} (hr : RunOk P run) : RunOk P (anyR T run) := by
 intro n B c σ e σ' h ht;unfold anyR at h;split at h
 ·split at h
  ·rename_i r hx;cases h;exact any_ok hT hr hx ht
  ·exact hr n B _ σ e σ' h ht
 ·exact hr n B _ σ e σ' h ht
def evC (T : EvT) : Nat → Nat → Code → St → Option (Exit × St)
 | 0, _, _, _ => none
 | k + 1, n, c, σ => match c with
   | .skip => some (.normal, σ)
   | .ret => some (.ret, σ)
   | .exit id => some (.exit id, σ)
   | .seq x y => match evC T k n x σ with
     | some (.normal, σ') => evC T k n y σ'
     | r => r
   | .cond c x y => match evX σ.A [] c with
     | some (.lit (.bool true)) => evC T k n x σ
     | some (.lit (.bool false)) => evC T k n y σ
     | _ => none
   | .block id x => match anyR T (evC T k) n x σ with
     | some (.exit id', σ') => if id' = id then some (.normal, σ') else some (.exit id', σ')
     | r => r
   | .loop x => match evC T k n x σ with
     | some (.normal, σ') => evC T k n (.loop x) σ'
     | r => r
   | .region _ ops draw => (regY T (callX T (evC T k)) n ops draw σ).map fun σ' => (.normal, σ')
   | _ => none
def evF (T : EvT) (k : Nat) : Gam := callX T (evC T k)
theorem evC_ok {T : EvT} (hT : EvOk P T) (k0 : Nat) : RunOk P (evC T k0) := by
 induction k0 using Nat.strongRecOn with
 | _ k0 ihs =>
 match k0, ihs with
 | 0, _ => exact fun n B c σ e σ' h => by cases h
 | k + 1, ihs =>
   have ih := ihs k (Nat.lt_succ_self k);have ihA := anyR_ok hT ih;intro n B c σ e σ' h ht;have hall := h;unfold evC at h;split at h
   ·cases h; exact AWp.skip ⟨rfl, rfl, ht⟩
   ·cases h; exact AWp.ret ⟨rfl, rfl, ht⟩
   ·cases h; exact AWp.exit ⟨rfl, rfl, ht⟩
   ·rename_i x y;refine AWp.seq ?_;split at h
    ·rename_i σ1 h1;refine AWp.mono (ih n B x σ _ σ1 h1 ht) fun e' σ'' q => ?_;obtain ⟨rfl, rfl, q3⟩ := q;exact ih n B y _ _ _ h q3
    ·rename_i hne;refine AWp.mono (ih n B x σ _ σ' h ht) fun e' σ'' q => ?_;obtain ⟨rfl, rfl, q3⟩ := q;cases e' with
     | normal => exact absurd h (hne _)
     | _ => exact ⟨rfl, rfl, q3⟩
   ·rename_i c x y;split at h
    ·rename_i hc;exact AWp.cond hc (fun _ => ih n B x σ _ σ' h ht) (fun hb => by cases hb)
    ·rename_i hc;exact AWp.cond hc (fun hb => by cases hb) (fun _ => ih n B y σ _ σ' h ht)
    ·cases h
   ·rename_i id x;refine AWp.block ?_;split at h
    ·rename_i id' σ1 h1;refine AWp.mono (ihA n B x σ _ σ1 h1 ht) fun e' σ'' q => ?_;obtain ⟨rfl, rfl, q3⟩ := q;simp only [blockS];split at h
     ·rename_i hid; cases h; rw [if_pos hid]; exact ⟨rfl, rfl, q3⟩
     ·rename_i hid; cases h; rw [if_neg hid]; exact ⟨rfl, rfl, q3⟩
    ·rename_i hne;refine AWp.mono (ihA n B x σ _ σ' h ht) fun e' σ'' q => ?_;obtain ⟨rfl, rfl, q3⟩ := q;cases e' with
     | exit id' => exact absurd h (hne _ _)
     | _ => exact ⟨rfl, rfl, q3⟩
   ·rename_i x;refine AWp.loop (fun j τ => j ≤ k + 1 ∧ evC T j n (.loop x) τ = some (e, σ') ∧ noTags τ.A = true) (k + 1) ⟨Nat.le_refl _, hall, ht⟩ ?_;rintro j τ ⟨hj, hev, hτ⟩
    match j, hj, hev with
    | 0, _, hev => cases hev
    | j + 1, hj, hev =>
      have ihj := ihs j (by omega);unfold evC at hev;simp only at hev;split at hev
      ·rename_i σ1 h1;refine AWp.mono (ihj n B x τ _ σ1 h1 hτ) fun e' σ'' q => ?_;obtain ⟨rfl, rfl, q3⟩ := q;exact ⟨j, Nat.lt_succ_self j, by omega, hev, q3⟩
      ·rename_i hne;refine AWp.mono (ihj n B x τ _ σ' hev hτ) fun e' σ'' q => ?_;obtain ⟨rfl, rfl, q3⟩ := q;cases e' with
       | normal => exact absurd hev (hne _)
       | _ => exact ⟨rfl, rfl, q3⟩
   ·obtain ⟨σ1, h1, e1⟩ := Option.map_eq_some_iff.1 h;cases e1;exact regY_ok hT (callX_ok hT ih) (callX_free hT) h1 ht
   ·cases h
theorem evF_ok {T : EvT} (hT : EvOk P T) (k : Nat) {f : FuncId} {l : List AV} {M : List AObj} {o : Out} (h : evF T k f l M = some o) : CallOk P f l M o := (callX_ok hT (evC_ok hT k)).h f l M o h
def chkS (S : Sp) (ob : List AV → List AObj → Bool) : Sp := fun l M => if ob l M then (S l M).map fun o => { o with obl := True } else none
theorem chkS_ok {f : FuncId} {S : Sp} {ob : List AV → List AObj → Bool} (h : SpecOk P f S) (hob : ∀ l M o, S l M = some o → ob l M = true → o.obl) {l : List AV} {M : List AObj} {o : Out} (q : chkS S ob l M = some o) : CallOk P f l M o ∧ o.obl := by
 unfold chkS at q;split at q
 ·rename_i hb;obtain ⟨o', h1, rfl⟩ := Option.map_eq_some_iff.1 q;exact ⟨fun g vs hM sm hr _ => h l M o' h1 g vs hM sm hr (hob l M o' h1 hb), trivial⟩
 ·cases q
def isWr (T E : TypeId) (M : List AObj) : List AV → Bool
 | .ptr i 0 :: _ => match M[i]? with
   | some (.opq φ) => decide (φ.k = some (T, E))
   | _ => false
 | _ => false
theorem isWr_spec {T E : TypeId} {M : List AObj} {i : Nat} {l : List AV} {φ : Opq} (h : isWr T E M (.ptr i 0 :: l) = true) (hM : M[i]? = some (.opq φ)) : φ = wrO T E φ.bs := by
 unfold isWr at h;simp only [hM] at h;have := of_decide_eq_true h;obtain ⟨bs, k⟩ := φ;simp only at this;subst this;rfl
end
end Go.Ab
end
section
namespace Go.Ab
open Go.Proofs
@[simp] def wrPutS (T E : TypeId) : Sp
  | [.ptr i 0, .sl els _], M => match M[i]? with
    | some (.opq φ) => some { av := .ptr i 0, M := some (M.set i (.opq (wrO T E (appL φ.bs (els.map numOf))))), obl := φ = wrO T E φ.bs ∧ (∀ e ∈ els, ∃ n, e = [.lit (.int .u8 n)]) ∧ els ≠ [] ∧ AppB (lenL φ.bs) (lenL els) 1 }
    | _ => none
  | _, _ => none
theorem addr_plus (b off j : Nat) : (⟨b, off, none⟩ : Addr).add j = ⟨b, off + j, none⟩ := by
 unfold Addr.add;split <;> simp_all
theorem sl_inv {g : G} {els : List (List AV)} {tok : Tok} {v : Value} (h : R g (.sl els tok) v) (hne : els ≠ []) (hu : ∀ e ∈ els, ∃ n, e = [.lit (.int .u8 n)]) :
  ∃ b off cap, v = .slice (some ⟨b, off, none⟩) els.length cap ∧ ∀ j, j < els.length → g.w.cell? ⟨b, off + j, none⟩ = some (.int .u8 ((els.map numOf).getD j 0)) ∧ ¬ g.reg ⟨b, off + j, none⟩ := by
 cases h with
 | nil => exact absurd rfl hne
 | sl _ _ b off s cap xs hs h1 h2 h3 h4 ht hc =>
   refine ⟨b, off, cap, rfl, fun j hj => ?_⟩;obtain ⟨n, hn⟩ := hu _ (List.getElem_mem hj);have hs1 : s = 1 := by rw [← hs j hj, hn]; rfl
   subst hs1;have q1 := h1 j 0 hj (by omega);have q2 := h2 j 0 hj (by omega);have q3 := h3 j 0 hj (by rw [hn]; simp);simp only [Nat.mul_one, Nat.add_zero] at q1 q2;refine ⟨?_, q2⟩;rw [q1]
   have : R g (.lit (.int .u8 n)) (xs j 0) := by
    have e : els[j][0]'(by rw [hn]; simp) = .lit (.int .u8 n) := by simp [hn]
    rw [e] at q3; exact q3
   rw [this.lit_inv];have hg : (els.map numOf).getD j 0 = n := by simp [List.getD, hj, hn]
   rw [hg]
theorem putW_ok {P : Program} {f : FuncId} {T E : TypeId} (hent : ∀ args w, (callFunc f args).run P w = .ok (.enter f args) w)
  (hU : ∀ (b : Nat) (w : World) (p v : Value) (n : Nat) (xs : List Value), w.heap[b]? = some (.cells #[p, v] T (0, 0)) → (p = .pointer none ∨ p = .pointer (some ⟨b, 0, none⟩)) → w.ownsRow 0 E 1 v n xs → v.ownBlock ≠ some b →
   ∀ (ad : Addr) (m c : Nat) (news : List Value), news.length = m → 0 < m → (∀ j u, news[j]? = some u → w.cell? (ad.add j) = some u) → (∀ u ∈ news, u.oneCell' = true) → (∀ j, (ad.add j).block ≠ b) → n + m ≤ 140737488355328 →
   Calls P f #[.pointer (some ⟨b, 0, none⟩), .slice (some ad) m c] w fun e w' => e = .returned (.pointer (some ⟨b, 0, none⟩)) ∧
   ∃ v', w'.heap[b]? = some (.cells #[.pointer (some ⟨b, 0, none⟩), v'] T (0, 0)) ∧ w'.ownsRow 0 E 1 v' (n + m) (xs ++ news) ∧ v'.ownBlock ≠ some b ∧ WrKeep b v.ownBlock w w' ∧
     (v'.ownBlock = v.ownBlock ∨ v'.ownBlock = some w.heap.size) ∧ ∀ g, v'.ownBlock = some g → g < w'.heap.size) : SpecOk P f (wrPutS T E) := by
 intro l M out h;unfold wrPutS at h;split at h
 ·rename_i i els tok;split at h
  ·rename_i φ hMi;cases h;intro g vs hM sm hr ho;subst hM;obtain ⟨hφ, hu, hne, happ⟩ := ho;cases hr with | cons hv hr => cases hr with | cons hs hr => cases hr with | nil =>
   cases hv with
   | ptr _ _ hi =>
   obtain ⟨ab, off, cap, rfl, hcell⟩ := sl_inv hs hne hu;refine ⟨hent _ _, ?_⟩;have hq := sm.opq i φ hMi;rw [hφ] at hq;obtain ⟨p, v, h1, h2, h3, h4, h5⟩ := WrB.at hq;generalize hls : els.map numOf = ls at *
   have hll : ls.length = els.length := by rw [← hls]; simp
   have hpos : 0 < ls.length := by
    rw [hll];exact List.length_pos_iff.2 hne
   have hadd : ∀ j, (⟨ab, off, none⟩ : Addr).add j = ⟨ab, off + j, none⟩ := fun j => addr_plus ab off j
   have happ' : φ.bs.length + els.length ≤ 140737488355328 := by
    have := happ.1;simp only [lenL, Int.mul_one, Int.natCast_one] at this;omega
   have hab : ab ≠ g.β i := by
    intro e;have := (hcell 0 (by omega)).2;exact this (Lk hMi (.inl e))
   refine (hU (g.β i) g.w p v φ.bs.length (φ.bs.map (Value.int .u8)) h1 h2 h3 h4 ⟨ab, off, none⟩ els.length cap (ls.map (Value.int .u8)) (by rw [List.length_map]; exact hll) (by rw [← hll]; exact hpos) (fun j u hj => ?_) (fun u hu => ?_) (fun j => by rw [hadd]; exact hab) happ').mono ?_
   ·simp only [List.getElem?_map, Option.map_eq_some_iff] at hj;obtain ⟨x, hx, rfl⟩ := hj
    have hjl : j < ls.length := by
     rcases Nat.lt_or_ge j ls.length with h | h
     ·exact h
     ·rw [List.getElem?_eq_none h] at hx; cases hx
    rw [hadd, (hcell j (by omega)).1];simp [List.getD, hx]
   ·obtain ⟨x, _, rfl⟩ := List.mem_map.1 hu;rfl
   rintro e w' ⟨rfl, v', k1, k2, k3, k4, k5, k6⟩
   have hW : WrB T E (φ.bs ++ ls) (g.β i) (v'.ownBlock.getD (g.β i)) (w'.heap[g.β i]?) (w'.heap[v'.ownBlock.getD (g.β i)]?) := by
    refine WrB.of k1 (.inr rfl) ?_ k3;simpa [hll] using k2
   have hρ : v.ownBlock = none ∧ (g.ρ i).b = g.β i ∨ v.ownBlock = some (g.ρ i).b := h5
   obtain ⟨kk, ss⟩ := opq_turn sm hMi (φ' := wrO T E (φ.bs ++ ls)) (w' := w') (rb := v'.ownBlock.getD (g.β i)) k4.size ⟨k4.os, k4.output⟩ (fun k q1 q2 q3 => k4.block k q1 q2 (by
     rcases hρ with ⟨h, _⟩ | h <;> rw [h]
     ·simp
     ·simpa using q3))
    (by
     rcases k5 with h | h
     ·rcases hρ with ⟨h', _⟩ | h'
      ·right; left; rw [h, h']; rfl
      ·left; rw [h, h']; rfl
     ·right; right; rw [h]; exact ⟨Nat.le_refl _, k6 _ h⟩) hW
   refine ⟨_, rfl, g.β, _, ss, ?_, kk⟩;exact .ptr (g := ⟨g.M.set i (.opq (wrO T E (φ.bs ++ ls))), g.β, _, w', g.X⟩) i 0 (by simpa using hi)
  ·cases h
 ·cases h
end Go.Ab
namespace Go.Proofs
open Go.RowKit Go.Ab
set_option maxHeartbeats 1000000 in
set_option maxRecDepth 100000 in
theorem Tryz.u8W (b : Nat) (w : World) (p v : Value) (n : Nat) (xs : List Value) (hb : w.heap[b]? = some (.cells #[p, v] 126 (0, 0))) (hp : p = .pointer none ∨ p = .pointer (some ⟨b, 0, none⟩))
  (hown : w.ownsRow 0 5 1 v n xs) (hne : v.ownBlock ≠ some b) (ad : Addr) (m c : Nat) (news : List Value) (hl : news.length = m) (hm : 0 < m) (hnews : ∀ j u, news[j]? = some u → w.cell? (ad.add j) = some u)
  (h1 : ∀ u ∈ news, u.oneCell' = true) (hap : ∀ j, (ad.add j).block ≠ b) (hbytes : n + m ≤ 140737488355328) :
  Calls Tryz.prog 68 #[.pointer (some ⟨b, 0, none⟩), .slice (some ad) m c] w fun e w' => e = .returned (.pointer (some ⟨b, 0, none⟩)) ∧
   ∃ v', w'.heap[b]? = some (.cells #[.pointer (some ⟨b, 0, none⟩), v'] 126 (0, 0)) ∧ w'.ownsRow 0 5 1 v' (n + m) (xs ++ news) ∧ v'.ownBlock ≠ some b ∧ WrKeep b v.ownBlock w w' ∧
     (v'.ownBlock = v.ownBlock ∨ v'.ownBlock = some w.heap.size) ∧ ∀ g, v'.ownBlock = some g → g < w'.heap.size := by
 have H1 := hidW (Tryz.writeW b w p v n xs hb hp hown hne ad m c news hl hm hnews h1 hap hbytes);clear hb hp hown hne hnews h1 hap hl hm hbytes
 go_enter Tryz.func68, Tryz.ntmps68
 go_wp2_with (go_at_call 100; refine H1.out.mono ?_);rintro e w1 ⟨rfl, h⟩;have H2 := hidW h;clear h;go_wp2;go_ret;exact ⟨rfl, H2.out⟩
set_option maxHeartbeats 1000000 in
set_option maxRecDepth 100000 in
theorem Tryz.textW (b g cap : Nat) (w : World) (p : Value) (l : List UInt8) (cur : Array Value) (hb : w.heap[b]? = some (.cells #[p, .slice (some ⟨g, 0, none⟩) l.length cap] 126 (0, 0)))
  (hg : w.heap[g]? = some (.cells cur 5 (0, 0))) (hnc : l.length ≤ cap) (hcm : cap ≤ maxLen) (hcs : cur.size = cap) (ht : cur.toList.take l.length = Lib.byteCells l) (h0 : l ≠ []) :
  Calls Tryz.prog 73 #[.pointer (some ⟨b, 0, none⟩)] w fun e w' => e = .returned (.string ⟨l.toArray⟩) ∧ WrKeep b (some g) w w' ∧ w'.heap.size = w.heap.size := by
 have H1 := hidW (Tryz.stringW b g cap w p l cur hb hg hnc hcm hcs ht h0);clear hb hg hnc hcm hcs ht h0
 go_enter Tryz.func73, Tryz.ntmps73
 go_wp2_with (go_at_call 30; refine H1.out.mono ?_);rintro e w1 ⟨rfl, h⟩;have H2 := hidW h;clear h;go_wp2;go_ret;exact ⟨rfl, H2.out⟩
theorem gag.U8.ok : SpecOk Tryz.prog 68 (wrPutS 126 5) :=
 putW_ok (fun _ _ => by kernel_rfl) Tryz.u8W
theorem gag.Text.ok : SpecOk Tryz.prog 73 (wrTextS 126 5) :=
 textW_ok (fun _ _ => by kernel_rfl) Tryz.textW
theorem Tryz.wrZero (w : World) : (zeroValue 126).run Tryz.prog w = .ok (.agg #[.pointer none, .slice none 0 0]) w := by kernel_rfl
theorem gag.alloc {n B : Nat} {Q : Exit → Go.Ab.St → Prop} {σ : Go.Ab.St} {id d1 : Nat} {ops : Array Oper} {o1 : Oper} (ho : ops.toList = [o1]) (ho1 : o1.op = .alloc 126) (hg : o1.guard = none)
  (hd1 : o1.dst = some d1) (hd : dstsOk ops n ops.toList [] = true) (hn : noTags σ.A = true) {dead : List Nat}
  (h : Q .normal ⟨⟨d1, none, .ptr σ.M.length 0⟩ :: without dead (without [d1] σ.A), σ.M ++ [.opq (wrO 126 5 [])]⟩) : AWp Tryz.prog n B (.region id ops false) Q σ :=
 AWp.regAlloc (wrO 126 5 []) ho ho1 hg hd1 hd hn Tryz.wrZero rfl (fun b o => wr_fresh _ _ b o) h
end Go.Proofs
end
section
namespace Go.Ab
open Go.Proofs Go.RowKit
@[simp] def wrPutB (T E : TypeId) : Sp
  | [.ptr i 0, .lit (.int .u8 c)], M => match M[i]? with
    | some (.opq φ) => some { av := .lit .nilIface, M := some (M.set i (.opq (wrO T E (appL φ.bs [c])))), obl := φ = wrO T E φ.bs ∧ AppB (lenL φ.bs) 1 1 }
    | _ => none
  | _, _ => none
@[simp] def wrPutT (T E : TypeId) : Sp
  | [.ptr i 0, .lit (.string s)], M => match M[i]? with
    | some (.opq φ) => some { av := .tup [.lit (.int .i64 (lenS s)), .lit .nilIface], M := some (M.set i (.opq (wrO T E (appL φ.bs (numsOf s))))), obl := φ = wrO T E φ.bs ∧ 0 < lenS s ∧ AppB (lenL φ.bs) (lenS s) 1 }
    | _ => none
  | _, _ => none
theorem putV_ok {P : Program} {f : FuncId} {T E : TypeId} {g : G} {i : Nat} {φ : Opq} {u : Value} {news : List Int} {c : Nat} {e : Value} {av : AV} {ob : Prop} (hent : (callFunc f #[.pointer (some ⟨g.β i, 0, none⟩), u]).run P g.w = .ok (.enter f #[.pointer (some ⟨g.β i, 0, none⟩), u]) g.w)
  (sm : Sim g) (hMi : g.M[i]? = some (.opq φ)) (hφ : φ = wrO T E φ.bs) (hre : ∀ g' : G, R g' av e)
  (hU : ∀ (b : Nat) (w : World) (p v : Value) (n : Nat) (xs : List Value), w.heap[b]? = some (.cells #[p, v] T (0, 0)) → (p = .pointer none ∨ p = .pointer (some ⟨b, 0, none⟩)) → w.ownsRow 0 E 1 v n xs → v.ownBlock ≠ some b → n + news.length ≤ 140737488355328 →
   Calls P f #[.pointer (some ⟨b, 0, none⟩), u] w fun e' w' => e' = .returned e ∧
   ∃ v', w'.heap[b]? = some (.cells #[.pointer (some ⟨b, 0, none⟩), v'] T (0, 0)) ∧ w'.ownsRow 0 E 1 v' (n + news.length) (xs ++ news.map (Value.int .u8)) ∧ v'.ownBlock ≠ some b ∧ WrKeep b v.ownBlock w w' ∧
     (v'.ownBlock = v.ownBlock ∨ v'.ownBlock = some (w.heap.size + c)) ∧ ∀ g, v'.ownBlock = some g → g < w'.heap.size)
  (happ : φ.bs.length + news.length ≤ 140737488355328) :
  (callFunc f #[.pointer (some ⟨g.β i, 0, none⟩), u]).run P g.w = .ok (.enter f #[.pointer (some ⟨g.β i, 0, none⟩), u]) g.w ∧
   Calls P f #[.pointer (some ⟨g.β i, 0, none⟩), u] g.w fun e' w' => ∃ v, e' = .returned v ∧ Post g { av := av, M := some (g.M.set i (.opq (wrO T E (appL φ.bs news)))), obl := ob } v w' := by
 refine ⟨hent, ?_⟩;have hq := sm.opq i φ hMi;rw [hφ] at hq;obtain ⟨p, v, h1, h2, h3, h4, h5⟩ := WrB.at hq;refine (hU (g.β i) g.w p v φ.bs.length (φ.bs.map (Value.int .u8)) h1 h2 h3 h4 happ).mono ?_;rintro e' w' ⟨rfl, v', k1, k2, k3, k4, k5, k6⟩
 have hW : WrB T E (φ.bs ++ news) (g.β i) (v'.ownBlock.getD (g.β i)) (w'.heap[g.β i]?) (w'.heap[v'.ownBlock.getD (g.β i)]?) := by
  refine WrB.of k1 (.inr rfl) ?_ k3;simpa using k2
 have hρ : v.ownBlock = none ∧ (g.ρ i).b = g.β i ∨ v.ownBlock = some (g.ρ i).b := h5
 obtain ⟨kk, ss⟩ := opq_turn sm hMi (φ' := wrO T E (φ.bs ++ news)) (w' := w') (rb := v'.ownBlock.getD (g.β i)) k4.size ⟨k4.os, k4.output⟩ (fun k q1 q2 q3 => k4.block k q1 q2 (by
   rcases hρ with ⟨h, _⟩ | h <;> rw [h]
   ·simp
   ·simpa using q3))
  (by
   rcases k5 with h | h
   ·rcases hρ with ⟨h', _⟩ | h'
    ·right; left; rw [h, h']; rfl
    ·left; rw [h, h']; rfl
   ·right; right; rw [h]; exact ⟨Nat.le_add_right _ _, k6 _ h⟩) hW
 exact ⟨_, rfl, g.β, _, ss, hre _, kk⟩
theorem putB_ok {P : Program} {f : FuncId} {T E : TypeId} (hent : ∀ args w, (callFunc f args).run P w = .ok (.enter f args) w)
  (hU : ∀ (b : Nat) (w : World) (p v : Value) (n : Nat) (xs : List Value) (c : Int), w.heap[b]? = some (.cells #[p, v] T (0, 0)) → (p = .pointer none ∨ p = .pointer (some ⟨b, 0, none⟩)) → w.ownsRow 0 E 1 v n xs → v.ownBlock ≠ some b → n + 1 ≤ 140737488355328 →
   Calls P f #[.pointer (some ⟨b, 0, none⟩), .int .u8 c] w fun e w' => e = .returned .nilIface ∧
   ∃ v', w'.heap[b]? = some (.cells #[.pointer (some ⟨b, 0, none⟩), v'] T (0, 0)) ∧ w'.ownsRow 0 E 1 v' (n + 1) (xs ++ [.int .u8 c]) ∧ v'.ownBlock ≠ some b ∧ WrKeep b v.ownBlock w w' ∧
     (v'.ownBlock = v.ownBlock ∨ v'.ownBlock = some (w.heap.size + 1)) ∧ ∀ g, v'.ownBlock = some g → g < w'.heap.size) : SpecOk P f (wrPutB T E) := by
 intro l M out h;unfold wrPutB at h;split at h
 ·rename_i i c;split at h
  ·rename_i φ hMi;cases h;intro g vs hM sm hr ho;subst hM;obtain ⟨hφ, happ⟩ := ho;cases hr with | cons hv hr => cases hr with | cons hs hr => cases hr with | nil =>
   cases hs;cases hv with
   | ptr _ _ hi =>
   exact putV_ok (news := [c]) (c := 1) (hent _ _) sm hMi hφ (fun _ => .lit _) (fun b w p v n xs k1 k2 k3 k4 k5 => hU b w p v n xs c k1 k2 k3 k4 k5) (by
    have := happ.1;simp only [lenL] at this;simp only [List.length_cons, List.length_nil];omega)
  ·cases h
 ·cases h
theorem putT_ok {P : Program} {f : FuncId} {T E : TypeId} (hent : ∀ args w, (callFunc f args).run P w = .ok (.enter f args) w)
  (hU : ∀ (b : Nat) (w : World) (p v : Value) (n : Nat) (xs : List Value) (s : ByteArray), w.heap[b]? = some (.cells #[p, v] T (0, 0)) → (p = .pointer none ∨ p = .pointer (some ⟨b, 0, none⟩)) → w.ownsRow 0 E 1 v n xs → v.ownBlock ≠ some b → 0 < s.size → n + s.size ≤ 140737488355328 →
   Calls P f #[.pointer (some ⟨b, 0, none⟩), .string s] w fun e w' => e = .returned (.tuple #[.int .i64 s.size, .nilIface]) ∧
   ∃ v', w'.heap[b]? = some (.cells #[.pointer (some ⟨b, 0, none⟩), v'] T (0, 0)) ∧ w'.ownsRow 0 E 1 v' (n + s.size) (xs ++ byteCells s) ∧ v'.ownBlock ≠ some b ∧ WrKeep b v.ownBlock w w' ∧
     (v'.ownBlock = v.ownBlock ∨ v'.ownBlock = some w.heap.size) ∧ ∀ g, v'.ownBlock = some g → g < w'.heap.size) : SpecOk P f (wrPutT T E) := by
 intro l M out h;unfold wrPutT at h;split at h
 ·rename_i i s;split at h
  ·rename_i φ hMi;cases h;intro g vs hM sm hr ho;subst hM;obtain ⟨hφ, hpos, happ⟩ := ho;cases hr with | cons hv hr => cases hr with | cons hs hr => cases hr with | nil =>
   cases hs
   have hl : (numsOf s).length = s.size := by
    unfold numsOf;rw [List.length_map];exact Array.length_toList
   have hc : byteCells s = (numsOf s).map (Value.int .u8) := by
    unfold byteCells numsOf;rw [List.map_map];rfl
   cases hv with
   | ptr _ _ hi =>
   refine putV_ok (news := numsOf s) (c := 0) (e := .tuple #[.int .i64 s.size, .nilIface]) (hent _ _) sm hMi hφ (fun g' => ?_) (fun b w p v n xs k1 k2 k3 k4 k5 => ?_) (by
    have := happ.1;simp only [lenL, lenS] at this;rw [hl];omega)
   ·refine .tup _ _ rfl fun j hj => ?_
    match j, hj with
    | 0, _ => exact .lit _
    | 1, _ => exact .lit _
   ·rw [hl] at k5 ⊢;rw [← hc];exact hU b w p v n xs s k1 k2 k3 k4 (by unfold lenS at hpos; omega) k5
  ·cases h
 ·cases h
end Go.Ab
namespace Go.Proofs
open Go.RowKit Go.Ab
set_option maxHeartbeats 2000000 in
set_option maxRecDepth 100000 in
theorem Tryz.byteW (b : Nat) (w : World) (p v : Value) (n : Nat) (xs : List Value) (c : Int) (hb : w.heap[b]? = some (.cells #[p, v] 126 (0, 0))) (hp : p = .pointer none ∨ p = .pointer (some ⟨b, 0, none⟩))
    (hown : w.ownsRow 0 5 1 v n xs) (hne : v.ownBlock ≠ some b)  (hbytes : n + 1 ≤ 140737488355328) :
    Calls Tryz.prog 29 #[.pointer (some ⟨b, 0, none⟩), .int .u8 c] w fun e w' => e = .returned (.nilIface) ∧
      ∃ v', w'.heap[b]? = some (.cells #[.pointer (some ⟨b, 0, none⟩), v'] 126 (0, 0)) ∧ w'.ownsRow 0 5 1 v' (n + 1) (xs ++ [.int .u8 c]) ∧ v'.ownBlock ≠ some b ∧ WrKeep b v.ownBlock w w' ∧
        (v'.ownBlock = v.ownBlock ∨ v'.ownBlock = some (w.heap.size + 1)) ∧ ∀ g, v'.ownBlock = some g → g < w'.heap.size := by
  have hbl : b < w.heap.size := by
    rcases Nat.lt_or_ge b w.heap.size with h | h
    · exact h
    · simp [Array.getElem?_eq_none h] at hb
  have H1 := hidW (Tryz.ccAny b w p v n xs hb hp hown hne);have H2 := hidW (show _ ∧ _ from ⟨hbl, hne⟩);obtain ⟨i0, hi, hz⟩ := Option.map_eq_some_iff.1 Tryz.byteI;simp only [Prod.mk.injEq] at hz;obtain ⟨hz0, hz1, hz2⟩ := hz;have Hi := hidW (show _ ∧ _ ∧ _ ∧ _ from ⟨hi, hz0, hz1, hz2⟩);clear hb hp hown hne hbl hi hz0 hz1 hz2
  go_enter Tryz.func29, Tryz.ntmps29
  go_wp2_with (go_at_call 57; refine H1.out.mono ?_);rintro e w1 ⟨rfl, hb1, hown1, hsz1, hk1, hall1⟩;have Hk := hidW (show _ ∧ _ ∧ _ from ⟨hb1, hsz1, hk1⟩);have Ho := hidW hown1;have c0 : w1.cell? ⟨b, 0, none⟩ = some (.pointer (some ⟨b, 0, none⟩)) := by rw [Lib.cell_of_heap hb1]; rfl
  have c1 : w1.cell? ⟨b, 1, none⟩ = some v := by rw [Lib.cell_of_heap hb1]; rfl
  clear hb1 hown1 hsz1 hk1 hall1 H1;go_wp2_with (at_builtin; refine wpList_append_w rfl _ _ 77 77 rfl 5 i0 _ Tryz.underlying77 Hi.out.1 Hi.out.2.1 Hi.out.2.2.1 Hi.out.2.2.2 rfl v n xs rfl (Ho.out.alloc _) _ rfl 1 [.int .u8 c] (Src.ofSlice _ Tryz.underlying77 ⟨w1.heap.size, 0, none⟩ 1 1 [.int .u8 c] rfl ?c1 ?c2) (by decide) (by omega) ?c3)
  all_goals first
    | (intro u hu; simp at hu; subst hu; rfl)
    | (intro j u hj
       match j, hj with
       | 0, hj => simp at hj; subst hj; simp [Addr.add]
       | (j + 1), hj => simp at hj)
    | skip
  intro v' w2 hown' hgrow hblk' hnn;obtain ⟨hbl, hne⟩ := H2.out;obtain ⟨hb1, hsz1, hk1⟩ := Hk.out;have hlt : b < w1.heap.size := by omega
  have hblk' : v'.ownBlock = v.ownBlock ∨ v'.ownBlock = some (w1.heap.size + 1) := by simpa using hblk'
  have hne' : v'.ownBlock ≠ some b := by
    rcases hblk' with h | h
    · rw [h]; exact hne
    · rw [h]; intro e; simp only [Option.some.injEq] at e; omega
  have hb2 : w2.heap[b]? = some (.cells #[.pointer (some ⟨b, 0, none⟩), v] 126 (0, 0)) := by
    rw [hgrow.block b (by simp; omega) (fun e => hne e.symm), Lib.alloc_old w1 _ b hlt];exact hb1
  have fin : ∀ w3, w3 = w2.setCell ⟨b, 1, none⟩ v' → w3.heap[b]? = some (.cells #[.pointer (some ⟨b, 0, none⟩), v'] 126 (0, 0)) ∧ w3.ownsRow 0 5 1 v' (n + 1) (xs ++ [.int .u8 c]) ∧ v'.ownBlock ≠ some b ∧ WrKeep b v.ownBlock w w3 ∧
        (v'.ownBlock = v.ownBlock ∨ v'.ownBlock = some (w.heap.size + 1)) ∧ ∀ g, v'.ownBlock = some g → g < w3.heap.size := by
    rintro w3 rfl
    have kg : WrKeep b v.ownBlock w1 w2 := by
      refine ⟨by have := hgrow.size; simp at this; omega, hgrow.os, hgrow.output, fun k q1 _ q3 => ?_⟩;rw [hgrow.block k (by simp; omega) q3, Lib.alloc_old w1 _ k q1]
    refine ⟨by simp [World.setCell, Array.getElem?_modify, hb2], ?_, hne', (hk1.trans kg).trans (WrKeep.setCell _ _ _ _ _), by rw [hsz1] at hblk'; exact hblk', fun q hq => ?_⟩
    · exact hown'.kept (row := some b) ⟨rfl, rfl, rfl, by simp [World.setCell], fun k _ hk => heap_setCell_ne (fun e => hk (by simp [e]))⟩ (.inr hne')
    · rcases hown'.2 with ⟨_, h⟩ | ⟨g', cap', cur, hv, _, ho, _⟩
      · omega
      · subst hv;simp only [Value.ownBlock, Option.some.injEq] at hq;subst hq;simp only [World.setCell, Array.size_modify];rcases Nat.lt_or_ge g' w2.heap.size with h | h
        · exact h
        · simp [Array.getElem?_eq_none h] at ho
  have Hf := hidW fin;have d0 : w2.cell? ⟨b, 0, none⟩ = some (.pointer (some ⟨b, 0, none⟩)) := by rw [Lib.cell_of_heap hb2]; rfl
  have d1 : w2.cell? ⟨b, 1, none⟩ = some v := by rw [Lib.cell_of_heap hb2]; rfl
  have f1 : w2.frozen? ⟨b, 1, none⟩ = false := Lib.frozen_of_heap hb2 1
  obtain ⟨g, cap', hv'⟩ : ∃ g cap', v' = .slice (some ⟨g, 0, none⟩) (n + 1) cap' := by
    rcases hown'.2 with ⟨_, h⟩ | ⟨g, cap', cur, hv, _⟩
    · omega
    · exact ⟨_, _, hv⟩
  subst hv';clear hown' hgrow hblk' hnn hne' hk1 hsz1 hne hb1 hbl hlt hb2 fin H2 Hk Ho;go_wp2;go_ret;exact ⟨rfl, _, Hf.out _ rfl⟩
set_option maxHeartbeats 2000000 in
set_option maxRecDepth 100000 in
theorem Tryz.textPutW (b : Nat) (w : World) (p v : Value) (n : Nat) (xs : List Value) (s : ByteArray) (hb : w.heap[b]? = some (.cells #[p, v] 126 (0, 0))) (hp : p = .pointer none ∨ p = .pointer (some ⟨b, 0, none⟩))
  (hown : w.ownsRow 0 5 1 v n xs) (hne : v.ownBlock ≠ some b) (hpos : 0 < s.size) (hbytes : n + s.size ≤ 140737488355328) :
  Calls Tryz.prog 101 #[.pointer (some ⟨b, 0, none⟩), .string s] w fun e w' => e = .returned (.tuple #[.int .i64 s.size, .nilIface]) ∧
   ∃ v', w'.heap[b]? = some (.cells #[.pointer (some ⟨b, 0, none⟩), v'] 126 (0, 0)) ∧ w'.ownsRow 0 5 1 v' (n + s.size) (xs ++ (byteCells s)) ∧ v'.ownBlock ≠ some b ∧ WrKeep b v.ownBlock w w' ∧
     (v'.ownBlock = v.ownBlock ∨ v'.ownBlock = some (w.heap.size)) ∧ ∀ g, v'.ownBlock = some g → g < w'.heap.size := by
 have hbl : b < w.heap.size := by
  rcases Nat.lt_or_ge b w.heap.size with h | h
  ·exact h
  ·simp [Array.getElem?_eq_none h] at hb
 have H1 := hidW (Tryz.ccAny b w p v n xs hb hp hown hne);have H2 := hidW (show _ ∧ _ from ⟨hbl, hne⟩);obtain ⟨i0, hi, hz⟩ := Option.map_eq_some_iff.1 Tryz.byteI;simp only [Prod.mk.injEq] at hz;obtain ⟨hz0, hz1, hz2⟩ := hz;have Hi := hidW (show _ ∧ _ ∧ _ ∧ _ from ⟨hi, hz0, hz1, hz2⟩);clear hb hp hown hne hbl hi hz0 hz1 hz2
 go_enter Tryz.func101, Tryz.ntmps101
 go_wp2_with (go_at_call 57; refine H1.out.mono ?_);rintro e w1 ⟨rfl, hb1, hown1, hsz1, hk1, hall1⟩;have Hk := hidW (show _ ∧ _ ∧ _ from ⟨hb1, hsz1, hk1⟩);have Ho := hidW hown1;have c0 : w1.cell? ⟨b, 0, none⟩ = some (.pointer (some ⟨b, 0, none⟩)) := by rw [Lib.cell_of_heap hb1]; rfl
 have c1 : w1.cell? ⟨b, 1, none⟩ = some v := by rw [Lib.cell_of_heap hb1]; rfl
 clear hb1 hown1 hsz1 hk1 hall1 H1;go_wp2_with (at_builtin; refine wpList_append_w rfl _ _ 77 9 rfl 5 i0 _ Tryz.underlying77 Hi.out.1 Hi.out.2.1 Hi.out.2.2.1 Hi.out.2.2.2 rfl v n xs rfl Ho.out _ rfl s.size (byteCells s) (Src.ofString _ Tryz.underlying9 s) hpos (by omega) ?c3);intro v' w2 hown' hgrow hblk' hnn;obtain ⟨hbl, hne⟩ := H2.out;obtain ⟨hb1, hsz1, hk1⟩ := Hk.out;have hlt : b < w1.heap.size := by omega
 have hne' : v'.ownBlock ≠ some b := by
  rcases hblk' with h | h
  ·rw [h]; exact hne
  ·rw [h]; intro e; simp only [Option.some.injEq] at e; omega
 have hb2 : w2.heap[b]? = some (.cells #[.pointer (some ⟨b, 0, none⟩), v] 126 (0, 0)) := by
  rw [hgrow.block b hlt (fun e => hne e.symm)];exact hb1
 have fin : ∀ w3, w3 = w2.setCell ⟨b, 1, none⟩ v' → w3.heap[b]? = some (.cells #[.pointer (some ⟨b, 0, none⟩), v'] 126 (0, 0)) ∧ w3.ownsRow 0 5 1 v' (n + s.size) (xs ++ (byteCells s)) ∧ v'.ownBlock ≠ some b ∧ WrKeep b v.ownBlock w w3 ∧
    (v'.ownBlock = v.ownBlock ∨ v'.ownBlock = some (w.heap.size)) ∧ ∀ g, v'.ownBlock = some g → g < w3.heap.size := by
  rintro w3 rfl
  have kg : WrKeep b v.ownBlock w1 w2 := by
   refine ⟨by have := hgrow.size; omega, hgrow.os, hgrow.output, fun k q1 _ q3 => ?_⟩;exact hgrow.block k q1 q3
  refine ⟨by simp [World.setCell, Array.getElem?_modify, hb2], ?_, hne', (hk1.trans kg).trans (WrKeep.setCell _ _ _ _ _), by rw [hsz1] at hblk'; exact hblk', fun q hq => ?_⟩
  ·exact hown'.kept (row := some b) ⟨rfl, rfl, rfl, by simp [World.setCell], fun k _ hk => heap_setCell_ne (fun e => hk (by simp [e]))⟩ (.inr hne')
  ·rcases hown'.2 with ⟨_, h⟩ | ⟨g', cap', cur, hv, _, ho, _⟩
   ·omega
   ·subst hv;simp only [Value.ownBlock, Option.some.injEq] at hq;subst hq;simp only [World.setCell, Array.size_modify];rcases Nat.lt_or_ge g' w2.heap.size with h | h
    ·exact h
    ·simp [Array.getElem?_eq_none h] at ho
 have Hf := hidW fin;have d0 : w2.cell? ⟨b, 0, none⟩ = some (.pointer (some ⟨b, 0, none⟩)) := by rw [Lib.cell_of_heap hb2]; rfl
 have d1 : w2.cell? ⟨b, 1, none⟩ = some v := by rw [Lib.cell_of_heap hb2]; rfl
 have f1 : w2.frozen? ⟨b, 1, none⟩ = false := Lib.frozen_of_heap hb2 1
 obtain ⟨g, cap', hv'⟩ : ∃ g cap', v' = .slice (some ⟨g, 0, none⟩) (n + s.size) cap' := by
  rcases hown'.2 with ⟨_, h⟩ | ⟨g, cap', cur, hv, _⟩
  ·omega
  ·exact ⟨_, _, hv⟩
 subst hv';clear hown' hgrow hblk' hnn hne' hk1 hsz1 hne hb1 hbl hlt hb2 fin H2 Hk Ho;go_wp2
 go_ret2
 exact ⟨rfl, _, Hf.out _ rfl⟩
theorem gaF.ok : SpecOk Tryz.prog 29 (wrPutB 126 5) :=
 putB_ok (fun _ _ => by kernel_rfl) fun b w p v n xs c hb hp hown hne hn => Tryz.byteW b w p v n xs c hb hp hown hne hn
theorem gaG.ok : SpecOk Tryz.prog 101 (wrPutT 126 5) :=
 putT_ok (fun _ _ => by kernel_rfl) fun b w p v n xs s hb hp hown hne hpos hn => Tryz.textPutW b w p v n xs s hb hp hown hne hpos hn
end Go.Proofs
end
section
namespace Go.Proofs
open Go.Ab Go.Shelf
theorem Tryz.sortsD (m : Nat) : AnyZI.SortsIn Tryz.prog Tryz.sortedAD_ren Fence.wide m :=
  ⟨fun blk off cap ss W hH hblk hsz => callsIn_wide.2 (AnyM.slices_Sort_int Tryz.sortAD blk off cap ss W hH hblk hsz),
   fun p cap W => callsIn_wide.2 (AnyM.slices_Sort_int_none Tryz.sortAD p cap W)⟩
theorem keysD.ok : SpecOk Tryz.prog 379 (keysS 433) :=
 keys_ok Tryz.keysAD rfl rfl (enters_of Tryz.func379 (by kernel_rfl) rfl)
theorem sortedD.ok : SpecOk Tryz.prog 171 (sortedS 433) :=
 sorted_ok Tryz.sortedAD { Tryz.keysAD with } rfl rfl (enters_of Tryz.func171 (by kernel_rfl) rfl) Tryz.sortsD (enters_of Tryz.func241 (by kernel_rfl) rfl) (enters_of Tryz.func433 (by kernel_rfl) rfl)
theorem keysP.ok : SpecOk Tryz.prog 172 (keysS 242) :=
 keys_ok Tryz.keysAP rfl rfl (enters_of Tryz.func172 (by kernel_rfl) rfl)
theorem sortedP.ok : SpecOk Tryz.prog 171 (sortedS 242) :=
 sorted_ok Tryz.sortedAD { Tryz.keysAP with } rfl rfl (enters_of Tryz.func171 (by kernel_rfl) rfl) Tryz.sortsD (enters_of Tryz.func241 (by kernel_rfl) rfl) (enters_of Tryz.func242 (by kernel_rfl) rfl)
theorem keysE.ok : SpecOk Tryz.prog 341 (keysS 412) :=
 keys_ok Tryz.keysAE rfl rfl (enters_of Tryz.func341 (by kernel_rfl) rfl)
theorem sortedE.ok : SpecOk Tryz.prog 171 (sortedS 412) :=
 sorted_ok Tryz.sortedAD { Tryz.keysAE with } rfl rfl (enters_of Tryz.func171 (by kernel_rfl) rfl) Tryz.sortsD (enters_of Tryz.func241 (by kernel_rfl) rfl) (enters_of Tryz.func412 (by kernel_rfl) rfl)
theorem keysN.ok : SpecOk Tryz.prog 417 (keysS 448) :=
 keys_ok Tryz.keysAN rfl rfl (enters_of Tryz.func417 (by kernel_rfl) rfl)
theorem sortedN.ok : SpecOk Tryz.prog 171 (sortedS 448) :=
 sorted_ok Tryz.sortedAD { Tryz.keysAN with } rfl rfl (enters_of Tryz.func171 (by kernel_rfl) rfl) Tryz.sortsD (enters_of Tryz.func241 (by kernel_rfl) rfl) (enters_of Tryz.func448 (by kernel_rfl) rfl)
theorem keysT.ok : SpecOk Tryz.prog 382 (keysS 436) :=
 keysS_okZ Tryz.keysAS rfl rfl (enters_of Tryz.func382 (by kernel_rfl) rfl)
theorem Tryz.sortsS (m : Nat) : AnyZ.SortsIn Tryz.prog Tryz.sortedAS_ren Fence.wide m :=
  ⟨fun blk off cap ss W hH hblk hsz => callsIn_wide.2 (AnyM.slices_Sort_string Tryz.sortAS blk off cap ss W hH hblk hsz),
   fun p cap W => callsIn_wide.2 (AnyM.slices_Sort_string_none Tryz.sortAS p cap W)⟩
theorem sortedT.ok : SpecOk Tryz.prog 381 (sortedSS 436) :=
 sortedS_ok Tryz.sortedAS { Tryz.keysAS with } rfl rfl (enters_of Tryz.func381 (by kernel_rfl) rfl) Tryz.sortsS (enters_of Tryz.func435 (by kernel_rfl) rfl) (enters_of Tryz.func436 (by kernel_rfl) rfl)
end Go.Proofs
end
