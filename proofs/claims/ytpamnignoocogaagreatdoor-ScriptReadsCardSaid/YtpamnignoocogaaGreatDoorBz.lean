import Derived.Test.YtpamnignoocogaaGreatDoorBy
import Derived.Test.YtpamnignoocogaaGreatDoorM15
namespace Go.Proofs
open Go.Ab
theorem splitT_len (s : ByteArray) (c : UInt8) : (splitT s c).length ≤ s.size + 1 := by
 have := splitL_len c s.data.toList;unfold splitT;rw [List.length_map];exact this
theorem splitT_pos (s : ByteArray) (c : UInt8) : 1 ≤ (splitT s c).length := by
 unfold splitT;rw [List.length_map];exact List.length_pos_iff.2 (splitL_ne c _)
theorem splitT_mem (s : ByteArray) (c : UInt8) {p : ByteArray} (h : p ∈ splitT s c) : p.size ≤ s.size := by
 obtain ⟨q, hq, rfl⟩ := List.mem_map.1 h;have := splitL_mem c _ q hq;rw [Lib.size_mk];exact this
theorem good_len {s : ByteArray} (h : goodB (scan s 0) = true) : 0 < s.size ∧ s.size ≤ 64 := by
 have hl := scan_len s 0;simp only [goodB, Bool.and_eq_true, decide_eq_true_eq] at h;omega
theorem valid_shp {c : Cmd} (h : Valid c) (hs : ∀ x ∈ c.fa, 0 ≤ x ∧ x < 4294967296) : ∃ l, Shp c l := by
 cases h
 case join r n h1 h2 =>
  have g1 := good_len h1;have g2 := good_len h2;have := Shp.join (bytesOf r) (bytesOf n) (by rw [bytesOf_len]; omega) (by rw [bytesOf_len]; omega);rw [ofB_of, ofB_of] at this;exact ⟨_, this⟩
 case leave p hp => exact ⟨_, .leave p ⟨hp.1, by omega⟩⟩
 case publish p t v ss hp ht hl => exact ⟨_, .publish p t v ss ⟨hp.1, by omega⟩ ⟨ht.1, by omega⟩ (by omega) hs⟩
 case unpublish p t hp ht => exact ⟨_, .unpublish p t ⟨hp.1, by omega⟩ ⟨ht.1, by omega⟩⟩
 case subscribe p o t l hp ho ht hl => exact ⟨_, .subscribe p o t l ⟨hp.1, by omega⟩ ⟨ho.1, by omega⟩ ⟨ht.1, by omega⟩ ⟨hl.1, by omega⟩⟩
 case unsubscribe p o t hp ho ht => exact ⟨_, .unsubscribe p o t ⟨hp.1, by omega⟩ ⟨ho.1, by omega⟩ ⟨ht.1, by omega⟩⟩
 case mute p t b hp ht => exact ⟨_, .mute p t b ⟨hp.1, by omega⟩ ⟨ht.1, by omega⟩⟩
 case pause p o t b hp ho ht => exact ⟨_, .pause p o t b ⟨hp.1, by omega⟩ ⟨ho.1, by omega⟩ ⟨ht.1, by omega⟩⟩
theorem valid_names {c : Cmd} (h : Valid c) (hk : c.fb = 1) : 0 < c.fd.size ∧ 0 < c.ff.size := by
 cases h
 case join r n h1 h2 => exact ⟨(good_len h1).1, (good_len h2).1⟩
 all_goals simp at hk
theorem cmd_tail {c : Cmd} (h : CmdOk c) : ∃ v, gq c = some v ∧ gP c = some v ∧ (v = 0 → ∃ t, gf c = some t ∧ gD c = some t) := by
 have hr := h.room;have hn := h.name;have hl := h.len;obtain ⟨v, h1, h2⟩ := check_some c (by omega) (by omega) (by omega);refine ⟨v, by rw [check_eq c (by omega) (by omega) (by omega)]; exact h1, h1, fun h0 => ?_⟩;obtain ⟨l, hs⟩ := valid_shp (h2 h0) h.rng;exact ⟨_, text_d hs (valid_names (h2 h0)), rtext_d hs⟩
def SameEv (e : Tc) (x : Tb) : Prop := e.fb = x.fb ∧ e.fc = x.fc ∧ e.fN = x.fN ∧ e.fj = x.fj
def SameAns (a : Option (Tc × Int)) (b : Option (Tb × Int)) : Prop := ∃ e err x, a = some (e, err) ∧ b = some (x, err) ∧ (err = 0 → SameEv e x)
theorem tail_eq {v : ByteArray} {l : List ByteArray} (h : SameCmd v l) : SameAns
  ((gi v l).bind fun r3 => bif notB r3.2 then some ((Tc.mk 0 0 ⟨#[]⟩ 0), 2) else (gq r3.1).bind fun r4 => bif neI r4 0 then some ((Tc.mk 0 0 ⟨#[]⟩ 0), r4) else (gf r3.1).bind fun r5 => some (Tc.mk 2 0 r5 0, 0))
  ((gA v l).bind fun r3 => bif notB r3.2 then some ((Tb.mk 0 0 0 ⟨#[]⟩ (Ta.mk 0 ⟨#[]⟩ ⟨#[]⟩ 0 0 0 0 false false [])), 2) else (gP r3.1).bind fun r4 => bif neI r4 0 then some ((Tb.mk 0 0 0 ⟨#[]⟩ (Ta.mk 0 ⟨#[]⟩ ⟨#[]⟩ 0 0 0 0 false false [])), r4) else (gD r3.1).bind fun r5 => some (Tb.mk 2 0 0 r5 (Ta.mk 0 ⟨#[]⟩ ⟨#[]⟩ 0 0 0 0 false false []), 0)) := by
 obtain ⟨c, ok, e1, e2, hc⟩ := h;rw [e1, e2];cases ok with
 | false => exact ⟨_, _, _, rfl, rfl, fun h => absurd h (by decide)⟩
 | true =>
   obtain ⟨v, k1, k2, k3⟩ := cmd_tail hc;simp only [Lh, notB, Bool.not_true, cond_false, k1, k2];by_cases h0 : v = 0
   ·obtain ⟨t, t1, t2⟩ := k3 h0;rw [neI_f h0, t1, t2];exact ⟨_, _, _, rfl, rfl, fun _ => ⟨rfl, rfl, rfl, rfl⟩⟩
   ·rw [neI_t h0];exact ⟨_, _, _, rfl, rfl, fun h => absurd h h0⟩
def verbsL : List ByteArray := [⟨#[97, 117, 100, 105, 111]⟩, ⟨#[99, 114, 101, 100, 105, 116]⟩, ⟨#[100, 97, 116, 97]⟩, ⟨#[106, 111, 105, 110]⟩, ⟨#[108, 101, 97, 118, 101]⟩, ⟨#[109, 117, 116, 101]⟩, ⟨#[112, 97, 117, 115, 101]⟩, ⟨#[115, 117, 98, 115, 99, 114, 105, 98, 101]⟩, ⟨#[116, 105, 99, 107]⟩, ⟨#[117, 110, 112, 117, 98, 108, 105, 115, 104]⟩, ⟨#[117, 110, 115, 117, 98, 115, 99, 114, 105, 98, 101]⟩, ⟨#[118, 105, 100, 101, 111]⟩]
theorem known_d (v : ByteArray) : gK v = some (hasT verbsL v) := by
 have ht : v ∈ verbsL → hasT verbsL v = true := (Lib.containsS_iff _ _).2
 have hf : v ∉ verbsL → hasT verbsL v = false := fun h => by
  cases q : hasT verbsL v with
  | false => rfl
  | true => exact absurd ((Lib.containsS_iff _ _).1 q) h
 have h12 : verbsL.length = 12 := rfl
 obtain ⟨t, htt, hq⟩ := loop_ends (body := gK.loop1 v) (fun st => ∃ k : Nat, k ≤ 12 ∧ st = (k : Int) ∧ v ∉ verbsL.take k) (fun t => flC t (fun (_ : Unit) => some false) = some (hasT verbsL v)) (fun st => 12 - st.toNat) (fun st hst => by
  obtain ⟨k, hk, rfl, hno⟩ := hst;unfold gK.loop1;rw [show ([⟨#[97, 117, 100, 105, 111]⟩, ⟨#[99, 114, 101, 100, 105, 116]⟩, ⟨#[100, 97, 116, 97]⟩, ⟨#[106, 111, 105, 110]⟩, ⟨#[108, 101, 97, 118, 101]⟩, ⟨#[109, 117, 116, 101]⟩, ⟨#[112, 97, 117, 115, 101]⟩, ⟨#[115, 117, 98, 115, 99, 114, 105, 98, 101]⟩, ⟨#[116, 105, 99, 107]⟩, ⟨#[117, 110, 112, 117, 98, 108, 105, 115, 104]⟩, ⟨#[117, 110, 115, 117, 98, 115, 99, 114, 105, 98, 101]⟩, ⟨#[118, 105, 100, 101, 111]⟩] : List ByteArray) = verbsL from rfl];by_cases hlt : k < 12
  ·rw [ltI_t (show (k : Int) < 12 by omega), cond_true, Lf (show InB (k : Int) 12 from ⟨by omega, by omega⟩)];have hu : nthI verbsL (k : Int) = verbsL[k]'(by omega) := nth_n (show k < verbsL.length by omega);by_cases he : nthI verbsL (k : Int) = v
   ·rw [(eqS_iff _ _).2 he, cond_true];show flC (Fl.out true) _ = _;rw [flC_out, ht (he ▸ hu ▸ List.getElem_mem _)]
   ·have : eqS (nthI verbsL (k : Int)) v = false := by
     cases q : eqS (nthI verbsL (k : Int)) v with
     | false => rfl
     | true => exact absurd ((eqS_iff _ _).1 q) he
    rw [this, cond_false];have hadd : addI .i64 (k : Int) 1 = ((k + 1 : Nat) : Int) := by rw [addI_n (by omega) (by omega)]; omega
    refine ⟨⟨k + 1, hlt, hadd, ?_⟩, by rw [hadd]; simp only [Int.toNat_natCast]; omega⟩;rw [List.take_succ_eq_append_getElem (by omega)];intro hm;rcases List.mem_append.1 hm with hm | hm
    ·exact hno hm
    ·exact he (hu.trans (List.mem_singleton.1 hm).symm)
  ·rw [ltI_f (show ¬ (k : Int) < 12 by omega), cond_false];have : k = 12 := by omega
   subst this;rw [List.take_of_length_le (by omega)] at hno;show flC (Fl.go ()) _ = _;rw [flC_go, hf hno]) 0 ⟨0, by omega, rfl, by simp⟩
 unfold gK;rw [htt, Lh];exact hq
theorem verbs_of {v : ByteArray} (h : hasT verbsL v = true) : v = ⟨#[97, 117, 100, 105, 111]⟩ ∨ v = ⟨#[99, 114, 101, 100, 105, 116]⟩ ∨ v = ⟨#[100, 97, 116, 97]⟩ ∨ v = ⟨#[106, 111, 105, 110]⟩ ∨ v = ⟨#[108, 101, 97, 118, 101]⟩ ∨ v = ⟨#[109, 117, 116, 101]⟩ ∨ v = ⟨#[112, 97, 117, 115, 101]⟩ ∨ v = ⟨#[115, 117, 98, 115, 99, 114, 105, 98, 101]⟩ ∨ v = ⟨#[116, 105, 99, 107]⟩ ∨ v = ⟨#[117, 110, 112, 117, 98, 108, 105, 115, 104]⟩ ∨ v = ⟨#[117, 110, 115, 117, 98, 115, 99, 114, 105, 98, 101]⟩ ∨ v = ⟨#[118, 105, 100, 101, 111]⟩ := by
 have := (Lib.containsS_iff verbsL v).1 h;simpa only [verbsL, List.mem_cons, List.mem_nil_iff, or_false] using this
theorem line_eq (s : ByteArray) (hs : s.size ≤ 400) : SameAns (gp s) (gI s) := by
 obtain ⟨v, l, hW⟩ : ∃ v l, splitT s 32 = v :: l := by
  have := splitT_pos s 32;cases h : splitT s 32 with
  | nil => rw [h] at this; simp at this
  | cons v l => exact ⟨v, l, rfl⟩
 have hlen := splitT_len s 32;rw [hW, List.length_cons] at hlen;have hl : l.length ≤ 1000 := by omega
 have hsz : ∀ w ∈ l, w.size ≤ 400 := fun w hw => Nat.le_trans (splitT_mem s 32 (by rw [hW]; exact .tail _ hw)) hs;have i0 : InB 0 (lenL (v :: l)) := ⟨by omega, by rw [lenL_n, List.length_cons]; omega⟩;have c1 : CutB 1 (lenL (v :: l)) (lenL (v :: l)) := ⟨by omega, by rw [lenL_n, List.length_cons]; omega, Int.le_refl _⟩;have e0 : nthI (v :: l) 0 = v := rfl;have e1 : cutL (v :: l) 1 (lenL (v :: l)) = l := cut_from (v :: l) 1;have h12 : lenL verbsL ≤ 140737488355328 := by decide
 have n1 : s.size < 4294967281 := by omega
 have n2 : lenS s ≤ 400 := by unfold lenS; omega
 unfold gp gI gW;rw [show ([⟨#[97, 117, 100, 105, 111]⟩, ⟨#[99, 114, 101, 100, 105, 116]⟩, ⟨#[100, 97, 116, 97]⟩, ⟨#[106, 111, 105, 110]⟩, ⟨#[108, 101, 97, 118, 101]⟩, ⟨#[109, 117, 116, 101]⟩, ⟨#[112, 97, 117, 115, 101]⟩, ⟨#[115, 117, 98, 115, 99, 114, 105, 98, 101]⟩, ⟨#[116, 105, 99, 107]⟩, ⟨#[117, 110, 112, 117, 98, 108, 105, 115, 104]⟩, ⟨#[117, 110, 115, 117, 98, 115, 99, 114, 105, 98, 101]⟩, ⟨#[118, 105, 100, 101, 111]⟩] : List ByteArray) = verbsL from rfl, hW];simp only [Lf i0, Lf c1, Lf n1, Lf n2, Lf h12, Lh, e0, e1, known_d];cases hk : hasT verbsL v with
 | false => exact ⟨_, _, _, rfl, rfl, fun h => absurd h (by decide)⟩
 | true =>
   simp only [show notB true = false from rfl, cond_false];rcases verbs_of hk with rfl | rfl | rfl | rfl | rfl | rfl | rfl | rfl | rfl | rfl | rfl | rfl
   ·simp only [vq_audio, pickB, cond_false, pl_audio, Lh];exact tail_eq (cmd_audio l hl)
   ·unfold gg gV;simp only [vq_credit, pickB, cond_true, cond_false, cmd_credit l hl, numbers_eq, nums_d l hl, Lh];by_cases hn : l.length = 2
    ·rw [show eqI (lenL l) 2 = true from len_t hn, neI_f (show lenL l = 2 by rw [lenL_n]; omega)]
     obtain ⟨a, b, rfl⟩ : ∃ a b, l = [a, b] := by
      match l, hn with
      | [a, b], _ => exact ⟨a, b, rfl⟩
     obtain ⟨n, oka, ea, _⟩ := number_some a;obtain ⟨m, okb, eb, _⟩ := number_some b;have va : numV a = bif oka then some n else none := by unfold numV; rw [ea]; rfl
     have vb : numV b = bif okb then some m else none := by unfold numV; rw [eb]; rfl
     have q0 : InB 0 (lenL [a, b]) := ⟨by omega, by rw [lenL_n]; simp⟩;have q1 : InB 1 (lenL [a, b]) := ⟨by omega, by rw [lenL_n]; simp⟩;simp only [numsR, numsV, va, vb, Lf q0, Lf q1, show nthI [a, b] 0 = a from rfl, show nthI [a, b] 1 = b from rfl, ea, eb, Lh, cond_true, cond_false];cases oka
     ·exact ⟨_, _, _, rfl, rfl, fun h => absurd h (by decide)⟩
     ·cases okb
      ·exact ⟨_, _, _, rfl, rfl, fun h => absurd h (by decide)⟩
      ·simp only [cond_true, Option.bind_some, Option.map_some];rw [Lf (in0 (l := [n, m]) (by simp)), Lf (in1 (l := [n, m]) (by simp))];exact ⟨_, _, _, rfl, rfl, fun _ => ⟨rfl, rfl, rfl, rfl⟩⟩
    ·rw [show eqI (lenL l) 2 = false from len_f hn, neI_t (show lenL l ≠ 2 by rw [lenL_n]; omega)];exact ⟨_, _, _, rfl, rfl, fun h => absurd h (by decide)⟩
   ·unfold gg gV;simp only [vq_data, pickB, cond_true, cond_false, cmd_data l hl, Lh];by_cases hn : l.length = 2
    ·rw [show eqI (lenL l) 2 = true from len_t hn, neI_f (show lenL l = 2 by rw [lenL_n]; omega)]
     obtain ⟨a, b, rfl⟩ : ∃ a b, l = [a, b] := by
      match l, hn with
      | [a, b], _ => exact ⟨a, b, rfl⟩
     obtain ⟨n, oka, ea, _⟩ := number_some a
     have hb : (bytesOf b).length ≤ 1000000 := by
      have := hsz b (.tail _ (.head _));rw [bytesOf_len]; omega
     have q0 : InB 0 (lenL [a, b]) := ⟨by omega, by rw [lenL_n]; simp⟩;have q1 : InB 1 (lenL [a, b]) := ⟨by omega, by rw [lenL_n]; simp⟩;simp only [Lf q0, Lf q1, show nthI [a, b] 0 = a from rfl, show nthI [a, b] 1 = b from rfl, number_eq, ea, bytes_plain b hb, refBytes_plain b hb, Lh, cond_true, cond_false];generalize bytesR b = r;obtain ⟨t, okb⟩ := r;cases oka
     ·exact ⟨_, _, _, rfl, rfl, fun h => absurd h (by decide)⟩
     ·cases okb
      ·exact ⟨_, _, _, rfl, rfl, fun h => absurd h (by decide)⟩
      ·exact ⟨_, _, _, rfl, rfl, fun _ => ⟨rfl, rfl, rfl, rfl⟩⟩
    ·rw [show eqI (lenL l) 2 = false from len_f hn, neI_t (show lenL l ≠ 2 by rw [lenL_n]; omega)];exact ⟨_, _, _, rfl, rfl, fun h => absurd h (by decide)⟩
   ·simp only [vq_join, pickB, cond_false, pl_join, Lh];exact tail_eq (cmd_join l hl hsz)
   ·simp only [vq_leave, pickB, cond_false, pl_leave, Lh];exact tail_eq (cmd_leave l hl)
   ·simp only [vq_mute, pickB, cond_false, pl_mute, Lh];exact tail_eq (cmd_mute l hl)
   ·simp only [vq_pause, pickB, cond_false, pl_pause, Lh];exact tail_eq (cmd_pause l hl)
   ·simp only [vq_subscribe, pickB, cond_false, pl_subscribe, Lh];exact tail_eq (cmd_subscribe l hl)
   ·unfold gg gV;simp only [vq_tick, pickB, cond_true, cond_false, cmd_tick l hl, Lh];generalize eqI (lenL l) 0 = b;cases b
    ·exact ⟨_, _, _, rfl, rfl, fun h => absurd h (by decide)⟩
    ·exact ⟨_, _, _, rfl, rfl, fun _ => ⟨rfl, rfl, rfl, rfl⟩⟩
   ·simp only [vq_unpublish, pickB, cond_false, pl_unpublish, Lh];exact tail_eq (cmd_unpublish l hl)
   ·simp only [vq_unsubscribe, pickB, cond_false, pl_unsubscribe, Lh];exact tail_eq (cmd_unsubscribe l hl)
   ·simp only [vq_video, pickB, cond_false, pl_video, Lh];exact tail_eq (cmd_video l hl)
theorem line_some (s : ByteArray) (hs : s.size ≤ 400) : ∃ e err x, gp s = some (e, err) ∧ gI s = some (x, err) ∧ (err = 0 → SameEv e x) := line_eq s hs
noncomputable def lineE (s : ByteArray) : Tc × Int := (gp s).getD default
theorem lineE_of {s : ByteArray} {e : Tc} {err : Int} (h : gp s = some (e, err)) : lineE s = (e, err) := by unfold lineE; rw [h]; rfl
theorem lineE_d (s : ByteArray) (hs : s.size ≤ 400) : gp s = some (lineE s) ∧ ∃ x, gI s = some (x, (lineE s).2) ∧ ((lineE s).2 = 0 → SameEv (lineE s).1 x) := by
 obtain ⟨e, err, x, h1, h2, h3⟩ := line_some s hs;rw [lineE_of h1];exact ⟨h1, x, h2, h3⟩
def ParseIs (rows : List ByteArray) (r : List Tc × Int × Int) : Prop :=
 (r = (rows.map fun s => (lineE s).1, 0, 0) ∧ ∀ s ∈ rows, (lineE s).2 = 0) ∨
 ∃ (i : Nat) (hi : i < rows.length), (∀ j (hj : j < rows.length), j < i → (lineE rows[j]).2 = 0) ∧ (lineE rows[i]).2 ≠ 0 ∧ r = ([], (i : Int), (lineE rows[i]).2)
theorem parse_rows (rows : List ByteArray) (hl : rows.length ≤ 500) (hs : ∀ s ∈ rows, s.size ≤ 400) : ∃ r, ((loopF (gt.loop2 rows) (0, [])).bind fun f => flC f fun (v2 : List Tc) => some (v2, 0, 0)) = some r ∧ ParseIs rows r := by
 obtain ⟨t, ht, hq⟩ := loop_ends (body := gt.loop2 rows) (fun st => ∃ k : Nat, k ≤ rows.length ∧ (∀ j (hj : j < rows.length), j < k → (lineE rows[j]).2 = 0) ∧ st = ((k : Int), (rows.take k).map fun s => (lineE s).1)) (fun t => ∃ r, flC t (fun (v2 : List Tc) => some (v2, 0, 0)) = some r ∧ ParseIs rows r) (fun st => rows.length - st.1.toNat) (fun st hst => by
  obtain ⟨k, hk, hz, rfl⟩ := hst;unfold gt.loop2;by_cases hlt : k < rows.length
  ·have e0 : ltI (k : Int) (lenL rows) = true := ltI_t (by rw [lenL_n]; omega);simp only [e0, cond_true];rw [Lf (show InB (k : Int) (lenL rows) from ⟨by omega, by rw [lenL_n]; omega⟩), nth_n hlt, (lineE_d _ (hs _ (List.getElem_mem hlt))).1];simp only [Lh];by_cases he : (lineE rows[k]).2 = 0
   ·rw [neI_f he, cond_false, Lf (show AppB (lenL ((rows.take k).map fun s => (lineE s).1)) 1 40 by constructor <;> simp only [lenL, List.length_map, List.length_take] <;> omega)];have hadd : addI .i64 (k : Int) 1 = ((k + 1 : Nat) : Int) := by rw [addI_n (by omega) (by omega)]; omega
    refine ⟨⟨k + 1, hlt, fun j hj hjk => ?_, ?_⟩, by simp only [hadd, Int.toNat_natCast]; omega⟩
    ·by_cases hj2 : j < k
     ·exact hz j hj hj2
     ·have : j = k := by omega
      subst this; exact he
    ·rw [hadd, List.take_succ_eq_append_getElem hlt, List.map_append];rfl
   ·rw [neI_t he, cond_true];exact ⟨_, rfl, .inr ⟨k, hlt, hz, he, rfl⟩⟩
  ·have e0 : ltI (k : Int) (lenL rows) = false := ltI_f (by rw [lenL_n]; omega);simp only [e0, cond_false];have : k = rows.length := by omega
   subst this;rw [List.take_length];refine ⟨_, rfl, .inl ⟨rfl, fun s hs => ?_⟩⟩;obtain ⟨j, hj, rfl⟩ := List.mem_iff_getElem.1 hs;exact hz j hj hj) (0, []) ⟨0, Nat.zero_le _, fun j _ h => absurd h (Nat.not_lt_zero _), rfl⟩
 rw [ht, Lh];exact hq
def rowsOf (L : List ByteArray) : List ByteArray := bif eqS (nthI L (subI .i64 (lenL L) 1)) ⟨#[]⟩ then cutL L 0 (subI .i64 (lenL L) 1) else L
theorem rows_d {X : Type} {L : List ByteArray} (h1 : 1 ≤ L.length) (h2 : L.length ≤ 1000) (k : List ByteArray → Option X) :
  ((need (InB (subI .i64 (lenL L) 1) (lenL L)) (bif eqS (nthI L (subI .i64 (lenL L) 1)) ⟨#[]⟩ then need (CutB 0 (subI .i64 (lenL L) 1) (lenL L)) (some (.go (cutL L 0 (subI .i64 (lenL L) 1)))) else some (.go L)) : Option (Fl (List ByteArray) X)).bind fun f => flC f k) = k (rowsOf L) := by
 have hsub : subI .i64 (lenL L) 1 = ((L.length - 1 : Nat) : Int) := by rw [lenL_n, subI_n (by omega) (by omega)]; omega
 unfold rowsOf;rw [hsub, Lf (show InB ((L.length - 1 : Nat) : Int) (lenL L) from ⟨by omega, by rw [lenL_n]; omega⟩), Lf (show CutB 0 ((L.length - 1 : Nat) : Int) (lenL L) from ⟨by omega, by omega, by rw [lenL_n]; omega⟩)];cases eqS (nthI L ((L.length - 1 : Nat) : Int)) ⟨#[]⟩ <;> rfl
theorem rowsOf_sub {L : List ByteArray} : (rowsOf L).length ≤ L.length ∧ ∀ s ∈ rowsOf L, s ∈ L := by
 unfold rowsOf;cases eqS (nthI L (subI .i64 (lenL L) 1)) ⟨#[]⟩ with
 | false => exact ⟨Nat.le_refl _, fun s h => h⟩
 | true =>
   simp only [cond_true, cutL];exact ⟨by simp only [List.length_take, List.length_drop]; omega, fun s h => List.mem_of_mem_drop (List.mem_of_mem_take h)⟩
theorem parse_plain (s : ByteArray) (hs : s.size ≤ 400) : ∃ r, gt s = some r ∧ ParseIs (rowsOf (splitT s 10)) r := by
 have h1 := splitT_pos s 10;have h2 := splitT_len s 10;obtain ⟨q1, q2⟩ := rowsOf_sub (L := splitT s 10);unfold gt;rw [Lf (show s.size < 4294967281 by omega), rows_d h1 (by omega), ltI_f (show ¬ (500 : Int) < lenL (rowsOf (splitT s 10)) by rw [lenL_n]; omega), cond_false];exact parse_rows _ (by omega) fun p hp => Nat.le_trans (splitT_mem s 10 (q2 p hp)) hs
theorem is_d {e : Tc} {x : Tb} (h : SameEv e x) : gah e x = some true := by
 obtain ⟨h1, h2, h3, h4⟩ := h;unfold gah;rw [eqI_t h1, eqI_t h2, eqI_t h3, (eqS_iff _ _).2 h4];rfl
theorem law_rows (rows : List ByteArray) (hl : rows.length ≤ 500) (hs : ∀ s ∈ rows, s.size ≤ 400) (r : List Tc × Int × Int) (h : ParseIs rows r) :
  ((loopF (gv.loop2 r rows) 0).bind fun f => flC f fun (_ : Unit) => some (pickB (pickB (eqI r.2.2 0) (eqI (lenL r.1) (lenL rows)) false) (eqI r.2.1 0) false)) = some true := by
 rcases h with ⟨rfl, hz⟩ | ⟨i, hi, hz, hne, rfl⟩
 ·obtain ⟨t, ht, hq⟩ := loop_ends (body := gv.loop2 (rows.map fun s => (lineE s).1, 0, 0) rows) (fun st => ∃ k : Nat, k ≤ rows.length ∧ st = (k : Int)) (fun t => t = .go ()) (fun st => rows.length - st.toNat) (fun st hst => by
   obtain ⟨k, hk, rfl⟩ := hst;unfold gv.loop2;by_cases hlt : k < rows.length
   ·obtain ⟨_, x, hx, he⟩ := lineE_d rows[k] (hs _ (List.getElem_mem hlt));have h0 := hz _ (List.getElem_mem hlt);have hin : InB (k : Int) (lenL (rows.map fun s => (lineE s).1)) := ⟨by omega, by rw [lenL_n, List.length_map]; omega⟩;have hnth : nthI (rows.map fun s => (lineE s).1) (k : Int) = (lineE rows[k]).1 := by rw [nth_n (by rw [List.length_map]; exact hlt), List.getElem_map]
    rw [ltI_t (show (k : Int) < lenL rows by rw [lenL_n]; omega), cond_true, Lf (show InB (k : Int) (lenL rows) from ⟨by omega, by rw [lenL_n]; omega⟩), nth_n hlt, hx, Lh];simp only [hnth];have his : gah (Tc.mk ((lineE rows[k]).1.fb) ((lineE rows[k]).1.fc) ((lineE rows[k]).1.fj) ((lineE rows[k]).1.fN)) x = some true := is_d (he h0);rw [neI_f h0, cond_false, his, Lf (under_of (under_of hin)), need_ss, leI_f (show ¬ lenL (rows.map fun s => (lineE s).1) ≤ (k : Int) by rw [lenL_n, List.length_map]; omega)];simp only [eqI_t (show (0 : Int) = 0 from rfl), pickB, notB, Option.getD_some, Bool.not_true, cond_true, cond_false];have hadd : addI .i64 (k : Int) 1 = ((k + 1 : Nat) : Int) := by rw [addI_n (by omega) (by omega)]; omega
    exact ⟨⟨k + 1, hlt, hadd⟩, by rw [hadd]; simp only [Int.toNat_natCast]; omega⟩
   ·rw [ltI_f (show ¬ (k : Int) < lenL rows by rw [lenL_n]; omega), cond_false];exact rfl) 0 ⟨0, Nat.zero_le _, rfl⟩
  subst hq;rw [ht, Lh, flC_go];rw [eqI_t (show lenL (rows.map fun s => (lineE s).1) = lenL rows by simp only [lenL_n, List.length_map]), eqI_t (show (0 : Int) = 0 from rfl)];rfl
 ·obtain ⟨t, ht, hq⟩ := loop_ends (body := gv.loop2 ([], (i : Int), (lineE rows[i]).2) rows) (fun st => ∃ k : Nat, k ≤ i ∧ st = (k : Int)) (fun t => t = .out true) (fun st => rows.length - st.toNat) (fun st hst => by
   obtain ⟨k, hk, rfl⟩ := hst;unfold gv.loop2;have hlt : k < rows.length := by omega
   obtain ⟨_, x, hx, he⟩ := lineE_d rows[k] (hs _ (List.getElem_mem hlt));rw [ltI_t (show (k : Int) < lenL rows by rw [lenL_n]; omega), cond_true, Lf (show InB (k : Int) (lenL rows) from ⟨by omega, by rw [lenL_n]; omega⟩), nth_n hlt, hx, Lh];by_cases hki : k = i
   ·subst hki;simp only;rw [neI_t hne, cond_true, Lf rfl, eqI_t rfl, eqI_t rfl];exact rfl
   ·have h0 := hz k hlt (by omega);simp only;have hle : leqI (lenL ([] : List Tc)) (k : Int) = true := leI_t (by rw [lenL_n]; simp);rw [neI_f h0, cond_false, hle, Lf (show Under true false _ from fun q => by cases q), Lf (show Under true false _ from fun q => by cases q), eqI_f hne];simp only [pickB, cond_false];have hadd : addI .i64 (k : Int) 1 = ((k + 1 : Nat) : Int) := by rw [addI_n (by omega) (by omega)]; omega
    exact ⟨⟨k + 1, by omega, hadd⟩, by rw [hadd]; simp only [Int.toNat_natCast]; omega⟩) 0 ⟨0, Nat.zero_le _, rfl⟩
  subst hq;rw [ht, Lh, flC_out]
theorem scriptReads_plain (x0 : ByteArray) (h0 : x0.size ≤ maxLen) : gv x0 = some true := by
 obtain ⟨s, e1, l1⟩ := cut_plain x0 h0 400;rw [bytesOf_len] at l1;obtain ⟨r, hr, hp⟩ := parse_plain s l1;have h1 := splitT_pos s 10;have h2 := splitT_len s 10;obtain ⟨q1, q2⟩ := rowsOf_sub (L := splitT s 10);unfold gv;rw [show gaf x0 400 = some s from e1, Lh, hr, Lh, Lf (show lenS s ≤ 400 by unfold lenS; omega), rows_d h1 (by omega)];unfold gac gap;simp only [Lh, show notB true = false from rfl, cond_false];exact law_rows _ (by omega) (fun p hp => Nat.le_trans (splitT_mem s 10 (q2 p hp)) l1) r hp
end Go.Proofs
