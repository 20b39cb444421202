/- The five laws, as plain laws. No condition. -/
import Derived.Test.YtijaigjfacfhnaaDoorVf
import Derived.Test.YtijaigjfacfhnaaDoorM05
import Derived.Test.YtijaigjfacfhnaaDoorM06
import Derived.Test.YtijaigjfacfhnaaDoorM07
import Derived.Test.YtijaigjfacfhnaaDoorM11
import Derived.Test.YtijaigjfacfhnaaDoorM03
namespace Go.Proofs
open Go.Ab

theorem lcut_d (s : ByteArray) {n : Int} (h0 : 0 ≤ n) : ∃ t, gLaw01Cut s n = some t ∧ (t.size : Int) ≤ n := by
  unfold gLaw01Cut
  by_cases h : n < lenS s
  · rw [ltI_t h]
    refine ⟨cutS s 0 n, ?_, ?_⟩
    · simp only [cond_true]
      rw [need_t ⟨Int.le_refl _, h0, by omega⟩]
    · rw [← bytesOf_len, cutS_b]
      simp only [List.length_take]
      omega
  · rw [ltI_f h]
    refine ⟨s, rfl, ?_⟩
    unfold lenS at h
    omega
theorem few_d (c : Cmd) : ∃ d, gLaw07Few c = some d ∧ d.fRoom.size ≤ 70 ∧ d.fName.size ≤ 70 ∧ d.fSsrcs.length ≤ 5 ∧ ∀ x ∈ d.fSsrcs, x ∈ c.fSsrcs := by
  obtain ⟨r, h1, h2⟩ := lcut_d c.fRoom (n := 70) (by omega)
  obtain ⟨n, h3, h4⟩ := lcut_d c.fName (n := 70) (by omega)
  unfold gLaw07Few
  rw [h1, h3]
  simp only [bind_so]
  by_cases h : 5 < lenL c.fSsrcs
  · rw [ltI_t h, need_t (show CutB _ _ _ from ⟨by omega, by omega, by omega⟩)]
    refine ⟨_, rfl, (show r.size ≤ 70 by omega), (show n.size ≤ 70 by omega), ?_, fun x hx => ?_⟩
    · show (cutL c.fSsrcs 0 5).length ≤ 5
      unfold cutL
      simp only [List.length_take]
      omega
    · have hx : x ∈ cutL c.fSsrcs 0 5 := hx
      unfold cutL at hx
      simp only [Int.toNat_zero, List.drop_zero] at hx
      exact List.mem_of_mem_take hx
  · rw [ltI_f h]
    refine ⟨_, rfl, (show r.size ≤ 70 by omega), (show n.size ≤ 70 by omega), ?_, fun x hx => hx⟩
    show c.fSsrcs.length ≤ 5
    unfold lenL at h
    omega

/-! ### Whether two are the same -/
theorem same_loop (a b : Cmd) (hl : a.fSsrcs.length ≤ 1000) : ∀ (t u p q : List Int), a.fSsrcs = p ++ t → b.fSsrcs = q ++ u → p.length = q.length → t.length = u.length →
    loopF (gLaw07Same.loop1 a b) (p.length : Int) = some (if t = u then .go () else .out (-1))
  | [], [], p, q, h1, h2, h3, _ => by
    rw [loopF_eq]
    simp only [gLaw07Same.loop1]
    rw [ltI_f (by unfold lenL; rw [h2, List.append_nil]; omega)]
    rfl
  | x :: t, y :: u, p, q, h1, h2, h3, h4 => by
    have hL : a.fSsrcs.length = p.length + (t.length + 1) := by rw [h1]; simp
    have hM : b.fSsrcs.length = q.length + (u.length + 1) := by rw [h2]; simp
    simp only [List.length_cons] at h4
    rw [loopF_eq]
    simp only [gLaw07Same.loop1]
    have hn : nthI a.fSsrcs (p.length : Int) = x := by
      unfold nthI
      rw [h1]
      simp
    have hm : nthI b.fSsrcs (p.length : Int) = y := by
      unfold nthI
      rw [h2, h3]
      simp
    rw [ltI_t (by unfold lenL; omega), need_t (show InB _ _ from ⟨by omega, by unfold lenL; omega⟩), need_t (show InB _ _ from ⟨by omega, by unfold lenL; omega⟩), hn, hm]
    by_cases e : x = y
    · subst e
      rw [neI_f rfl]
      simp only [cond_true, cond_false]
      rw [addI_n (by omega) (by omega)]
      have ih := same_loop a b hl t u (p ++ [x]) (q ++ [x]) (by rw [h1]; simp) (by rw [h2]; simp) (by simp [h3]) (by omega)
      rw [show (((p ++ [x]).length : Nat) : Int) = (p.length : Int) + 1 by simp] at ih
      rw [ih]
      simp
    · rw [neI_t e]
      simp [e]
  | [], _ :: _, _, _, _, _, _, h => by simp at h
  | _ :: _, [], _, _, _, _, _, h => by simp at h
theorem neS_d (a b : ByteArray) : neS a b = decide (a ≠ b) := by
  rw [neS_b]
  by_cases h : a = b
  · subst h
    rw [(eqS_iff a a).2 rfl]; simp
  · have : eqS a b = false := by
      cases e : eqS a b with
      | false => rfl
      | true => exact absurd ((eqS_iff _ _).1 e) h
    rw [this]
    simp [h]
theorem same_d (a b : Cmd) (hl : a.fSsrcs.length ≤ 1000) : ∃ v, gLaw07Same a b = some v ∧ (v = 0 ↔ a = b) := by
  unfold gLaw07Same
  by_cases h : lenL a.fSsrcs = lenL b.fSsrcs
  · rw [neI_f h]
    simp only [cond_false]
    have := same_loop a b hl a.fSsrcs b.fSsrcs [] [] rfl rfl rfl (by unfold lenL at h; omega)
    rw [show (([] : List Int).length : Int) = 0 from rfl] at this
    rw [this]
    by_cases e : a.fSsrcs = b.fSsrcs
    · rw [if_pos e]
      simp only [bind_so, flC_go, pickB_or, neI_d, neS_d, neB_d]
      obtain ⟨k, room, name, p, o, t, ly, on, v, ss⟩ := a
      obtain ⟨k', room', name', p', o', t', ly', on', v', ss'⟩ := b
      simp only at e ⊢
      by_cases q : k = k' ∧ room = room' ∧ name = name' ∧ p = p' ∧ o = o' ∧ t = t' ∧ ly = ly' ∧ on = on' ∧ v = v'
      · obtain ⟨rfl, rfl, rfl, rfl, rfl, rfl, rfl, rfl, rfl⟩ := q
        subst e
        simp
      · refine ⟨-1, ?_, by simp; intro a1 a2 a3 a4 a5 a6 a7 a8 a9; exact absurd ⟨a1, a2, a3, a4, a5, a6, a7, a8, a9⟩ q⟩
        have : (decide (k ≠ k') || decide (room ≠ room') || decide (name ≠ name') || decide (p ≠ p') || decide (o ≠ o') || decide (t ≠ t') || decide (ly ≠ ly') || decide (on ≠ on') || decide (v ≠ v')) = true := by
          simp only [Bool.or_eq_true, decide_eq_true_eq, ne_eq]
          by_cases a1 : k = k'
          · by_cases a2 : room = room'
            · by_cases a3 : name = name'
              · by_cases a4 : p = p'
                · by_cases a5 : o = o'
                  · by_cases a6 : t = t'
                    · by_cases a7 : ly = ly'
                      · by_cases a8 : on = on'
                        · by_cases a9 : v = v'
                          · exact absurd ⟨a1, a2, a3, a4, a5, a6, a7, a8, a9⟩ q
                          · simp [a9]
                        · simp [a8]
                      · simp [a7]
                    · simp [a6]
                  · simp [a5]
                · simp [a4]
              · simp [a3]
            · simp [a2]
          · simp [a1]
        rw [this]
        rfl
    · rw [if_neg e]
      exact ⟨-1, rfl, by simp; intro q; exact e (by rw [q])⟩
  · rw [neI_t h]
    exact ⟨-1, rfl, by simp; intro q; exact h (by rw [q])⟩
theorem same_self (a : Cmd) (hl : a.fSsrcs.length ≤ 1000) : gLaw07Same a a = some 0 := by
  obtain ⟨v, h1, h2⟩ := same_d a a hl
  rw [h1, h2.2 rfl]

/-! ### A valid command is written and read -/
theorem good_size {s : ByteArray} (h : goodB (scan s 0) = true) : 0 < s.size := by
  rw [← bytesOf_len]
  refine List.length_pos_iff.2 fun e => ?_
  have : scan s 0 = [] := scan_f (by rw [restS_0, e])
  rw [this] at h
  simp [goodB] at h
theorem valid_shp {c : Cmd} (h : Valid c) (hr : c.fRoom.size < 256) (hn : c.fName.size < 256) (hs : ∀ x ∈ c.fSsrcs, 0 ≤ x ∧ x < 4294967296) : ∃ l, Shp c l := by
  cases h
  case join r n h1 h2 =>
    have := Shp.join (bytesOf r) (bytesOf n) (by rw [bytesOf_len]; exact hr) (by rw [bytesOf_len]; exact hn)
    rw [ofB_of, ofB_of] at this
    exact ⟨_, this⟩
  case leave p hp => exact ⟨_, .leave p ⟨hp.1, by omega⟩⟩
  case publish p t v ss hp ht hl => exact ⟨_, .publish p t v ss ⟨hp.1, by omega⟩ ⟨ht.1, by omega⟩ (by omega) hs⟩
  case unpublish p t hp ht => exact ⟨_, .unpublish p t ⟨hp.1, by omega⟩ ⟨ht.1, by omega⟩⟩
  case subscribe p o t l hp ho ht hl => exact ⟨_, .subscribe p o t l ⟨hp.1, by omega⟩ ⟨ho.1, by omega⟩ ⟨ht.1, by omega⟩ ⟨hl.1, by omega⟩⟩
  case unsubscribe p o t hp ho ht => exact ⟨_, .unsubscribe p o t ⟨hp.1, by omega⟩ ⟨ho.1, by omega⟩ ⟨ht.1, by omega⟩⟩
  case mute p t b hp ht => exact ⟨_, .mute p t b ⟨hp.1, by omega⟩ ⟨ht.1, by omega⟩⟩
  case pause p o t b hp ho ht => exact ⟨_, .pause p o t b ⟨hp.1, by omega⟩ ⟨ho.1, by omega⟩ ⟨ht.1, by omega⟩⟩
theorem valid_names {c : Cmd} (h : Valid c) (hk : c.fKind = 1) : 0 < c.fRoom.size ∧ 0 < c.fName.size := by
  cases h
  case join r n h1 h2 => exact ⟨good_size h1, good_size h2⟩
  all_goals simp at hk
/-- What there is of a valid command. -/
structure Sound (c : Cmd) (l : List UInt8) : Prop where
  shp : Shp c l
  chk : gRef07Check c = some 0
  text : gControlCommandText c = some (ofB (be 1 c.fKind ++ l))
  rtext : gRef07Text c = some (ofB (be 1 c.fKind ++ l))
  parse : gControlParse (ofB (be 1 c.fKind ++ l)) = some (c, 0)
theorem sound_of {c : Cmd} {l : List UInt8} (h : Shp c l) (hc : gRef07Check c = some 0) (hn : c.fKind = 1 → 0 < c.fRoom.size ∧ 0 < c.fName.size) : Sound c l :=
  ⟨h, hc, text_d h hn, rtext_d h, by rw [parse_d, spec_of h hc]⟩
theorem sound_few {c : Cmd} (hr : c.fRoom.size < 256) (hn : c.fName.size < 256) (hl : c.fSsrcs.length ≤ 1000) (hs : ∀ x ∈ c.fSsrcs, 0 ≤ x ∧ x < 4294967296) :
    ∃ v, gControlCommandCheck c = some v ∧ gRef07Check c = some v ∧ (v = 0 → ∃ l, Sound c l) := by
  obtain ⟨v, h1, h2⟩ := check_some c (by omega) (by omega) (by omega)
  refine ⟨v, by rw [check_eq c (by omega) (by omega) (by omega), h1], h1, fun h => ?_⟩
  subst h
  have hv := h2 rfl
  obtain ⟨l, hsh⟩ := valid_shp hv hr hn hs
  exact ⟨l, sound_of hsh h1 (valid_names hv)⟩
theorem awake7 : gLaw07Awake = some true := by
  have hs : Shp (.mk 2 noS noS 258 0 0 0 false false []) (be 2 258 ++ []) := .leave 258 ⟨by omega, by omega⟩
  have hc : gRef07Check (.mk 2 noS noS 258 0 0 0 false false []) = some 0 := by
    unfold gRef07Check gRef07Peer gRef07Of gRef07Track gRef07Good
    simp only [neS_nil]
    simp [need, Under, eqI_d, neI_d, ltI_d, leI_d, notB_d, pickB_and, pickB_or, lenL]
  have h := sound_of hs hc (fun q => by cases q)
  have hp := h.parse
  have ht := h.text
  have e : ofB (be 1 2 ++ (be 2 258 ++ [])) = ⟨#[2, 1, 2]⟩ := rfl
  simp only at hp ht
  rw [e] at hp ht
  unfold gLaw07Awake
  have h3 : gControlCommandCheck (.mk 0 ⟨#[]⟩ ⟨#[]⟩ 0 0 0 0 false false []) = some 3 := by
    rw [check_eq _ (by show 0 ≤ 1000; omega) (by show 0 ≤ 1000; omega) (by show 0 ≤ 1000000; omega)]
    rfl
  rw [hp, h3]
  simp only [bind_so, ht, getD_so]
  simp only [need_s, (eqS_iff ⟨#[2, 1, 2]⟩ ⟨#[2, 1, 2]⟩).2 rfl]
  rfl

theorem need_n {α : Type} {p : Prop} {x : Option α} : need (Under true false p) x = x := need_t fun h => by cases h
theorem need_n' {α : Type} {p : Prop} {x : Option α} : need (Under false true p) x = x := need_t fun h => by cases h

theorem controlReads_plain (x0 : ByteArray) : gLaw07ControlReads x0 = some true := by
  obtain ⟨r, h1, h2⟩ := lcut_d x0 (n := 200) (by omega)
  unfold gLaw07ControlReads
  rw [h1, awake7]
  simp only [bind_so]
  obtain ⟨c, e, hs, hc⟩ := spec_some (bytesOf r)
  have hp := parse_d (bytesOf r)
  have hq := rparse_d (bytesOf r)
  rw [ofB_of, hs] at hp hq
  rw [hp, hq]
  simp only [bind_so]
  rw [eqI_t (show e = e from rfl)]
  rcases hc with ⟨he, rfl⟩ | ⟨rfl, hv, hck, l, hsh, hl⟩
  · rw [same_self noC (by show 0 ≤ 1000; omega), neI_t he]
    simp only [need_s, need_n, getD_so]
    refine (need_t ?_).trans ?_
    · exact fun _ h => by cases h
    · rfl
  · obtain ⟨z1, z2, z3⟩ := shp_sizes hsh
    have hS := sound_of hsh hck (valid_names hv)
    have ht := hS.text
    rw [← hl, ofB_of] at ht
    rw [same_self c (by omega), ht, check_eq c (by omega) (by omega) (by omega), hck]
    simp only [need_s, getD_so]
    refine (need_t ?_).trans ?_
    · exact fun _ _ => rfl
    refine (need_t ?_).trans ?_
    · exact fun _ _ _ => rfl
    have : eqS r r = true := (eqS_iff r r).2 rfl
    rw [this]
    rfl

/-- What a command of the laws keeps to. -/
def SsOk (c : Cmd) : Prop := ∀ x ∈ c.fSsrcs, 0 ≤ x ∧ x < 4294967296
theorem few_sound (c : Cmd) (h : SsOk c) : ∃ d v, gLaw07Few c = some d ∧ d.fSsrcs.length ≤ 5 ∧ gControlCommandCheck d = some v ∧ gRef07Check d = some v ∧ (v = 0 → ∃ l, Sound d l) := by
  obtain ⟨d, h1, h2, h3, h4, h5⟩ := few_d c
  obtain ⟨v, q1, q2, q3⟩ := sound_few (c := d) (by omega) (by omega) (by omega) (fun x hx => h x (h5 x hx))
  exact ⟨d, v, h1, h4, q1, q2, q3⟩

theorem controlChecks_plain (x0 : Cmd) (h : SsOk x0) : gLaw07ControlChecks x0 = some true := by
  obtain ⟨d, v, h1, hl, h2, h3, h4⟩ := few_sound x0 h
  unfold gLaw07ControlChecks gLaw07Told
  rw [h1, awake7]
  simp only [bind_so, getD_so, h2, h3, need_s]
  rw [neI_f (show v = v from rfl)]
  simp only [notB_f', pickB, cond_false]
  by_cases hv : v = 0
  · subst hv
    obtain ⟨l, hS⟩ := h4 rfl
    rw [neI_f rfl, hS.text, hS.rtext]
    simp only [cond_false, bind_so]
    rw [hS.parse]
    simp only [bind_so, same_self d (by omega), need_s, getD_so]
    have : eqS (ofB (be 1 d.fKind ++ l)) (ofB (be 1 d.fKind ++ l)) = true := (eqS_iff _ _).2 rfl
    rw [this]
    rfl
  · rw [neI_t hv]
    rfl

theorem shp_len {c : Cmd} {l : List UInt8} (h : Shp c l) : l.length ≤ 2000 := by
  cases h <;> simp only [List.length_append, List.length_cons, List.length_nil, be_len, be_flat_len] <;> omega

theorem controlCut_plain (x0 : Cmd) (x1 : Int) (h : SsOk x0) : gLaw07ControlCut x0 x1 = some true := by
  obtain ⟨d, v, h1, hl, h2, h3, h4⟩ := few_sound x0 h
  unfold gLaw07ControlCut
  rw [h1, awake7]
  simp only [bind_so, getD_so, h2, need_s]
  simp only [notB_f', pickB, cond_false]
  by_cases hv : v = 0
  · subst hv
    obtain ⟨l, hS⟩ := h4 rfl
    rw [neI_f rfl, hS.text]
    simp only [cond_false, bind_so]
    have hlen := shp_len hS.shp
    generalize hT : be 1 d.fKind ++ l = T
    have hTl : 0 < T.length ∧ T.length ≤ 3000 := by
      rw [← hT, List.length_append, be_len]; omega
    rw [lenS_of]
    have hm := Int.tmod_lt_of_pos x1 (b := (T.length : Int)) (by omega)
    have hm2 := Int.lt_tmod_of_pos x1 (b := (T.length : Int)) (by omega)
    have hr : remI x1 (T.length : Int) = x1.tmod (T.length : Int) := rfl
    have hr2 : remI (addI .i64 (remI x1 (T.length : Int)) (T.length : Int)) (T.length : Int) = (x1.tmod (T.length : Int) + (T.length : Int)) % (T.length : Int) := by
      rw [hr, addI_n (by omega) (by omega)]
      exact Int.tmod_eq_emod_of_nonneg (by omega)
    have hm0 := Int.emod_nonneg (x1.tmod (T.length : Int) + (T.length : Int)) (b := (T.length : Int)) (by omega)
    have hm1 := Int.emod_lt_of_pos (x1.tmod (T.length : Int) + (T.length : Int)) (b := (T.length : Int)) (by omega)
    rw [hr2]
    generalize (x1.tmod (T.length : Int) + (T.length : Int)) % (T.length : Int) = m at hm0 hm1
    rw [need_t (show NonZ _ by unfold NonZ; omega), need_t (show NonZ _ by unfold NonZ; omega), need_t (show CutB _ _ _ from ⟨by omega, hm0, by omega⟩), cutS_ofB, parse_d]
    simp only [Int.toNat_zero, List.drop_zero, Nat.sub_zero]
    rw [spec_pre hS.shp (p := T.take m.toNat) (t := T.drop m.toNat) (by rw [hT, List.take_append_drop]) (by
      intro q
      have := congrArg List.length q
      simp at this
      omega)]
    simp only [bind_so]
    have hcat : catS (ofB T) ⟨#[0]⟩ = ofB (T ++ [0]) := bytes_ext (by rw [catS_b, ofB_b, ofB_b]; rfl)
    rw [hcat, need_t (show CatB _ _ by unfold CatB; rw [size_of]; show T.length + 1 ≤ _; omega), parse_d, ← hT, spec_app hS.shp (by simp)]
    rfl
  · rw [neI_t hv]
    rfl

theorem controlApart_plain (x0 x1 : Cmd) (h : SsOk x0) (h' : SsOk x1) : gLaw07ControlApart x0 x1 = some true := by
  obtain ⟨d, v, h1, hl, h2, h3, h4⟩ := few_sound x0 h
  obtain ⟨d', v', h1', hl', h2', h3', h4'⟩ := few_sound x1 h'
  unfold gLaw07ControlApart gLaw07Told
  rw [h1, h1', awake7]
  simp only [bind_so, getD_so, h2, h2', need_s]
  simp only [notB_f', pickB, cond_false]
  by_cases hv : v = 0
  · by_cases hv' : v' = 0
    · subst hv hv'
      obtain ⟨l, hS⟩ := h4 rfl
      obtain ⟨l', hS'⟩ := h4' rfl
      obtain ⟨w, hw1, hw2⟩ := same_d d d' (by omega)
      rw [neI_f rfl, hS.text, hS'.text]
      simp only [cond_false, bind_so, hw1]
      congr 1
      rw [eqB_d]
      refine decide_eq_true ?_
      rw [eqI_d]
      by_cases e : w = 0
      · obtain rfl := hw2.1 e
        have := hS.text
        rw [hS'.text] at this
        rw [Option.some.inj this, (eqS_iff _ _).2 rfl]
        simp [e]
      · have : eqS (ofB (be 1 d.fKind ++ l)) (ofB (be 1 d'.fKind ++ l')) = false := by
          cases q : eqS (ofB (be 1 d.fKind ++ l)) (ofB (be 1 d'.fKind ++ l')) with
          | false => rfl
          | true =>
            exfalso
            have hh := hS.parse
            rw [(eqS_iff _ _).1 q, hS'.parse] at hh
            exact e (hw2.2 (Prod.mk.inj (Option.some.inj hh)).1.symm)
        rw [this]
        simp [e]
    · rw [neI_t hv', neI_d]
      subst hv
      rfl
  · rw [neI_t hv]
    simp only [cond_true]

/-! ### The kinds -/
theorem and_rng (x : Int) : 0 ≤ bitsOp .and .i64 x 255 ∧ bitsOp .and .i64 x 255 < 256 := by
  show 0 ≤ IntKind.i64.wrap (((BitVec.ofInt 64 x &&& BitVec.ofInt 64 255).toNat : Nat) : Int) ∧ IntKind.i64.wrap (((BitVec.ofInt 64 x &&& BitVec.ofInt 64 255).toNat : Nat) : Int) < 256
  have h : (BitVec.ofInt 64 x &&& BitVec.ofInt 64 255).toNat ≤ 255 := by
    rw [BitVec.toNat_and]
    exact Nat.and_le_right
  rw [IntKind.wrap_i64]
  omega
theorem kind_rng (x : Int) : 1 ≤ addI .i64 1 (remI (bitsOp .and .i64 x 255) 8) ∧ addI .i64 1 (remI (bitsOp .and .i64 x 255) 8) ≤ 8 := by
  have h := and_rng x
  have : remI (bitsOp .and .i64 x 255) 8 = bitsOp .and .i64 x 255 % 8 := Int.tmod_eq_emod_of_nonneg h.1
  rw [this, addI_n (by omega) (by omega)]
  omega
theorem part_rng (x : Int) : 0 ≤ remI (bitsOp .and .i64 x 255) 6 ∧ remI (bitsOp .and .i64 x 255) 6 < 6 := by
  have h := and_rng x
  have : remI (bitsOp .and .i64 x 255) 6 = bitsOp .and .i64 x 255 % 6 := Int.tmod_eq_emod_of_nonneg h.1
  rw [this]
  omega
theorem kinds_tail (c : Cmd) (there : Bool) (hr : c.fRoom.size < 256) (hn : c.fName.size < 256) (hl : c.fSsrcs.length ≤ 5) (hs : SsOk c) (h : gRef07Check c = some (bif there then 0 else 2)) :
    (bif notB there then (gControlCommandCheck c).bind fun r2 => some (decide (r2 = 2))
    else (gControlCommandText c).bind fun r3 => (gControlParse r3).bind fun r4 => (gControlCommandCheck c).bind fun r5 =>
      need (Under (bif decide (r5 = 0) then decide (r4.2 = 0) else false) true ((gLaw07Told c).isSome = true))
        (need (Under (bif decide (r5 = 0) then decide (r4.2 = 0) else false) true ((gLaw07Same r4.1 ((gLaw07Told c).getD dflt)).isSome = true))
          (some (bif bif decide (r5 = 0) then decide (r4.2 = 0) else false then decide ((gLaw07Same r4.1 ((gLaw07Told c).getD dflt)).getD dflt = 0) else false)))) = some true := by
  obtain ⟨v, h1, h2, h3⟩ := sound_few (c := c) hr hn (by omega) hs
  rw [h] at h2
  obtain rfl := Option.some.inj h2
  cases there
  · rw [h1]
    rfl
  · obtain ⟨l, hS⟩ := h3 rfl
    rw [hS.text, h1]
    simp only [notB_f', cond_false, bind_so]
    rw [hS.parse]
    unfold gLaw07Told
    simp only [bind_so, getD_so, same_self c (by omega), need_s]
    rfl
theorem good_a : goodB (scan ⟨#[97]⟩ 0) = true := by decide +kernel
theorem good_b : goodB (scan ⟨#[98]⟩ 0) = true := by decide +kernel
theorem src_1 (c : Cmd) (h : c.fSsrcs = [1]) : gRef07Sources c = some 0 := by
  unfold gRef07Sources
  rw [loopF_eq]
  unfold gRef07Sources.loop1
  rw [h, loopF_eq]
  unfold gRef07Sources.loop2
  simp only [show lenL [(1 : Int)] = 1 from rfl]
  rw [show ltI 0 1 = true from rfl, show ltI 0 0 = false from rfl]
  simp only [cond_true, cond_false, bind_so, flC_go]
  rw [loopF_eq, h]
  simp only [show lenL [(1 : Int)] = 1 from rfl]
  rfl

theorem controlKinds_plain (x0 x1 : Int) : gLaw07ControlKinds x0 x1 = some true := by
  have hk := kind_rng x0
  have hw := part_rng x1
  unfold gLaw07ControlKinds
  rw [need_t (show NonZ 8 by unfold NonZ; omega), need_t (show NonZ 6 by unfold NonZ; omega), awake7]
  generalize addI .i64 1 (remI (bitsOp .and .i64 x0 255) 8) = k at hk
  generalize remI (bitsOp .and .i64 x1 255) 6 = w at hw
  have hw' : w = 0 ∨ w = 1 ∨ w = 2 ∨ w = 3 ∨ w = 4 ∨ w = 5 := by omega
  have g1 := (label_eq (s := ⟨#[97]⟩) (by decide)).2
  have g2 := (label_eq (s := ⟨#[98]⟩) (by decide)).2
  rw [good_a] at g1
  rw [good_b] at g2
  have hb : ∀ (k : Int) (room name : ByteArray) (ss : List Int), room.size < 256 → name.size < 256 → ss.length ≤ 5 → gRef07Check (.mk k room name 0 0 0 0 false false ss) = some 0 → gControlCommandCheck (.mk k room name 0 0 0 0 false false ss) = some 0 := fun k room name ss q1 q2 q3 h => by
    rw [check_eq _ (show room.size ≤ 1000 by omega) (show name.size ≤ 1000 by omega) (show ss.length ≤ 1000000 by omega), h]
  rcases kinds hk with e | e | e | e | e | e | e | e <;> subst e <;>
    simp only [eqI_d, neI_d, Int.reduceEq, ne_eq, not_true_eq_false, not_false_eq_true, decide_true, decide_false, cond_true, cond_false, bind_so, flC_go, notB_f', pickB]
  all_goals
    rw [hb _ _ _ _ (by decide) (by decide) (by decide) (by
      unfold gRef07Check gRef07Peer gRef07Of gRef07Track gRef07Good
      simp only [neS_nil]
      simp [need, Under, eqI_d, neI_d, ltI_d, leI_d, notB_d, pickB_and, pickB_or, lenL, g1, g2, src_1, noS])]
    simp only [need_s, getD_so, not_true_eq_false, decide_false, cond_false]
    rcases hw' with e | e | e | e | e | e <;> subst e <;>
      simp only [Int.reduceEq, decide_true, decide_false, cond_true, cond_false, bind_so, flC_go] <;>
      refine kinds_tail _ _ (by decide) (by decide) (by decide) ?_ ?_
    all_goals first
      | (refine fun x hx => ?_
         simp at hx <;> omega)
      | (unfold gRef07Check gRef07Peer gRef07Of gRef07Track gRef07Good
         simp only [neS_nil]
         simp [need, Under, eqI_d, neI_d, ltI_d, leI_d, notB_d, pickB_and, pickB_or, lenL, g1, g2, src_1, noS])
end Go.Proofs
