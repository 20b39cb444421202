/- Contracts of package frame: what each function computes, over abstract values. -/
import Derived.Test.YtjiecniccdhpkaaTy
namespace Go.Proofs
open Go.Ab

theorem Try.mixed : Try.prog.follows .mixedOrders = true := by kernel_rfl

/-- A unit of package frame (and of its reference). -/
structure FU where
  At : Int
  Time : Int
  Marker : Bool
  Start : Bool
  Key : Bool
  Text : ByteArray
  Tick : Int
instance : Inhabited FU := ⟨⟨0, 0, false, false, false, ⟨⟨[]⟩⟩, 0⟩⟩

def FU.enc (u : FU) : List AV := [.lit (.int .i64 u.At), .lit (.int .i64 u.Time), .lit (.bool u.Marker), .lit (.bool u.Start), .lit (.bool u.Key), .lit (.string u.Text), .lit (.int .i64 u.Tick)]
def FU.dec : List AV → FU
  | [.lit (.int .i64 a), .lit (.int .i64 b), .lit (.bool c), .lit (.bool d), .lit (.bool e), .lit (.string s), .lit (.int .i64 t)] => ⟨a, b, c, d, e, s, t⟩
  | _ => default
@[simp] theorem FU.dec_enc (u : FU) : FU.dec u.enc = u := rfl
@[simp] theorem FU.dec_lit (a b : Int) (c d e : Bool) (s : ByteArray) (t : Int) : FU.dec [.lit (.int .i64 a), .lit (.int .i64 b), .lit (.bool c), .lit (.bool d), .lit (.bool e), .lit (.string s), .lit (.int .i64 t)] = ⟨a, b, c, d, e, s, t⟩ := rfl
@[simp] theorem FU.dec_comp : FU.dec ∘ FU.enc = id := rfl
@[simp] theorem FU.len_enc (u : FU) : u.enc.length = 7 := rfl
@[simp] theorem FU.bel_enc (u : FU) (n : Nat) : belL n u.enc := by simp [FU.enc]
@[simp] theorem FU.map_dec (l : List FU) : (l.map FU.enc).map FU.dec = l := by simp [Function.comp_def]
@[simp] theorem FU.bel_map (l : List FU) (n : Nat) : belLL n (l.map FU.enc) := belLL_iff.2 fun a ha => by obtain ⟨u, _, rfl⟩ := List.mem_map.1 ha; simp
@[simp] theorem FU.nth_map (l : List FU) (k : Nat) : nthL (l.map FU.enc) k [.lit (.int .i64 0), .lit (.int .i64 0), .lit (.bool false), .lit (.bool false), .lit (.bool false), .lit (.string ⟨⟨[]⟩⟩), .lit (.int .i64 0)] = (l.getD k default).enc := by
  simp only [nthL, List.getD_eq_getElem?_getD, List.getElem?_map]
  cases l[k]? <;> rfl
attribute [simp] FU.enc

/-- A maker of package frame. -/
structure FM where
  Video : Bool
  Bytes : Int
  Units : Int
  Wait : Int
  opn : List FU
  whole : Int
  lost : Int

def FM.enc (m : FM) : List AV := [.lit (.bool m.Video), .lit (.int .i64 m.Bytes), .lit (.int .i64 m.Units), .lit (.int .i64 m.Wait), .sl (m.opn.map FU.enc) .no, .lit (.int .i64 m.whole), .lit (.int .i64 m.lost)]
@[simp] theorem FM.bel_enc (m : FM) (n : Nat) : belL n m.enc := by simp [FM.enc]

theorem wrap_i64 {n : Int} (h0 : -9223372036854775808 ≤ n) (h1 : n < 9223372036854775808) : IntKind.i64.wrap n = n := by
  rw [IntKind.wrap_i64]; omega

theorem foldl_take {α β : Type} {f : β → α → β} {b : β} {l : List α} {i : Nat} (h : i < l.length) : (l.take (i + 1)).foldl f b = f ((l.take i).foldl f b) l[i] := by
  rw [List.take_succ_eq_append_getElem h, List.foldl_append]; rfl

/-! ### Open, Counts -/
def openS : Sp
  | [.ptr i 0], M => match M[i]? with
    | some (.blk [_, _, _, _, .sl els _, _, _]) => some { av := .lit (.int .i64 els.length) }
    | _ => none
  | _, _ => none

theorem open_ok : SpecOk Try.prog 16 openS := by
  intro l M out h
  unfold openS at h
  split at h
  · rename_i i
    split at h
    · rename_i a b c d els tok e f hM
      cases h
      refine call_of_vc Try.mixed Try.tyOk (gamL_nil) (fun | 0 => [2] | 1 => [2] | _ => []) (fun _ => []) Try.func16 rfl (by kernel_rfl) rfl rfl (by simp) ?_
      intro _ hbM hbA
      simp [hM]
      exact hbM
    · cases h
  · cases h

def countsS : Sp
  | [.ptr i 0], M => match M[i]? with
    | some (.blk [_, _, _, _, _, .lit (.int .i64 w), .lit (.int .i64 l)]) => some { av := .tup [.lit (.int .i64 w), .lit (.int .i64 l)] }
    | _ => none
  | _, _ => none

theorem counts_ok : SpecOk Try.prog 17 countsS := by
  intro l M out h
  unfold countsS at h
  split at h
  · rename_i i
    split at h
    · rename_i a b c d els w l hM
      cases h
      refine call_of_vc Try.mixed Try.tyOk (gamL_nil) (fun | 0 => [2, 3] | 1 => [2, 3] | _ => []) (fun _ => []) Try.func17 rfl (by kernel_rfl) rfl rfl (by simp) ?_
      intro _ hbM hbA
      simp [hM]
      exact ⟨by kernel_rfl, hbM⟩
    · cases h
  · cases h

/-! ### Key, Time, Size -/
def keyF (l : List FU) : Bool := match l with | [] => false | u :: _ => u.Key
def timeF (l : List FU) : Int := match l with | [] => 0 | u :: _ => u.Time

def keyS : Sp
  | [.agg [.sl els _]], _ => some { av := .lit (.bool (keyF (els.map FU.dec))), obl := els = (els.map FU.dec).map FU.enc }
  | _, _ => none

theorem key_ok : SpecOk Try.prog 20 keyS := by
  intro l M out h
  unfold keyS at h
  split at h
  · rename_i els tok
    cases h
    refine call_of_vc Try.mixed Try.tyOk (gamL_nil) (fun | 0 => [1, 2] | 1 => [2] | _ => []) (fun _ => []) Try.func20 rfl (by kernel_rfl) rfl rfl (by simp) ?_
    intro ho hbM hbA
    generalize els.map FU.dec = us at ho
    simp only at ho
    subst ho
    simp
    refine ⟨?_, hbM⟩
    cases us <;> simp [keyF]
  · cases h

def timeS : Sp
  | [.agg [.sl els _]], _ => some { av := .lit (.int .i64 (timeF (els.map FU.dec))), obl := els = (els.map FU.dec).map FU.enc }
  | _, _ => none

theorem time_ok : SpecOk Try.prog 19 timeS := by
  intro l M out h
  unfold timeS at h
  split at h
  · rename_i els tok
    cases h
    refine call_of_vc Try.mixed Try.tyOk (gamL_nil) (fun | 0 => [1, 2] | 1 => [6] | 2 => [2] | 3 => [2] | _ => []) (fun _ => []) Try.func19 rfl (by kernel_rfl) rfl rfl (by simp) ?_
    intro ho hbM hbA
    generalize els.map FU.dec = us at ho
    simp only at ho
    subst ho
    simp
    cases us with
    | nil => simp [timeF]; exact hbM
    | cons u r => simp [timeF]; exact hbM
  · cases h

def sizeF (l : List FU) : Int := l.foldl (fun n u => IntKind.i64.wrap (n + u.Text.size)) 0

def sizeS : Sp
  | [.agg [.sl els _]], _ => some { av := .lit (.int .i64 (sizeF (els.map FU.dec))), obl := els = (els.map FU.dec).map FU.enc ∧ els.length < 9223372036854775807 }
  | _, _ => none

theorem size_ok : SpecOk Try.prog 15 sizeS := by
  intro l M out h
  unfold sizeS at h
  split at h
  · rename_i els tok
    cases h
    refine call_of_vc Try.mixed Try.tyOk (gamL_nil) (fun | 0 => [1, 2] | 1 => [3] | 2 => [7, 8, 9] | 3 => [10] | 4 => [5] | 5 => [3] | 6 => [9] | 7 => [2] | _ => []) (fun _ => []) Try.func15 rfl (by kernel_rfl) rfl rfl (by simp) ?_
    intro ho hbM hbA
    generalize els.map FU.dec = us at ho
    simp only at ho
    obtain ⟨ho, hlen⟩ := ho
    subst ho
    simp
    refine AWp.loop' (fun k σ => ∃ i, i ≤ us.length ∧ k = us.length - i ∧ σ = ⟨[⟨9, none, .lit (.int .i64 i)⟩, ⟨7, none, .sl (us.map FU.enc) .no⟩, ⟨8, none, .lit (.int .i64 us.length)⟩, ⟨3, none, .lit (.int .i64 (sizeF (us.take i)))⟩], M⟩) us.length M.length _ ?_ ⟨0, Nat.zero_le _, rfl, rfl⟩ ?_
    · simp [sizeF]
      exact hbM
    · rintro k σ ⟨i, hi, rfl, rfl⟩
      refine vc_sound Try.mixed Try.tyOk gamL_nil (kp := fun | 0 => [1, 2] | 1 => [3] | 2 => [7, 8, 9] | 3 => [10] | 4 => [5] | 5 => [3] | 6 => [9] | 7 => [2] | _ => []) (cp := fun _ => []) ?_
      simp
      refine ⟨fun hlt => ⟨hlt, _, ?_, M.length, _, ?_, i + 1, hlt, rfl, rfl⟩, fun hge => ?_⟩
      · omega
      · have e1 : sizeF (us.take (i + 1)) = IntKind.i64.wrap (sizeF (us.take i) + ((us[i]?.getD default).Text.size : Int)) := by
          rw [sizeF, foldl_take hlt]
          simp [sizeF, hlt]
        have e2 : IntKind.i64.wrap ((i : Int) + 1) = ((i + 1 : Nat) : Int) := by
          rw [wrap_i64 (by omega) (by simp at hlen; omega)]; rfl
        simp [e1, e2]
        exact hbM
      · have : i = us.length := by omega
        subst this
        simp
        exact hbM
  · cases h

def checkF (b u wt : Int) : Int := if b < 1 ∨ 1048576 < b ∨ u < 1 ∨ 1024 < u ∨ wt < 0 ∨ 1099511627776 < wt then 5 else 0
def checkS : Sp
  | [.agg [.lit (.bool _), .lit (.int .i64 b), .lit (.int .i64 u), .lit (.int .i64 wt)]], _ => some { av := .lit (.int .i64 (checkF b u wt)) }
  | _, _ => none

theorem check_ok : SpecOk Try.prog 18 checkS := by
  intro l M out h
  unfold checkS at h
  split at h
  · rename_i v b u wt
    cases h
    refine call_of_vc Try.mixed Try.tyOk (gamL_nil) (fun | 0 => [1, 2] | 1 => [30] | 2 => [2] | 3 => [2] | _ => []) (fun _ => []) Try.func18 rfl (by kernel_rfl) rfl rfl (by simp) ?_
    intro _ hbM hbA
    simp [checkF]
    exact ⟨fun h => ⟨by omega, hbM⟩, fun _ _ _ _ _ _ => ⟨by omega, hbM⟩⟩
  · cases h
/-! ### Clone, drop, follows -/
def cloneS : Sp
  | [.sl els _], M => some { av := .sl els (.own M.length 1 7), M := some (M ++ [.room 1]), obl := (∀ q ∈ els, q.length = 7) ∧ els.length ≤ 1048576 }
  | _, _ => none

theorem clone_ok : SpecOk Try.prog 33 cloneS := by
  intro l M out h
  unfold cloneS at h
  split at h
  · rename_i els tok
    cases h
    refine callOk_nil ?_ ?_
    · refine call_of_vc Try.mixed Try.tyOk (gamL_nil) (fun | 0 => [2] | 1 => [4] | 2 => [2] | 3 => [2] | _ => []) (fun _ => []) Try.func33 rfl (by kernel_rfl) rfl rfl (by simp) ?_
      intro _ hbM hbA
      simp [hbM]
    · refine call_of_vc Try.mixed Try.tyOk (gamL_nil) (fun | 0 => [2] | 1 => [4] | 2 => [2] | 3 => [2] | _ => []) (fun _ => []) Try.func33 rfl (by kernel_rfl) rfl rfl (by simp) ?_
      intro ho hbM hbA
      simp at hbA ho
      simp [hbA, hbM]
      exact ⟨ho.1, by omega, by omega⟩
  · cases h

def dropF (m : FM) : FM := { m with lost := IntKind.i64.wrap (m.lost + m.opn.length), opn := [] }

def dropS : Sp
  | [.ptr i 0], M => match M[i]? with
    | some (.blk [a, b, c, d, .sl els _, w, .lit (.int .i64 l)]) => some { av := .tup [], M := some (M.set i (.blk [a, b, c, d, .sl [] .no, w, .lit (.int .i64 (IntKind.i64.wrap (l + els.length)))])) }
    | _ => none
  | _, _ => none

theorem drop_ok : SpecOk Try.prog 32 dropS := by
  intro l M out h
  unfold dropS at h
  split at h
  · rename_i i
    split at h
    · rename_i a b c d els tok w l hM
      cases h
      refine call_of_vc Try.mixed Try.tyOk (gamL_cons open_ok gamL_nil) (fun _ => []) (fun _ => []) Try.func32 rfl (by kernel_rfl) rfl rfl (by simp) ?_
      intro _ hbM hbA
      have hi := lt_of_some hM
      have hb := belM_blk hbM hM
      simp at hb
      have hg := get_of_some hM
      simp [hg, hi, hb, hbM, openS]
      show drawB _ _ _ _ = _
      kernel_rfl
    · cases h
  · cases h

def followsF (l : List FU) (u : FU) : Bool := match l.getLast? with
  | none => false
  | some v => u.At == IntKind.i64.wrap (v.At + 1) && u.Time == v.Time && !u.Start

def followsS : Sp
  | [.ptr i 0, .agg u], M => match M[i]? with
    | some (.blk [_, _, _, _, .sl els _, _, _]) => some { av := .lit (.bool (followsF (els.map FU.dec) (FU.dec u))), obl := els = (els.map FU.dec).map FU.enc ∧ els.length ≤ 1048576 ∧ u = (FU.dec u).enc }
    | _ => none
  | _, _ => none

theorem follows_ok : SpecOk Try.prog 31 followsS := by
  intro l M out h
  unfold followsS at h
  split at h
  · rename_i i u
    split at h
    · rename_i a b c d els tok w l hM
      cases h
      refine call_of_vc Try.mixed Try.tyOk (gamL_cons open_ok gamL_nil) (fun | 0 => [3, 4] | 1 => [5] | 2 => [10] | 3 => [4] | 4 => [6] | 5 => [4] | _ => []) (fun _ => []) Try.func31 rfl (by kernel_rfl) rfl rfl (by simp) ?_
      intro ho hbM hbA
      generalize els.map FU.dec = us at ho
      generalize FU.dec u = uu at ho
      simp only at ho
      obtain ⟨ho, hlen, hu⟩ := ho
      subst ho
      subst hu
      rcases List.eq_nil_or_concat us with rfl | ⟨r, v, rfl⟩
      · have hi := lt_of_some hM
        have hb := belM_blk hbM hM
        simp at hb
        have hg := get_of_some hM
        simp [hg, hi, hbM, openS, List.getElem?_append_left]
        simp [followsF]
      · have hi := lt_of_some hM
        have hb := belM_blk hbM hM
        simp only [List.concat_eq_append] at *
        simp at hb hlen
        have hg := get_of_some hM
        have hr : IntKind.i64.wrap (r.length : Int) = r.length := wrap_i64 (by omega) (by omega)
        simp [hg, hi, hbM, openS, List.getElem?_append_left, hr, -List.map_append, followsF]
        exact ⟨fun h => by omega, fun _ => by omega⟩
    · cases h
  · cases h

def newS : Sp
  | [.agg [.lit (.bool v), .lit (.int .i64 b), .lit (.int .i64 u), .lit (.int .i64 w)]], M => if checkF b u w = 0 then
      some { av := .tup [.ptr (M.length + 1) 0, .lit (.int .i64 0)], M := some (M ++ [.dead, .blk (FM.enc ⟨v, b, u, w, [], 0, 0⟩)]) }
    else some { av := .tup [.lit (.pointer none), .lit (.int .i64 (checkF b u w))] }
  | _, _ => none

theorem new_ok : SpecOk Try.prog 13 newS := by
  intro l M out h
  unfold newS at h
  split at h
  · rename_i v b u w
    split at h
    · rename_i hc
      cases h
      refine call_of_vc Try.mixed Try.tyOk (gamL_cons check_ok gamL_nil) (fun | 0 => [1, 2, 3] | 1 => [4] | 2 => [8] | 3 => [2, 3] | 4 => [2, 3] | _ => []) (fun _ => []) Try.func13 rfl (by kernel_rfl) rfl rfl (by simp) ?_
      intro _ hbM hbA
      simp [checkS, hc, hbM, FM.enc]
    · rename_i hc
      cases h
      refine call_of_vc Try.mixed Try.tyOk (gamL_cons check_ok gamL_nil) (fun | 0 => [1, 2, 3] | 1 => [4] | 2 => [8] | 3 => [2, 3] | 4 => [2, 3] | _ => []) (fun _ => []) Try.func13 rfl (by kernel_rfl) rfl rfl (by simp) ?_
      intro _ hbM hbA
      simp [checkS, hc, hbM]
  · cases h
end Go.Proofs
