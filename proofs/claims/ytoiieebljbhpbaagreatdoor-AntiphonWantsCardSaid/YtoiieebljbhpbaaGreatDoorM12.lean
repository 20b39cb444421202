import Derived.Test.YtoiieebljbhpbaaGreatDoorTs
import Derived.Test.YtoiieebljbhpbaaGreatDoorM16
import Derived.Test.YtoiieebljbhpbaaGreatDoorM07
import Derived.Lib.UnsafeStr
import Derived.Test.YtoiieebljbhpbaaGreatDoorSh
import Derived.Test.YtoiieebljbhpbaaGreatDoorM05
section
namespace Go.Proofs
open Go.Ab
noncomputable def gk.loop2 (x2 : List Int) (s1 : Int × List Int) (s2 : Int × List Int) : Option (Fl (Int × List Int) (Fl (List Int) (Fl (Int × List Int) (Fl (List Int) (List Int))))) :=
 bif (leqI 0 s2.1) then (
  need (NonN (mulI .i64 8 s2.1)) <|
  need (AppB (qat s2.2) 1 1) <|
  some (.go ((subI .i64 s2.1 1), (appL s2.2 [(cvtI .u8 (shrI .u64 (nthI x2 s1.1) (mulI .i64 8 s2.1)))])))
 ) else (
   some (.out (.go s2.2))
 )
noncomputable def gk.loop1 (x1 : Int) (x2 : List Int) (s1 : Int × List Int) : Option (Fl (Int × List Int) (Fl (List Int) (List Int))) :=
 bif (ltI s1.1 (qat x2)) then (
  need (InB s1.1 (qat x2)) <|
  ((loopF (gk.loop2 x2 s1) ((subI .i64 (minI (maxI x1 1) 8) 1), s1.2)).bind fun f => flC f fun (v2 : List Int) =>
    some (.go ((addI .i64 s1.1 1), v2))
  )
 ) else (
   some (.out (.go s1.2))
 )
noncomputable def gk (x0 : List Int) (x1 : Int) (x2 : List Int) : Option (List Int) :=
 ((loopF (gk.loop1 x1 x2) (0, x0)).bind fun f => flC f fun (v1 : List Int) =>
   some v1
 )
noncomputable def gp.loop1 (x1 : List Int) (s1 : Int × List Int) : Option (Fl (Int × List Int) (Fl (List Int) (List Int))) :=
 bif (ltI s1.1 (qat x1)) then (
  need (InB s1.1 (qat x1)) <|
  ((gk s1.2 2 [(cvtI .u64 (nthI x1 s1.1))])).bind fun r1 =>
  some (.go ((addI .i64 s1.1 1), r1))
 ) else (
   some (.out (.go s1.2))
 )
noncomputable def gp (x0 : List Int) (x1 : List Int) : Option (List Int) :=
 ((loopF (gp.loop1 x1) (0, x0)).bind fun f => flC f fun (v1 : List Int) =>
   some v1
 )
noncomputable def gt.loop1 (x1 : List Int) (s1 : Int × List Int) : Option (Fl (Int × List Int) (Fl (List Int) (List Int))) :=
 bif (ltI s1.1 (qat x1)) then (
  need (InB s1.1 (qat x1)) <|
  ((gk s1.2 4 [(cvtI .u64 (nthI x1 s1.1))])).bind fun r1 =>
  some (.go ((addI .i64 s1.1 1), r1))
 ) else (
   some (.out (.go s1.2))
 )
noncomputable def gt (x0 : List Int) (x1 : List Int) : Option (List Int) :=
 ((loopF (gt.loop1 x1) (0, x0)).bind fun f => flC f fun (v1 : List Int) =>
   some v1
 )
noncomputable def gu.loop1 (x1 : List ByteArray) (s1 : Int × List Int) : Option (Fl (Int × List Int) (Fl (List Int) (List Int))) :=
 bif (ltI s1.1 (qat x1)) then (
  need (InB s1.1 (qat x1)) <|
  need (0 < lenS (nthI x1 s1.1)) <|
  need (AppB (qat s1.2) (lenS (nthI x1 s1.1)) 1) <|
  some (.go ((addI .i64 s1.1 1), (appL s1.2 (numsOf (nthI x1 s1.1)))))
 ) else (
   some (.out (.go s1.2))
 )
noncomputable def gu (x0 : List Int) (x1 : List ByteArray) : Option (List Int) :=
 ((loopF (gu.loop1 x1) (0, x0)).bind fun f => flC f fun (v1 : List Int) =>
   some v1
 )
noncomputable def gR (x0 : List Int) : Option Int :=
 some (qat x0)
noncomputable def gB.loop1 (x1 : Int) (s1 : List Int) : Option (Fl (List Int) (Fl (List Int) (List Int))) :=
 ((gR s1)).bind fun r1 =>
 need (NonZ (maxI x1 1)) <|
 bif (neI (remI r1 (maxI x1 1)) 0) then (
  need (AppB (qat s1) 1 1) <|
  some (.go (appL s1 [0]))
 ) else (
   some (.out (.go s1))
 )
noncomputable def gB (x0 : List Int) (x1 : Int) : Option (List Int) :=
 ((loopF (gB.loop1 x1) x0).bind fun f => flC f fun (v1 : List Int) =>
   some v1
 )
end Go.Proofs
end
section
namespace Go.Proofs
open Go.Ab
noncomputable def gah : Option Tt :=
 some (Tt.mk false false 0 (-1) false (-1) (-1) false (-1))
noncomputable def gay (x0 : Bool) (x1 : Int) : Option Int :=
 bif x0 then (
  some x1
 ) else (
   some 0
 )
noncomputable def gao (x0 : Tt) : Option Bool :=
 some (qaf (qaf (qaf (leqI 0 x0.fA) true (leqI 0 x0.fF)) true (leqI 0 x0.fo)) true (leqI 0 x0.fR))
noncomputable def gY (x0 : Tt) : Option ByteArray :=
 ((gao x0)).bind fun r1 =>
 ((gay r1 128)).bind fun r2 =>
 ((gay x0.fJ 32)).bind fun r3 =>
 ((gay x0.fM 16)).bind fun r4 =>
 need (AppB 0 1 1) <|
 bif (notB r1) then (
  need (TextB (appL [] [(qaq .or .u8 (qaq .or .u8 (qaq .or .u8 r2 r3) r4) (cvtI .u8 (qaq .and .i64 x0.fI 7)))])) <|
  some (strOfNums (appL [] [(qaq .or .u8 (qaq .or .u8 (qaq .or .u8 r2 r3) r4) (cvtI .u8 (qaq .and .i64 x0.fI 7)))]))
 ) else (
   ((gay (leqI 0 x0.fA) 128)).bind fun r5 =>
   ((gay (leqI 0 x0.fF) 64)).bind fun r6 =>
   ((gay (leqI 0 x0.fo) 32)).bind fun r7 =>
   ((gay (leqI 0 x0.fR) 16)).bind fun r8 =>
   need (AppB 1 1 1) <|
   ((
    bif (qaf (leqI 0 x0.fA) x0.fU false) then (
     ((gp (appL (appL [] [(qaq .or .u8 (qaq .or .u8 (qaq .or .u8 r2 r3) r4) (cvtI .u8 (qaq .and .i64 x0.fI 7)))]) [(qaq .or .u8 (qaq .or .u8 (qaq .or .u8 r5 r6) r7) r8)]) [(qaq .or .u16 (cvtI .u16 x0.fA) 32768)])).bind fun r9 =>
     some (.go r9)
    ) else (
      bif (leqI 0 x0.fA) then (
       need (AppB 2 1 1) <|
       some (.go (appL (appL (appL [] [(qaq .or .u8 (qaq .or .u8 (qaq .or .u8 r2 r3) r4) (cvtI .u8 (qaq .and .i64 x0.fI 7)))]) [(qaq .or .u8 (qaq .or .u8 (qaq .or .u8 r5 r6) r7) r8)]) [(cvtI .u8 (qaq .and .i64 x0.fA 127))]))
      ) else (
        some (.go (appL (appL [] [(qaq .or .u8 (qaq .or .u8 (qaq .or .u8 r2 r3) r4) (cvtI .u8 (qaq .and .i64 x0.fI 7)))]) [(qaq .or .u8 (qaq .or .u8 (qaq .or .u8 r5 r6) r7) r8)]))
      )
    )
    : Option (Fl (List Int) ByteArray)).bind fun f => flC f fun (v1 : List Int) =>
    ((
     bif (leqI 0 x0.fF) then (
      need (AppB (qat v1) 1 1) <|
      some (.go (appL v1 [(cvtI .u8 x0.fF)]))
     ) else (
       some (.go v1)
     )
     : Option (Fl (List Int) ByteArray)).bind fun f => flC f fun (v2 : List Int) =>
     ((
      bif (qaf (leqI 0 x0.fo) true (leqI 0 x0.fR)) then (
       need (NonN 6) <|
       ((gay x0.fV 32)).bind fun r10 =>
       need (AppB (qat v2) 1 1) <|
       some (.go (appL v2 [(qaq .or .u8 (qaq .or .u8 (shlI .u8 (cvtI .u8 (maxI x0.fo 0)) 6) r10) (cvtI .u8 (maxI x0.fR 0)))]))
      ) else (
        some (.go v2)
      )
      : Option (Fl (List Int) ByteArray)).bind fun f => flC f fun (v3 : List Int) =>
      need (TextB v3) <|
      some (strOfNums v3)
     )
    )
   )
 )
end Go.Proofs
end
section
namespace Go.Proofs
open Go.Ab
noncomputable def gak (_x0 : Tv) : Option (Int × Int) :=
 some (206, 1)
noncomputable def gam (x0 : Tv) (x1 : List Int) : Option (List Int) :=
 ((gt x1 [x0.fO, x0.fTo])).bind fun r1 =>
 some r1
noncomputable def gaA (x0 : List Int) (x1 : RtcpPacket) : Option (List Int) :=
 RtcpPacket.by x1
 (fun y1c0 => (
  ((gam y1c0 x0)).bind fun r1 =>
  some r1
 ))
noncomputable def gad.loop1 (x0 : List RtcpPacket) (s1 : Int × List Int) : Option (Fl (Int × List Int) (Fl (List Int) ByteArray)) :=
 bif (ltI s1.1 (qat x0)) then (
  need (InB s1.1 (qat x0)) <|
  RtcpPacket.by (nthI x0 s1.1)
  (fun y2c0 => (
   ((gak y2c0)).bind fun r1 =>
   ((gaA [] (RtcpPacket.c0 y2c0))).bind fun r2 =>
   ((gB r2 4)).bind fun r3 =>
   need (AppB (qat s1.2) 2 1) <|
   ((gR r3)).bind fun r4 =>
   need (NonZ 4) <|
   ((gp (appL s1.2 [(qaq .or .u8 128 (qaq .and .u8 r1.2 31)), r1.1]) [(cvtI .u16 (quoI .i64 r4 4))])).bind fun r5 =>
   need (TextB r3) <|
   ((gu r5 [(strOfNums r3)])).bind fun r6 =>
   some (.go ((addI .i64 s1.1 1), r6))
  ))
 ) else (
   some (.out (.go s1.2))
 )
noncomputable def gad (x0 : List RtcpPacket) : Option ByteArray :=
 ((loopF (gad.loop1 x0) (0, [])).bind fun f => flC f fun (v1 : List Int) =>
   need (TextB v1) <|
   some (strOfNums v1)
 )
end Go.Proofs
end
section
namespace Go.Proofs
end Go.Proofs
namespace Go.Ab
open Go.Proofs
@[simp] theorem bel_opq (m : Nat) (φ : Opq) : (qau.opq φ).bel m ↔ True := Iff.rfl
@[simp] theorem wrO_bs (T E : TypeId) (bs : List Int) : (wrO T E bs).bs = bs := rfl
@[simp] def wrTextS (T E : TypeId) : Sp
  | [.ptr i 0], M => match M[i]? with
    | some (.opq φ) => some { av := .lit (.string (strOfNums φ.bs)), M := some (M.set i (.opq wrX)), obl := φ = wrO T E φ.bs ∧ TextB φ.bs }
    | _ => none
  | _, _ => none
theorem bytes_of {bs : List Int} (h : ∀ x ∈ bs, 0 ≤ x ∧ x < 256) : bs.map (Value.int .u8) = Lib.byteCells (bs.map fun n => n.toNat.toUInt8) := by
 simp only [Lib.byteCells, List.map_map];refine List.map_congr_left fun x hx => ?_;obtain ⟨h1, h2⟩ := h x hx;simp only [Function.comp, Nat.toUInt8, UInt8.toNat_ofNat'];congr 1;omega
theorem textW_ok {P : Program} {f : FuncId} {T E : TypeId} (hent : ∀ args w, (callFunc f args).run P w = .ok (.enter f args) w)
  (hS : ∀ (b g cap : Nat) (w : World) (p : Value) (l : List UInt8) (cur : Array Value), w.heap[b]? = some (.cells #[p, .slice (some ⟨g, 0, none⟩) l.length cap] T (0, 0)) → w.heap[g]? = some (.cells cur E (0, 0)) →
   l.length ≤ cap → cap ≤ maxLen → cur.size = cap → cur.toList.take l.length = Lib.byteCells l → l ≠ [] →
   Calls P f #[.pointer (some ⟨b, 0, none⟩)] w fun e w' => e = .returned (.string ⟨l.toArray⟩) ∧ WrKeep b (some g) w w' ∧ w'.heap.size = w.heap.size) : qap P f (wrTextS T E) := by
 intro l M out h;unfold wrTextS at h;split at h
 ·rename_i i;split at h
  ·rename_i φ hMi;cases h;intro g vs hM sm hr ho;subst hM;obtain ⟨hφ, hne, hbb⟩ := ho;cases hr with | cons hv hr => cases hr with | nil =>
   cases hv with
   | ptr _ _ hi =>
   refine ⟨hent _ _, ?_⟩;have hq := sm.opq i φ hMi;rw [hφ] at hq;obtain ⟨p, v, h1, h2, h3⟩ := hq;rcases h3 with ⟨_, h, _⟩ | ⟨cap, cur, rfl, h4, h5, h6, h7, h8, h9⟩
   ·exact absurd h hne
   generalize hl : φ.bs.map (fun n => n.toNat.toUInt8) = ls;have hll : ls.length = φ.bs.length := by rw [← hl]; simp
   have hb : φ.bs.map (Value.int .u8) = Lib.byteCells ls := by rw [← hl]; exact bytes_of hbb
   have hstr : (⟨ls.toArray⟩ : ByteArray) = strOfNums φ.bs := by
    rw [← hl]; rfl
   simp only [wrO] at h1 h5 h6 h9;refine (hS (g.β i) (g.ρ i).b cap g.w p ls cur (by rw [hll]; exact h1) h5 (by omega) h7 h8 (by rw [hll, ← hb]; exact h9) (fun e => hne (List.eq_nil_of_length_eq_zero (by rw [← hll, e]; rfl)))).mono ?_;rintro e w' ⟨rfl, k1, k2⟩;obtain ⟨kk, ss⟩ := opq_turn sm hMi (φ' := wrX) (w' := w') (rb := (g.ρ i).b) k1.size ⟨k1.os, k1.output⟩ (fun k q1 q2 q3 => k1.block k q1 q2 (by simpa using q3)) (.inl rfl) trivial;refine ⟨_, rfl, g.β, _, ss, ?_, kk⟩;rw [hstr];exact .lit _
  ·cases h
 ·cases h
end Go.Ab
end
section
namespace Go.Proofs
open Go.Ab Go.Shelf
theorem libKeys.gMapsKeysMapIntRoomPeerIntRoomPeer.ok : qap Tryz.prog 122 (keysS 141) :=
 keys_ok Tryz.keysAD rfl rfl (enters_of Tryz.func122 (by kernel_rfl) rfl)
theorem Tryz.sortsD (m : Nat) : AnyZI.SortsIn Tryz.prog Tryz.sortedAD_ren Fence.wide m :=
  ⟨fun blk off cap ss W hH hblk hsz => callsIn_wide.2 (AnyM.slices_Sort_int Tryz.sortAD blk off cap ss W hH hblk hsz),
   fun p cap W => callsIn_wide.2 (AnyM.slices_Sort_int_none Tryz.sortAD p cap W)⟩
theorem libSorted.gSlicesSortedInt.ok : qap Tryz.prog 121 (sortedS 141) :=
 sorted_ok Tryz.sortedAD { Tryz.keysAD with } rfl rfl (enters_of Tryz.func121 (by kernel_rfl) rfl) Tryz.sortsD (enters_of Tryz.func140 (by kernel_rfl) rfl) (enters_of Tryz.func141 (by kernel_rfl) rfl)
theorem libSorted.gSortedMapIntRoomPeerIntRoomPeer1.ok : qap Tryz.prog 121 (sortedS 141) := libSorted.gSlicesSortedInt.ok
theorem libKeys.gMapsKeysMapStringIntStringInt.ok : qap Tryz.prog 125 (keysS 144) :=
 keysS_okZ Tryz.keysAS rfl rfl (enters_of Tryz.func125 (by kernel_rfl) rfl)
theorem Tryz.sortsS (m : Nat) : AnyZ.SortsIn Tryz.prog Tryz.sortedAS_ren Fence.wide m :=
  ⟨fun blk off cap ss W hH hblk hsz => callsIn_wide.2 (AnyM.slices_Sort_string Tryz.sortAS blk off cap ss W hH hblk hsz),
   fun p cap W => callsIn_wide.2 (AnyM.slices_Sort_string_none Tryz.sortAS p cap W)⟩
theorem libSorted.gSlicesSortedString.ok : qap Tryz.prog 124 (sortedSS 144) :=
 sortedS_ok Tryz.sortedAS { Tryz.keysAS with } rfl rfl (enters_of Tryz.func124 (by kernel_rfl) rfl) Tryz.sortsS (enters_of Tryz.func143 (by kernel_rfl) rfl) (enters_of Tryz.func144 (by kernel_rfl) rfl)
end Go.Proofs
end
section
namespace Go.Ab
open Go.Proofs
@[simp] def wrPutS (T E : TypeId) : Sp
  | [.ptr i 0, .sl els _], M => match M[i]? with
    | some (.opq φ) => some { av := .ptr i 0, M := some (M.set i (.opq (wrO T E (appL φ.bs (els.map numOf))))), obl := φ = wrO T E φ.bs ∧ (∀ e ∈ els, ∃ n, e = [.lit (.int .u8 n)]) ∧ els ≠ [] ∧ AppB (qat φ.bs) (qat els) 1 }
    | _ => none
  | _, _ => none
theorem addr_plus (b off j : Nat) : (⟨b, off, none⟩ : Addr).add j = ⟨b, off + j, none⟩ := by
 unfold Addr.add;split <;> simp_all
theorem sl_inv {g : G} {els : List (List AV)} {tok : Tok} {v : Value} (h : R g (.sl els tok) v) (hne : els ≠ []) (hu : ∀ e ∈ els, ∃ n, e = [.lit (.int .u8 n)]) :
  ∃ b off cap, v = .slice (some ⟨b, off, none⟩) els.length cap ∧ ∀ j, j < els.length → g.w.cell? ⟨b, off + j, none⟩ = some (.int .u8 ((els.map numOf).getD j 0)) ∧ ¬ g.reg ⟨b, off + j, none⟩ := by
 cases h with
 | nil => exact absurd rfl hne
 | sl _ _ b off s cap xs hs h1 h2 h3 h4 ht hc =>
   refine ⟨b, off, cap, rfl, fun j hj => ?_⟩;obtain ⟨n, hn⟩ := hu _ (List.getElem_mem hj);have hs1 : s = 1 := by rw [← hs j hj, hn]; rfl
   subst hs1;have q1 := h1 j 0 hj (by omega);have q2 := h2 j 0 hj (by omega);have q3 := h3 j 0 hj (by rw [hn]; simp);simp only [Nat.mul_one, Nat.add_zero] at q1 q2;refine ⟨?_, q2⟩;rw [q1]
   have : R g (.lit (.int .u8 n)) (xs j 0) := by
    have e : els[j][0]'(by rw [hn]; simp) = .lit (.int .u8 n) := by simp [hn]
    rw [e] at q3; exact q3
   rw [this.lit_inv];have hg : (els.map numOf).getD j 0 = n := by simp [List.getD, hj, hn]
   rw [hg]
theorem putW_ok {P : Program} {f : FuncId} {T E : TypeId} (hent : ∀ args w, (callFunc f args).run P w = .ok (.enter f args) w)
  (hU : ∀ (b : Nat) (w : World) (p v : Value) (n : Nat) (xs : List Value), w.heap[b]? = some (.cells #[p, v] T (0, 0)) → (p = .pointer none ∨ p = .pointer (some ⟨b, 0, none⟩)) → w.ownsRow 0 E 1 v n xs → v.ownBlock ≠ some b →
   ∀ (ad : Addr) (m c : Nat) (news : List Value), news.length = m → 0 < m → (∀ j u, news[j]? = some u → w.cell? (ad.add j) = some u) → (∀ u ∈ news, u.oneCell' = true) → (∀ j, (ad.add j).block ≠ b) → n + m ≤ 140737488355328 →
   Calls P f #[.pointer (some ⟨b, 0, none⟩), .slice (some ad) m c] w fun e w' => e = .returned (.pointer (some ⟨b, 0, none⟩)) ∧
   ∃ v', w'.heap[b]? = some (.cells #[.pointer (some ⟨b, 0, none⟩), v'] T (0, 0)) ∧ w'.ownsRow 0 E 1 v' (n + m) (xs ++ news) ∧ v'.ownBlock ≠ some b ∧ WrKeep b v.ownBlock w w' ∧
     (v'.ownBlock = v.ownBlock ∨ v'.ownBlock = some w.heap.size) ∧ ∀ g, v'.ownBlock = some g → g < w'.heap.size) : qap P f (wrPutS T E) := by
 intro l M out h;unfold wrPutS at h;split at h
 ·rename_i i els tok;split at h
  ·rename_i φ hMi;cases h;intro g vs hM sm hr ho;subst hM;obtain ⟨hφ, hu, hne, happ⟩ := ho;cases hr with | cons hv hr => cases hr with | cons hs hr => cases hr with | nil =>
   cases hv with
   | ptr _ _ hi =>
   obtain ⟨ab, off, cap, rfl, hcell⟩ := sl_inv hs hne hu;refine ⟨hent _ _, ?_⟩;have hq := sm.opq i φ hMi;rw [hφ] at hq;obtain ⟨p, v, h1, h2, h3, h4, h5⟩ := WrB.at hq;generalize hls : els.map numOf = ls at *
   have hll : ls.length = els.length := by rw [← hls]; simp
   have hpos : 0 < ls.length := by
    rw [hll];exact List.length_pos_iff.2 hne
   have hadd : ∀ j, (⟨ab, off, none⟩ : Addr).add j = ⟨ab, off + j, none⟩ := fun j => addr_plus ab off j
   have happ' : φ.bs.length + els.length ≤ 140737488355328 := by
    have := happ.1;simp only [qat, Int.mul_one, Int.natCast_one] at this;omega
   have hab : ab ≠ g.β i := by
    intro e;have := (hcell 0 (by omega)).2;exact this (Lk hMi (.inl e))
   refine (hU (g.β i) g.w p v φ.bs.length (φ.bs.map (Value.int .u8)) h1 h2 h3 h4 ⟨ab, off, none⟩ els.length cap (ls.map (Value.int .u8)) (by rw [List.length_map]; exact hll) (by rw [← hll]; exact hpos) (fun j u hj => ?_) (fun u hu => ?_) (fun j => by rw [hadd]; exact hab) happ').mono ?_
   ·simp only [List.getElem?_map, Option.map_eq_some_iff] at hj;obtain ⟨x, hx, rfl⟩ := hj
    have hjl : j < ls.length := by
     rcases Nat.lt_or_ge j ls.length with h | h
     ·exact h
     ·rw [List.getElem?_eq_none h] at hx; cases hx
    rw [hadd, (hcell j (by omega)).1];simp [List.getD, hx]
   ·obtain ⟨x, _, rfl⟩ := List.mem_map.1 hu;rfl
   rintro e w' ⟨rfl, v', k1, k2, k3, k4, k5, k6⟩
   have hW : WrB T E (φ.bs ++ ls) (g.β i) (v'.ownBlock.getD (g.β i)) (w'.heap[g.β i]?) (w'.heap[v'.ownBlock.getD (g.β i)]?) := by
    refine WrB.of k1 (.inr rfl) ?_ k3;simpa [hll] using k2
   have hρ : v.ownBlock = none ∧ (g.ρ i).b = g.β i ∨ v.ownBlock = some (g.ρ i).b := h5
   obtain ⟨kk, ss⟩ := opq_turn sm hMi (φ' := wrO T E (φ.bs ++ ls)) (w' := w') (rb := v'.ownBlock.getD (g.β i)) k4.size ⟨k4.os, k4.output⟩ (fun k q1 q2 q3 => k4.block k q1 q2 (by
     rcases hρ with ⟨h, _⟩ | h <;> rw [h]
     ·simp
     ·simpa using q3))
    (by
     rcases k5 with h | h
     ·rcases hρ with ⟨h', _⟩ | h'
      ·right; left; rw [h, h']; rfl
      ·left; rw [h, h']; rfl
     ·right; right; rw [h]; exact ⟨Nat.le_refl _, k6 _ h⟩) hW
   refine ⟨_, rfl, g.β, _, ss, ?_, kk⟩;exact .ptr (g := ⟨g.M.set i (.opq (wrO T E (φ.bs ++ ls))), g.β, _, w', g.X⟩) i 0 (by simpa using hi)
  ·cases h
 ·cases h
end Go.Ab
namespace Go.Proofs
open Go.RowKit Go.Ab
set_option maxHeartbeats 1000000 in
set_option maxRecDepth 100000 in
theorem Tryz.u8W (b : Nat) (w : World) (p v : Value) (n : Nat) (xs : List Value) (hb : w.heap[b]? = some (.cells #[p, v] 143 (0, 0))) (hp : p = .pointer none ∨ p = .pointer (some ⟨b, 0, none⟩))
  (hown : w.ownsRow 0 5 1 v n xs) (hne : v.ownBlock ≠ some b) (ad : Addr) (m c : Nat) (news : List Value) (hl : news.length = m) (hm : 0 < m) (hnews : ∀ j u, news[j]? = some u → w.cell? (ad.add j) = some u)
  (h1 : ∀ u ∈ news, u.oneCell' = true) (hap : ∀ j, (ad.add j).block ≠ b) (hbytes : n + m ≤ 140737488355328) :
  Calls Tryz.prog 65 #[.pointer (some ⟨b, 0, none⟩), .slice (some ad) m c] w fun e w' => e = .returned (.pointer (some ⟨b, 0, none⟩)) ∧
   ∃ v', w'.heap[b]? = some (.cells #[.pointer (some ⟨b, 0, none⟩), v'] 143 (0, 0)) ∧ w'.ownsRow 0 5 1 v' (n + m) (xs ++ news) ∧ v'.ownBlock ≠ some b ∧ WrKeep b v.ownBlock w w' ∧
     (v'.ownBlock = v.ownBlock ∨ v'.ownBlock = some w.heap.size) ∧ ∀ g, v'.ownBlock = some g → g < w'.heap.size := by
 have H1 := hidW (Tryz.writeW b w p v n xs hb hp hown hne ad m c news hl hm hnews h1 hap hbytes);clear hb hp hown hne hnews h1 hap hl hm hbytes
 go_enter Tryz.func65, Tryz.ntmps65
 go_wp2_with (go_at_call 112; refine H1.out.mono ?_);rintro e w1 ⟨rfl, h⟩;have H2 := hidW h;clear h;go_wp2;go_ret;exact ⟨rfl, H2.out⟩
set_option maxHeartbeats 1000000 in
set_option maxRecDepth 100000 in
theorem Tryz.textW (b g cap : Nat) (w : World) (p : Value) (l : List UInt8) (cur : Array Value) (hb : w.heap[b]? = some (.cells #[p, .slice (some ⟨g, 0, none⟩) l.length cap] 143 (0, 0)))
  (hg : w.heap[g]? = some (.cells cur 5 (0, 0))) (hnc : l.length ≤ cap) (hcm : cap ≤ maxLen) (hcs : cur.size = cap) (ht : cur.toList.take l.length = Lib.byteCells l) (h0 : l ≠ []) :
  Calls Tryz.prog 70 #[.pointer (some ⟨b, 0, none⟩)] w fun e w' => e = .returned (.string ⟨l.toArray⟩) ∧ WrKeep b (some g) w w' ∧ w'.heap.size = w.heap.size := by
 have H1 := hidW (Tryz.stringW b g cap w p l cur hb hg hnc hcm hcs ht h0);clear hb hg hnc hcm hcs ht h0
 go_enter Tryz.func70, Tryz.ntmps70
 go_wp2_with (go_at_call 115; refine H1.out.mono ?_);rintro e w1 ⟨rfl, h⟩;have H2 := hidW h;clear h;go_wp2;go_ret;exact ⟨rfl, H2.out⟩
theorem gaz.U8.ok : qap Tryz.prog 65 (wrPutS 143 5) :=
 putW_ok (fun _ _ => by kernel_rfl) Tryz.u8W
theorem gaz.Text.ok : qap Tryz.prog 70 (wrTextS 143 5) :=
 textW_ok (fun _ _ => by kernel_rfl) Tryz.textW
theorem Tryz.wrZero (w : World) : (zeroValue 143).run Tryz.prog w = .ok (.agg #[.pointer none, .slice none 0 0]) w := by kernel_rfl
theorem gaz.alloc {n B : Nat} {Q : Exit → Go.Ab.St → Prop} {σ : Go.Ab.St} {id d1 : Nat} {ops : Array Oper} {o1 : Oper} (ho : ops.toList = [o1]) (ho1 : o1.op = .alloc 143) (hg : o1.guard = none)
  (hd1 : o1.dst = some d1) (hd : dstsOk ops n ops.toList [] = true) (hn : noTags σ.A = true) {dead : List Nat}
  (h : Q .normal ⟨⟨d1, none, .ptr σ.M.length 0⟩ :: without dead (without [d1] σ.A), σ.M ++ [.opq (wrO 143 5 [])]⟩) : AWp Tryz.prog n B (.region id ops false) Q σ :=
 AWp.regAlloc (wrO 143 5 []) ho ho1 hg hd1 hd hn Tryz.wrZero rfl (fun b o => wr_fresh _ _ b o) h
end Go.Proofs
end
