/- A Writer is written and read. No condition. -/
import Derived.Test.YtbijdlgffebenaaGreatM03
import Derived.Lib.UnsafeStr
import Derived.Shelf.RegionOpenPlain
import Derived.Test.YtbijdlgffebenaaGreatJi
import Derived.Test.YtbijdlgffebenaaGreatM07
section
namespace Go.Proofs
open Go.RowKit Go.Ab

theorem hidW {p : Prop} (h : p) : Hid p := h

set_option maxHeartbeats 2000000 in
set_option maxRecDepth 100000 in
theorem Tryz.writeW (b : Nat) (w : World) (p v : Value) (n : Nat) (xs : List Value) (hb : w.heap[b]? = some (.cells #[p, v] 134 (0, 0))) (hp : p = .pointer none ∨ p = .pointer (some ⟨b, 0, none⟩))
    (hown : w.ownsRow 0 5 1 v n xs) (hne : v.ownBlock ≠ some b) (ad : Addr) (m c : Nat) (news : List Value) (hl : news.length = m) (hm : 0 < m) (hnews : ∀ j u, news[j]? = some u → w.cell? (ad.add j) = some u)
    (h1 : ∀ u ∈ news, u.oneCell' = true) (hap : ∀ j, (ad.add j).block ≠ b) (hbytes : n + m ≤ 140737488355328) :
    Calls Tryz.prog 64 #[.pointer (some ⟨b, 0, none⟩), .slice (some ad) m c] w fun e w' => e = .returned (.tuple #[.int .i64 m, .nilIface]) ∧
      ∃ v', w'.heap[b]? = some (.cells #[.pointer (some ⟨b, 0, none⟩), v'] 134 (0, 0)) ∧ w'.ownsRow 0 5 1 v' (n + m) (xs ++ news) ∧ v'.ownBlock ≠ some b ∧ WrKeep b v.ownBlock w w' ∧
        (v'.ownBlock = v.ownBlock ∨ v'.ownBlock = some w.heap.size) ∧ ∀ g, v'.ownBlock = some g → g < w'.heap.size := by
  have hbl : b < w.heap.size := by
    rcases Nat.lt_or_ge b w.heap.size with h | h
    · exact h
    · simp [Array.getElem?_eq_none h] at hb
  have H1 := hidW (Tryz.ccAny b w p v n xs hb hp hown hne)
  have H2 := hidW (show _ ∧ _ ∧ _ ∧ _ ∧ _ ∧ _ from ⟨hbl, hne, hnews, h1, hap, hl⟩)
  clear hb hp hown hne hnews h1 hap hbl hl
  go_enter Tryz.func64, Tryz.ntmps64
  go_wp2_with (go_at_call 85; refine H1.out.mono ?_)
  rintro e w1 ⟨rfl, hb1, hown1, hsz1, hk1, hall1⟩
  obtain ⟨hbl, hne, hnews, h1, hap, hl⟩ := H2.out
  obtain ⟨i0, hi, hz⟩ := Option.map_eq_some_iff.1 Tryz.byteI
  simp only [Prod.mk.injEq] at hz
  obtain ⟨hz0, hz1, hz2⟩ := hz
  have hnews1 : ∀ j u, news[j]? = some u → w1.cell? (ad.add j) = some u := fun j u hj => by
    rw [← hnews j u hj]; simp only [World.cell?]; rw [hall1 _ (hap j)]
  have hsrc : Src Tryz.prog 1 94 (.slice (some ad) m c) m news w1 := Src.ofSlice w1 Tryz.underlying94 ad m c news (by omega) hnews1 h1
  have Hs := hidW hsrc
  have Hi := hidW (show _ ∧ _ ∧ _ ∧ _ from ⟨hi, hz0, hz1, hz2⟩)
  have Hk := hidW (show _ ∧ _ from ⟨hk1, hsz1⟩)
  have Ho := hidW hown1
  have Hn := hidW hne
  have Hb := hidW hb1
  have Hl := hidW hbl
  have c0 : w1.cell? ⟨b, 0, none⟩ = some (.pointer (some ⟨b, 0, none⟩)) := by rw [Lib.cell_of_heap hb1]; rfl
  have c1 : w1.cell? ⟨b, 1, none⟩ = some v := by rw [Lib.cell_of_heap hb1]; rfl
  clear hall1 hk1 hsz1 hown1 hne hb1 hsrc hnews1 hnews h1 hap hi hz0 hz1 hz2 hbl hl H1 H2
  go_wp2_with (at_builtin; refine wpList_append_w rfl _ _ 94 94 rfl 5 i0 _ Tryz.underlying94 Hi.out.1 Hi.out.2.1 Hi.out.2.2.1 Hi.out.2.2.2 rfl _ _ _ rfl Ho.out _ rfl m news Hs.out hm hbytes ?_)
  intro v' w2 hown' hgrow hblk' hnn
  obtain ⟨hk1, hsz1⟩ := Hk.out
  have hne := Hn.out
  have hb1 := Hb.out
  have hbl := Hl.out
  have hlt : b < w1.heap.size := by omega
  have hne' : v'.ownBlock ≠ some b := by
    rcases hblk' with h | h
    · rw [h]; exact hne
    · rw [h]; intro e; simp only [Option.some.injEq] at e; omega
  have hb2 : w2.heap[b]? = some (.cells #[.pointer (some ⟨b, 0, none⟩), v] 134 (0, 0)) := by
    rw [hgrow.block b hlt (fun e => hne e.symm)]
    exact hb1
  have fin : ∀ w3, w3 = w2.setCell ⟨b, 1, none⟩ v' → w3.heap[b]? = some (.cells #[.pointer (some ⟨b, 0, none⟩), v'] 134 (0, 0)) ∧ w3.ownsRow 0 5 1 v' (n + m) (xs ++ news) ∧ v'.ownBlock ≠ some b ∧ WrKeep b v.ownBlock w w3 ∧
        (v'.ownBlock = v.ownBlock ∨ v'.ownBlock = some w.heap.size) ∧ ∀ g, v'.ownBlock = some g → g < w3.heap.size := by
    rintro w3 rfl
    refine ⟨by simp [World.setCell, Array.getElem?_modify, hb2], ?_, hne', (hk1.trans (WrKeep.grown hgrow)).trans (WrKeep.setCell _ _ _ _ _), by rw [hsz1] at hblk'; exact hblk', fun q hq => ?_⟩
    · exact hown'.kept (row := some b) ⟨rfl, rfl, rfl, by simp [World.setCell], fun k _ hk => heap_setCell_ne (fun e => hk (by simp [e]))⟩ (.inr hne')
    · rcases hown'.2 with ⟨_, h⟩ | ⟨g', cap', cur, hv, _, ho, _⟩
      · omega
      · subst hv
        simp only [Value.ownBlock, Option.some.injEq] at hq
        subst hq
        simp only [World.setCell, Array.size_modify]
        rcases Nat.lt_or_ge g' w2.heap.size with h | h
        · exact h
        · simp [Array.getElem?_eq_none h] at ho
  have Hf := hidW fin
  have d0 : w2.cell? ⟨b, 0, none⟩ = some (.pointer (some ⟨b, 0, none⟩)) := by rw [Lib.cell_of_heap hb2]; rfl
  have d1 : w2.cell? ⟨b, 1, none⟩ = some v := by rw [Lib.cell_of_heap hb2]; rfl
  have f1 : w2.frozen? ⟨b, 1, none⟩ = false := Lib.frozen_of_heap hb2 1
  obtain ⟨g, cap, hv'⟩ : ∃ g cap, v' = .slice (some ⟨g, 0, none⟩) (n + m) cap := by
    rcases hown'.2 with ⟨_, h⟩ | ⟨g, cap, cur, hv, _⟩
    · omega
    · exact ⟨_, _, hv⟩
  subst hv'
  clear hown' hgrow hblk' hnn hne' hk1 hsz1 hne hb1 hbl hlt hb2 fin
  go_wp2
  go_ret2
  exact ⟨rfl, _, Hf.out _ rfl⟩

theorem Tryz.byteC : Tryz.prog.cellsOf 5 = 1 := by kernel_rfl

set_option maxHeartbeats 1000000 in
set_option maxRecDepth 100000 in
theorem Tryz.stringW (b g cap : Nat) (w : World) (p : Value) (l : List UInt8) (cur : Array Value) (hb : w.heap[b]? = some (.cells #[p, .slice (some ⟨g, 0, none⟩) l.length cap] 134 (0, 0)))
    (hg : w.heap[g]? = some (.cells cur 5 (0, 0))) (hnc : l.length ≤ cap) (hcm : cap ≤ maxLen) (hcs : cur.size = cap) (ht : cur.toList.take l.length = Lib.byteCells l) (h0 : l ≠ []) :
    Calls Tryz.prog 65 #[.pointer (some ⟨b, 0, none⟩)] w fun e w' => e = .returned (.string ⟨l.toArray⟩) ∧ WrKeep b (some g) w w' ∧ w'.heap.size = w.heap.size := by
  have hl0 : l.length ≠ 0 := by simpa using h0
  have c1 : w.drew.cell? ⟨b, 1, none⟩ = some (.slice (some ⟨g, 0, none⟩) l.length cap) := by
    have : w.drew.heap[b]? = some (.cells #[p, .slice (some ⟨g, 0, none⟩) l.length cap] 134 (0, 0)) := hb
    rw [Lib.cell_of_heap this]; rfl
  have hSD : (Builtin.unsafeSliceData_ #[94] 189 #[.slice (some ⟨g, 0, none⟩) l.length cap]).run Tryz.prog w.drew = .ok (.pointer (some ⟨g, 0, none⟩)) w.drew :=
    Lib.run_unsafeSliceData_row _ _ _ _ _ _ (by omega)
  have hUS : (Builtin.unsafeString_ #[189, 3] 9 #[.pointer (some ⟨g, 0, none⟩), .int .i64 l.length]).run Tryz.prog w.drew = .ok (.string ⟨l.toArray⟩) (w.drew.freeze ⟨g, 0, none⟩ l.length) := by
    refine Lib.run_unsafeString_row w.drew 189 3 9 5 Tryz.underlying189 Tryz.byteC g cur.size (by have hg' : w.drew.heap[g]? = some (.cells cur 5 (0, 0)) := hg; simp [World.shape?, hg']) l h0 (by omega) (by unfold maxLen at hcm; omega) ?_
    intro j x hx
    have hadd : (⟨g, 0, none⟩ : Addr).add j = ⟨g, j, none⟩ := by unfold Addr.add; split <;> simp_all
    have hj : (cur.toList.take l.length)[j]? = some (.int .u8 x.toNat) := by rw [ht]; simp [Lib.byteCells, hx]
    rw [List.getElem?_take] at hj
    split at hj
    · show w.cell? _ = _
      rw [hadd]
      simp only [World.cell?, hg]
      simpa using hj
    · cases hj
  have Hf := hidW (show WrKeep b (some g) w (w.drew.freeze ⟨g, 0, none⟩ l.length) ∧ (w.drew.freeze ⟨g, 0, none⟩ l.length).heap.size = w.heap.size from by
    unfold World.freeze
    rw [if_neg hl0]
    refine ⟨⟨by simp, rfl, rfl, fun k _ _ hk => ?_⟩, by simp⟩
    simp only [Array.getElem?_modify]
    rw [if_neg (fun e => hk (by rw [e]))]
    rfl)
  clear hb hg hnc hcm hcs ht h0 hl0
  go_enter Tryz.func65, Tryz.ntmps65
  go_wp2
  go_region
  all_goals (go_wp2; go_ret; exact ⟨rfl, Hf.out⟩)
end Go.Proofs
end
section
namespace Go.Proofs
open Go.Ab

def cA : Tu := ⟨true, 400, 2, 9⟩
def pA0 : Pk := pktM 5 0 0 2 0
def pA1 : Pk := pktM 5 0 1 2 1
def tA0 : Thg := ⟨1048581, ⟨#[]⟩, 0⟩
def tA1 : Thg := ⟨1048582, ⟨#[]⟩, 0⟩
def LA1 : List Came := [⟨1048581, pA0⟩]
def LA2 : List Came := [⟨1048581, pA0⟩, ⟨1048582, pA1⟩]
def uA0 : Un := .mk 1048581 68719476736 false true true (payM 0 0) 0
def uA1 : Un := .mk 1048582 68719476736 true false false (payM 0 1) 0
def xA1 : Td := .mk ⟨true, 1048581, -1, 0, 0⟩ 68719476736 ⟨10, 9, true, 1048582, [], 0⟩ (refOf cA [uA0] 0 0) LA1 0 0
def xA2 : Td := .mk ⟨true, 1048582, -1, 0, 0⟩ 68719476736 ⟨10, 9, true, 1048583, [], 0⟩ (refOf cA [] 1 0) LA2 0 1
def xA3 : Td := .mk ⟨true, 1048582, -1, 0, 0⟩ 68719476736 ⟨10, 9, true, 1048583, [], 0⟩ (refOf cA [] 1 0) LA2 1 1

theorem unitA0 : unitM true (-1) LA1 tA0 = (uA0, 68719476736) := by
  have hl : 1 ≤ lenS (payM 0 0) := by rw [pay_len]; decide
  have hi : idxS (payM 0 0) 0 = 16 := by kernel_rfl
  have hf : findP LA1 tA0.fAt = pA0 := by kernel_rfl
  unfold unitM
  simp only
  rw [hf, show pA0.fF = payM 0 0 from rfl, pars_plain hl (by rw [hi]; decide), hi]
  show _ = _
  kernel_rfl
theorem unitA1 : unitM true 68719476736 LA2 tA1 = (uA1, 68719476736) := by
  have hl : 1 ≤ lenS (payM 0 1) := by rw [pay_len]; decide
  have hi : idxS (payM 0 1) 0 = 0 := by kernel_rfl
  have hf : findP LA2 tA1.fAt = pA1 := by kernel_rfl
  unfold unitM
  simp only
  rw [hf, show pA1.fF = payM 0 1 from rfl, pars_plain hl (by rw [hi]; decide), hi]
  show _ = _
  kernel_rfl

theorem put_taken {c : Tu} {X : Td} {p : Pk} {now : Int} {q : Sq} {at_ : Int} {b : RBf} {o : List Thg} {z : FS × List (List Un)} (h1 : seqM X.ff p.ff = (q, at_, true)) (h2 : putS X.fm ⟨at_, ⟨#[]⟩, now⟩ = (b, o, 0))
    (h3 : framesM c (X.fL ++ [⟨at_, p⟩]) o (fsOf X) = z) : putM c X p now = (srcF (.mk q X.fh b X.fc (X.fL ++ [⟨at_, p⟩]) X.fq X.fo) c z.1, z.2, 0) := by
  unfold putM
  simp only
  rw [h1]
  simp only
  rw [if_neg (by simp), h2]
  simp only
  rw [if_neg (by simp), h3]
theorem put_not {c : Tu} {X : Td} {p : Pk} {now : Int} {q : Sq} {at_ e : Int} {b : RBf} {o : List Thg} (h1 : seqM X.ff p.ff = (q, at_, true)) (h2 : putS X.fm ⟨at_, ⟨#[]⟩, now⟩ = (b, o, e)) (he : e ≠ 0) :
    putM c X p now = (.mk q X.fh b X.fc X.fL (addI .i64 X.fq 1) X.fo, [], e) := by
  unfold putM
  simp only
  rw [h1]
  simp only
  rw [if_neg (by simp), h2]
  simp only
  rw [if_pos he]

theorem put1A : putM cA (ref0 true 10 9 2) pA0 0 = (xA1, [], 0) := by
  have h3 : framesM cA LA1 [tA0] (fsOf (ref0 true 10 9 2)) = (⟨68719476736, [uA0], 0, 0, 0⟩, []) := by
    unfold framesM stepM
    simp only
    rw [show (fsOf (ref0 true 10 9 2)).ck = -1 from rfl, show cA.fu = true from rfl, unitA0]
    show _ = _
    kernel_rfl
  rw [put_taken (q := ⟨true, 1048581, -1, 0, 0⟩) (at_ := 1048581) (b := ⟨10, 9, true, 1048582, [], 0⟩) (o := [tA0]) (by kernel_rfl) (by kernel_rfl) h3]
  show _ = _
  kernel_rfl
theorem put2A : putM cA xA1 pA1 0 = (xA2, [[uA0, uA1]], 0) := by
  have h3 : framesM cA LA2 [tA1] (fsOf xA1) = (⟨68719476736, [], 1, 0, 1⟩, [[uA0, uA1]]) := by
    unfold framesM stepM
    simp only
    rw [show (fsOf xA1).ck = 68719476736 from rfl, show cA.fu = true from rfl, unitA1]
    show _ = _
    kernel_rfl
  rw [put_taken (q := ⟨true, 1048582, -1, 0, 0⟩) (at_ := 1048582) (b := ⟨10, 9, true, 1048583, [], 0⟩) (o := [tA1]) (by kernel_rfl) (by kernel_rfl) h3]
  show _ = _
  kernel_rfl
theorem put3A : putM cA xA2 pA0 0 = (xA3, [], 13) := by
  rw [put_not (q := ⟨true, 1048582, -1, 0, 0⟩) (at_ := 1048581) (b := ⟨10, 9, true, 1048583, [], 0⟩) (o := []) (e := 13) (by kernel_rfl) (by kernel_rfl) (by decide)]
  kernel_rfl

theorem awake_ok11 : gaE = some true := by
  unfold gaE
  have hc : gam true 9 9 9 = some (cfgM true 10 9 2) := by
    unfold gam
    rw [Lk (show NonZ 40 by decide)]
    kernel_rfl
  have hs : streamL 5 [1] 57 0 [] = [pA0, pA1] := by kernel_rfl
  have c0 : SOk (ref0 true 10 9 2) cA 2000000 0 := ok0 (by decide) (by decide) (by decide) (by decide)
  obtain ⟨s1, o1, r1⟩ := oput_src (rel0 true 10 9 2) c0 (p := pA0) (pkt_ok _ _ _ _ _) (now := 0) (by decide) (by decide) (by decide) (by decide)
  have c1 := put_sok c0 (p := pA0) (pkt_ok _ _ _ _ _) (now := 0) (by decide) (by decide) (by decide) (by decide)
  rw [show (⟨true, 400, 2, 9⟩ : Tu) = cA from rfl, put1A] at o1 r1
  rw [put1A] at c1
  obtain ⟨s2, o2, r2⟩ := oput_src r1 c1 (p := pA1) (pkt_ok _ _ _ _ _) (now := 0) (by decide) (by decide) (by decide) (by decide)
  have c2 := put_sok c1 (p := pA1) (pkt_ok _ _ _ _ _) (now := 0) (by decide) (by decide) (by decide) (by decide)
  rw [put2A] at o2 r2 c2
  obtain ⟨s3, o3, r3⟩ := oput_src r2 c2 (p := pA0) (pkt_ok _ _ _ _ _) (now := 0) (by decide) (by decide) (by decide) (by decide)
  rw [put3A] at o3 r3
  have hb : s3.fq = 1 := r3.bad
  have n0 : nthI [pA0, pA1] 0 = pA0 := rfl
  have n1 : nthI [pA0, pA1] 1 = pA1 := rfl
  have l2 : lenL [pA0, pA1] = 2 := rfl
  have x0 : pickB (pickB (neI 0 0) true false) true false = false := rfl
  rw [hc, Ld, new_src (by decide) (by decide) (by decide) (by decide) (by decide) (by decide), Ld]
  dsimp only
  rw [optC_some, x0, cond_false, stream_eq, hs, Ld, l2, n0, n1, Lk (show InB 0 2 by decide), o1, Ld]
  dsimp only
  rw [Lk (show InB 1 2 by decide), o2, Ld]
  dsimp only
  rw [Lk (show InB 0 2 by decide), o3, Ld]
  dsimp only
  have hk : gJ ⟨[uA0, uA1]⟩ = some true := by rw [key_of]; rfl
  have hbad : gv s3 = some 1 := by unfold gv; rw [hb]
  have f1 : ([[uA0, uA1]].map Tl.mk) = [⟨[uA0, uA1]⟩] := rfl
  have f0 : (([] : List (List Un)).map Tl.mk) = [] := rfl
  have m1 : lenL [(⟨[uA0, uA1]⟩ : Tl)] = 1 := rfl
  have m0 : nthI [(⟨[uA0, uA1]⟩ : Tl)] 0 = ⟨[uA0, uA1]⟩ := rfl
  rw [f1, f0, m1, m0, hk, hbad]
  simp only [Option.isSome_some, under_true, need_true, getD_so]
  rw [Lk (under_of (show InB 0 1 by decide)), Lk (under_of (show InB 0 1 by decide))]
  rfl

end Go.Proofs
end
