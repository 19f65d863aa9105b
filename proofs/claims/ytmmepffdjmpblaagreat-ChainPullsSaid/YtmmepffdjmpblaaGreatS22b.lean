/- Chapter 22: adjoints taken back by the machine. -/
import Derived.Test.YtmmepffdjmpblaaGreatT21b
import Derived.Test.YtmmepffdjmpblaaGreatS22a
namespace Go.Proofs.YtmmepffdjmpblaaGreat
set_option linter.unusedVariables false
set_option linter.unusedSimpArgs false
open Go.RowKit
theorem blk_new_eq (w : World) (T : TypeId) (cs : Array Value) {n : Nat} (h : w.heap.size = n) : Blk (w.alloc (.cells cs T)) n T cs := by subst h; exact Blk.new w T cs
theorem frame63 {t : Array Value} (h : t.size = 63) {s1 s2 s3 s6 s7 s8 : Value} (h1 : t.getD 1 undef = s1) (h2 : t.getD 2 undef = s2) (h3 : t.getD 3 undef = s3) (h6 : t.getD 6 undef = s6) (h7 : t.getD 7 undef = s7) (h8 : t.getD 8 undef = s8) :
    ∃ u : Nat → Value, t = #[u 0, s1, s2, s3, u 4, u 5, s6, s7, s8, u 9, u 10, u 11, u 12, u 13, u 14, u 15, u 16, u 17, u 18, u 19, u 20, u 21, u 22, u 23, u 24, u 25, u 26, u 27, u 28, u 29, u 30, u 31, u 32, u 33, u 34, u 35, u 36, u 37, u 38, u 39, u 40, u 41, u 42, u 43, u 44, u 45, u 46, u 47, u 48, u 49, u 50, u 51, u 52, u 53, u 54, u 55, u 56, u 57, u 58, u 59, u 60, u 61, u 62] :=
  ⟨fun i => t.getD i undef, by subst h1 h2 h3 h6 h7 h8; exact arr_of_size t 63 h⟩
/-- Where the machine that takes adjoints back stands when `N` steps are to come. -/
def SxJ (code : List (OpD × Int)) (steps : List Tk) (ac : Option Addr) (cc gr nr cr ga na ca : Nat) (ta : Option Addr) (nt ct Br Ba Bs Bl n : Nat) (r0 a0 t0 : List UInt64) (W : World) (N : Nat) (a' : Act) (wr : World) : Prop :=
  ∃ (pre rest : List Tk) (p : Int) (m k : Nat) (st : List UInt64), a'.defers = [] ∧ a'.tmps.size = 63 ∧
    a'.tmps.getD 1 undef = .slice ac code.length cc ∧ a'.tmps.getD 2 undef = .int .i64 (m : Int) ∧ a'.tmps.getD 3 undef = .pointer (some ⟨Bs, 0, none⟩) ∧ a'.tmps.getD 6 undef = .pointer (some ⟨Bl, 0, none⟩) ∧
    a'.tmps.getD 7 undef = .int .i64 p ∧ a'.tmps.getD 8 undef = .int .i64 (k : Int) ∧
    rest.length = N ∧ p < code.length ∧ k = st.length ∧ k ≤ 8 ∧ ChnB code (p, st) rest (-1, []) ∧ steps = pre ++ rest ∧ m + (wrs (pre.map (·.op))).length = n ∧ m ≤ 1200000 ∧
    LeftAt wr Bl st ∧ Blk wr Bs 121 #[.slice (some ⟨gr, 0, none⟩) nr cr, .slice (some ⟨ga, 0, none⟩) na ca, .slice ta nt ct] ∧ Own wr Br 50 (some ⟨gr, 0, none⟩) cr (bkR n t0 r0 a0 (wrs (pre.map (·.op))).reverse).1 ∧ Own wr Ba 50 (some ⟨ga, 0, none⟩) ca (bkR n t0 r0 a0 (wrs (pre.map (·.op))).reverse).2 ∧ Turned [gr, ga] W wr

set_option maxRecDepth 100000 in
set_option maxHeartbeats 6400000 in
theorem back_calls (regs : Int) (f : Fo) (g : Good regs f) (ac : Option Addr) (cc gr nr cr ga na ca : Nat) (ta : Option Addr) (nt ct Br Ba n : Nat) (r0 a0 t0 : List UInt64) (w : World) (hn : n = f.unroll.length)
    (hc : At w ac (f.bare.code 0)) (hcb : f.bare.code 0 ≠ [] → ∀ q, ac.map (·.block) = some q → q ≠ gr ∧ q ≠ ga)
    (hr : Own w Br 50 (some ⟨gr, 0, none⟩) cr r0) (hrl : (r0.length : Int) = regs) (ha : Own w Ba 50 (some ⟨ga, 0, none⟩) ca a0) (hal : (a0.length : Int) = regs) (hrga : gr ≠ ga)
    (hnr : nr = r0.length) (hna : na = a0.length) (hnt : nt = t0.length) (hnt6 : nt ≤ 1000000)
    (ht : At w ta t0) (htl : f.unroll.length ≤ t0.length) (hne : ∀ q, ta.map (·.block) = some q → q ≠ gr ∧ q ≠ ga) :
    Calls Tryz.prog 63 #[.agg #[.slice (some ⟨gr, 0, none⟩) nr cr, .slice (some ⟨ga, 0, none⟩) na ca, .slice ta nt ct], .slice ac (f.bare.code 0).length cc, .int .i64 (n : Int)] w fun e w' => e = .returned (.tuple #[]) ∧ Own w' Br 50 (some ⟨gr, 0, none⟩) cr (backR f.unroll t0 r0 a0).1 ∧ Own w' Ba 50 (some ⟨ga, 0, none⟩) ca (backR f.unroll t0 r0 a0).2 ∧ Turned [gr, ga] w w' := by
  have hlen := g.code_length
  have HTK := hide g.tkB
  have HPOS := hide g.tkB_pos
  have hchn := hide g.chnB
  have HIN := hide g.tkB_in
  have HOPS := hide g.stepsB_ops
  have hul : f.unroll.length ≤ 65536 := by rw [Fo.unroll_length]; exact g.few
  obtain ⟨r1, r2⟩ : 1 ≤ regs ∧ regs ≤ 64 := ⟨g.r1, g.r2⟩
  generalize f.bare.code 0 = code at *
  generalize f.stepsB = steps at *
  generalize f.unroll = U at *
  have HCB := hide hcb
  have HRL := hide hrl
  have HAL := hide hal
  have hgr := (hr.blk gr rfl)
  have hga := (ha.blk ga rfl)
  have hnr64 : nr ≤ 64 := by omega
  have hna64 : na ≤ 64 := by omega
  have HNR := hide hnr
  have HNA := hide hna
  have HNT := hide hnt
  have HTL := hide htl
  have HNE := hide hne
  have HN := hide hn
  have hn6 : n ≤ 65536 := by omega
  clear hcb hrl hal g hnr hna hnt htl hne hn
  have hb1 := Blk.new w 121 #[.slice (some ⟨gr, 0, none⟩) nr cr, .slice (some ⟨ga, 0, none⟩) na ca, .slice ta nt ct]
  have HB1 := hide hb1
  clear hb1
  go_enter Tryz.func63, Tryz.ntmps63
  go_wp2
  refine wp_scope_at 0 (fun a' wr => ∃ N, SxJ code steps ac cc gr nr cr ga na ca ta nt ct Br Ba w.heap.size (w.heap.size + 1) n r0 a0 t0 w N a' wr) (fun a' wr => leastOf fun N => SxJ code steps ac cc gr nr cr ga na ca ta nt ct Br Ba w.heap.size (w.heap.size + 1) n r0 a0 t0 w N a' wr) rfl ?_ ?_
  · go_wp2
    exact ⟨steps.length, [], steps, (code.length : Int) - 1, n, 0, [], rfl, rfl, rfl, rfl, rfl, rfl, rfl, rfl, rfl, by omega, rfl, by omega, hchn.out, rfl, rfl, by omega,
      ⟨_, blk_new_eq _ _ _ (by simp), rfl, fun i v h => by simp at h⟩, HB1.out.alloc _, (hr.alloc _).alloc _, (ha.alloc _).alloc _, Turned.ofBelow (below2 _ _ _)⟩
  · intro a' wr hJ
    obtain ⟨N0, hN0⟩ : ∃ N0, N0 = leastOf (fun N => SxJ code steps ac cc gr nr cr ga na ca ta nt ct Br Ba w.heap.size (w.heap.size + 1) n r0 a0 t0 w N a' wr) := ⟨_, rfl⟩
    have hs := (leastOf_spec hJ).1
    rw [← hN0] at hs
    obtain ⟨pre, rest, p, m, k, st, hdf, hsz, f1, f2, f3, f6, f7, f8, hrN, hp, hk, hk8, hch, hst, hd, hd5, hL, hbs, hown, howA, hT⟩ := hs
    obtain ⟨tm, df⟩ := a'
    simp only at hdf hsz f1 f2 f3 f6 f7 f8
    obtain ⟨u, rfl⟩ := frame63 hsz f1 f2 f3 f6 f7 f8
    subst hdf
    clear hsz f1 f2 f3 f6 f7 f8
    have HN0 := hide hN0
    have HKK := hide hk
    have HST := hide hst
    have HD := hide hd
    have HCH := hide hch
    have hzT := hT.size
    have hXr : At wr ac code := hc.turned hT (fun hne q hq e => by
      have h1 := HCB.out hne q e
      simp at hq; exact hq.elim h1.1 h1.2)
    have hTr : At wr ta t0 := ht.turned hT (fun _ q hq e => by
      have h1 := HNE.out q e
      simp at hq; exact hq.elim h1.1 h1.2)
    have hbsl := hbs.lt
    have hLl := hL.lt
    clear hN0 hk hst hd hch hJ
    cases rest with
    | nil =>
      have e := HCH.out
      change (p, st) = (-1, []) at e
      injection e with e1 e2
      subst e1
      have hU : (wrs (pre.map (·.op))).reverse = U := by rw [← List.reverse_reverse U, ← HOPS.out, HST.out]; simp
      have HUU := hide hU
      clear e2 hU
      go_wp2
      simp only [Exit.jump]
      try rw [Exit.noGoto_ret]
      refine bodyPost_ret (results_none rfl _ _ _) rfl ⟨rfl, ?_, ?_, hT⟩
      · rw [HUU.out, HN.out, bkR_all] at hown
        exact hown
      · rw [HUU.out, HN.out, bkR_all] at howA
        exact howA
    | cons x rest =>
      obtain ⟨e1, e2, e3⟩ := HCH.out
      injection e1 with e1a e1b
      subst e1a e1b
      have hplt : x.at' < code.length := (List.getElem?_eq_some_iff.1 e2).1
      have bp : decide ((x.at' : Int) < 0) = false := by simp
      have hpU : wrs (pre.map (·.op)) ++ wrs ((x :: rest).map (·.op)) = U.reverse := by rw [← wrs_append, ← List.map_append, ← HST.out, HOPS.out]
      have hmem : x ∈ steps := by rw [HST.out]; simp
      obtain ⟨t1, t2, t3, t4, t5, t6, t7⟩ := HTK.out x hmem
      obtain ⟨b1, off1, hac, x0, x1, x2, x3, x4, x5⟩ := hXr.getIns (Below.refl _ _) e2
      subst hac
      simp only at x0 x1 x2 x3 x4 x5
      have KEEP : Hid (∀ W3, Turned [w.heap.size + 1] wr W3 → Blk W3 w.heap.size 121 #[.slice (some ⟨gr, 0, none⟩) nr cr, .slice (some ⟨ga, 0, none⟩) na ca, .slice ta nt ct] ∧ Own W3 Br 50 (some ⟨gr, 0, none⟩) cr (bkR n t0 r0 a0 (wrs (pre.map (·.op))).reverse).1 ∧ Own W3 Ba 50 (some ⟨ga, 0, none⟩) ca (bkR n t0 r0 a0 (wrs (pre.map (·.op))).reverse).2 ∧ Turned [gr, ga] w W3) := fun W3 hT3 =>
        ⟨(hT3.block _ hbsl (by simp)).trans hbs, hown.turned hT3 (fun q hq => by simp at hq; simp; omega), howA.turned hT3 (fun q hq => by simp at hq; simp; omega), hT.trans hT3 (fun q hq => by simp at hq; exact .inr (by omega))⟩
      have hmap : (pre ++ [x]).map (·.op) = pre.map (·.op) ++ [x.op] := by simp
      have hst2 : steps = (pre ++ [x]) ++ rest := by rw [HST.out]; simp
      have hsn := wrs_snoc' (pre.map (·.op)) x.op
      rw [← hmap] at hsn
      have HSN := hide hsn
      have HST2 := hide hst2
      have HE3 := hide e3
      have HPX := hide (HPOS.out x hmem)
      have HINX := hide (HIN.out x hmem)
      have HPU := hide hpU
      clear hmap hst2 hsn e2 e3 hmem hpU t5
      rcases kind_cases x.op with ⟨k7, b7, b0⟩ | ⟨k0, b7, b0⟩ | ⟨k7, k0, b7, b0⟩
      · obtain ⟨hst0, hto1, hto2⟩ := t4 k7
        obtain ⟨j, hj⟩ : ∃ j : Nat, x.to = (j : Int) + 2 := ⟨(x.to - 2).toNat, by omega⟩
        rw [hj] at x5
        have hj1 : (j : Int) < code.length := by omega
        obtain ⟨st', last, hst'⟩ : ∃ st' last, x.st = st' ++ [last] := ⟨x.st.dropLast, x.st.getLast hst0, (List.dropLast_concat_getLast hst0).symm⟩
        have hpos := HPX.out k7
        have hk' : k = st'.length + 1 := by rw [HKK.out, hst']; simp
        obtain ⟨k', rfl⟩ : ∃ k', k = k' + 1 := ⟨k - 1, by omega⟩
        have hk2 : k' = st'.length := by omega
        have hgl : x.st.getLast?.getD 0 = last := by rw [hst']; simp
        rw [hgl] at hpos
        have hub := last.toNat_lt
        have hlast : x.st[k']? = some last := by rw [hst', hk2]; simp
        have c0 := hL.cell hlast
        obtain ⟨v0, c0', c1⟩ := hL.room (i := k') (by omega)
        have hsub : ((last.toNat : Int) - 1) = ((last - 1).toNat : Int) := by rw [UInt64.toNat_sub]; simp; omega
        have hL1 : LeftAt wr (w.heap.size + 1) (st' ++ [last]) := by rw [← hst']; exact hL
        have hL3 := hL1.turn (by omega) (last - 1)
        rw [← hsub, ← hk2] at hL3
        have HL3 := hide hL3
        have hws : wrs ((pre ++ [x]).map (·.op)) = wrs (pre.map (·.op)) := by rw [HSN.out, if_neg (fun h => h.1 k7)]
        have HWS := hide hws
        have HK2 := hide hk2
        have HS' := hide hst'
        have hkk8 : (k' : Int) < 8 := by omega
        clear c0' hL1 hL3
        by_cases hq : 1 < last.toNat
        · have hnx : x.back code = ((j : Int), st' ++ [last - 1]) := by unfold Tk.back; rw [if_neg (by omega), if_pos k7, hgl, if_pos hq, hst', hj]; simp
          have hch2 := HE3.out
          rw [hnx] at hch2
          have HCH2 := hide hch2
          have hdq : decide (0 < (last.toNat : Int) - 1) = true := by simp; omega
          clear hnx hch2 k7 t3 t4 hlast hgl hsub hst0 hst' hk2 hk' HPX hws hj hto1 hto2
          go_wp2
          go_step3
          refine ⟨rfl, ?_⟩
          suffices hnew : SxJ code steps (some ⟨b1, off1, none⟩) cc gr nr cr ga na ca ta nt ct Br Ba w.heap.size (w.heap.size + 1) n r0 a0 t0 w rest.length _ _ from ⟨⟨_, hnew⟩, TxJ.measure (J := SxJ code steps (some ⟨b1, off1, none⟩) cc gr nr cr ga na ca ta nt ct Br Ba w.heap.size (w.heap.size + 1) n r0 a0 t0 w) (by have := HN0.out; rw [← this, ← hrN]; rfl) hnew⟩
          refine ⟨pre ++ [x], rest, (j : Int), m, k' + 1, st' ++ [last - 1], rfl, rfl, rfl, rfl, rfl, rfl, rfl, congrArg (Value.int .i64) (by omega), rfl, by omega, by rw [List.length_append, ← HK2.out]; rfl, by omega, HCH2.out, HST2.out, by rw [HWS.out]; exact HD.out, hd5,
            HL3.out.turned (Turned.ofBelow (F := []) (below_new12 _ _)) (by simp), ?_⟩
          rw [HWS.out]
          exact KEEP.out _ ((Turned.ofGrown (F := [w.heap.size + 1]) (grown_setCell _ _ _ _) (fun q hq => .inl (by injection hq with hq; simp [hq]))).trans (Turned.ofBelow (F := []) (below_new12 _ _)) (fun q hq => by cases hq))
        · have hnx : x.back code = ((x.at' : Int) - 1, st') := by unfold Tk.back; rw [if_neg (by omega), if_pos k7, hgl, if_neg hq, hst']; simp
          have hch2 := HE3.out
          rw [hnx] at hch2
          have HCH2 := hide hch2
          have hdq : decide (0 < (last.toNat : Int) - 1) = false := by simp; omega
          clear hnx hch2 k7 t3 t4 hlast hgl hsub hst0 hst' hk2 hk' HPX hws hj hto1 hto2
          go_wp2
          go_step3
          refine ⟨rfl, ?_⟩
          suffices hnew : SxJ code steps (some ⟨b1, off1, none⟩) cc gr nr cr ga na ca ta nt ct Br Ba w.heap.size (w.heap.size + 1) n r0 a0 t0 w rest.length _ _ from ⟨⟨_, hnew⟩, TxJ.measure (J := SxJ code steps (some ⟨b1, off1, none⟩) cc gr nr cr ga na ca ta nt ct Br Ba w.heap.size (w.heap.size + 1) n r0 a0 t0 w) (by have := HN0.out; rw [← this, ← hrN]; rfl) hnew⟩
          refine ⟨pre ++ [x], rest, (x.at' : Int) - 1, m, k', st', rfl, rfl, rfl, rfl, rfl, rfl, rfl, rfl, rfl, by omega, HK2.out, by omega, HCH2.out, HST2.out, by rw [HWS.out]; exact HD.out, hd5,
            (HL3.out.pop).turned (Turned.ofBelow (F := []) (below_new12 _ _)) (by simp), ?_⟩
          rw [HWS.out]
          exact KEEP.out _ ((Turned.ofGrown (F := [w.heap.size + 1]) (grown_setCell _ _ _ _) (fun q hq => .inl (by injection hq with hq; simp [hq]))).trans (Turned.ofBelow (F := []) (below_new12 _ _)) (fun q hq => by cases hq))
      · obtain ⟨hk0, hto1, hto2⟩ := t3 k0
        obtain ⟨j, hj⟩ : ∃ j : Nat, x.to = (j : Int) + 1 := ⟨(x.to - 1).toNat, by omega⟩
        rw [hj] at x5
        have hj1 : j < code.length := by omega
        obtain ⟨oj, hoj⟩ : ∃ oj, code[j]? = some oj := ⟨_, List.getElem?_eq_getElem hj1⟩
        obtain ⟨b2, off2, hac2, y0, y1, y2, y3, y4, y5⟩ := hXr.getIns (Below.refl _ _) hoj
        injection hac2 with hac2
        injection hac2 with ea eb _
        subst ea eb
        have hvc : vC code (x.to - 1) = oj.1.v := by unfold vC; rw [hj, show ((j : Int) + 1 - 1).toNat = j by omega, hoj]; rfl
        have hnx : x.back code = ((x.at' : Int) - 1, x.st ++ [oj.1.v]) := by unfold Tk.back; rw [if_pos k0, hvc]
        have hch2 := HE3.out
        rw [hnx] at hch2
        have HCH2 := hide hch2
        rw [← HKK.out] at hk0
        have hws : wrs ((pre ++ [x]).map (·.op)) = wrs (pre.map (·.op)) := by rw [HSN.out, if_neg (fun h => h.2 k0)]
        have HWS := hide hws
        obtain ⟨v0, c0, c1⟩ := hL.room (i := k) (by omega)
        have hL3 := hL.push (by have := HKK.out; omega) oj.1.v
        rw [← HKK.out] at hL3
        have HL3 := hide hL3
        clear hL3
        clear hnx hch2 k0 t3 t4 hws hvc hj hto1 hto2 hoj y0 y1 y2 y3 y5
        have hb1l := World.block_lt_of_cell? _ _ y4
        have y6 : (wr.alloc (.cells #[.int .i64 x.op.kind, .int .i64 x.op.d, .int .i64 x.op.a, .int .i64 x.op.b, .int .u64 (x.op.v.toNat : Int), .int .i64 ((j : Int) + 1)] 117)).cell? ⟨b1, off1 + j * 6 + 4, none⟩ = some (.int .u64 (oj.1.v.toNat : Int)) := (World.cell?_of_block ((below_new12 _ _).block b1 hb1l)).trans y4
        clear y4
        go_wp2
        go_step3
        refine ⟨rfl, ?_⟩
        suffices hnew : SxJ code steps (some ⟨b1, off1, none⟩) cc gr nr cr ga na ca ta nt ct Br Ba w.heap.size (w.heap.size + 1) n r0 a0 t0 w rest.length _ _ from ⟨⟨_, hnew⟩, TxJ.measure (J := SxJ code steps (some ⟨b1, off1, none⟩) cc gr nr cr ga na ca ta nt ct Br Ba w.heap.size (w.heap.size + 1) n r0 a0 t0 w) (by have := HN0.out; rw [← this, ← hrN]; rfl) hnew⟩
        refine ⟨pre ++ [x], rest, (x.at' : Int) - 1, m, k + 1, x.st ++ [oj.1.v], rfl, rfl, rfl, rfl, rfl, rfl, rfl, rfl, rfl, by omega, by rw [List.length_append, ← HKK.out]; rfl, by omega, HCH2.out, HST2.out, by rw [HWS.out]; exact HD.out, hd5,
          HL3.out.turned (Turned.ofBelow (F := []) (below_new12 _ _)) (by simp), ?_⟩
        rw [HWS.out]
        exact KEEP.out _ ((Turned.ofGrown (F := [w.heap.size + 1]) (grown_setCell _ _ _ _) (fun q hq => .inl (by injection hq with hq; simp [hq]))).trans (Turned.ofBelow (F := []) (below_new12 _ _)) (fun q hq => by cases hq))
      · have hkk1 : 1 ≤ x.op.kind := by omega
        have hkk2 : x.op.kind ≤ 6 := by omega
        have hinr := HINX.out hkk1 hkk2
        have HRL2 := HRL.out
        have HAL2 := HAL.out
        have hlr : (bkR n t0 r0 a0 (wrs (pre.map (·.op))).reverse).1.length = nr := by rw [bkR_len1, HNR.out]
        have hla : (bkR n t0 r0 a0 (wrs (pre.map (·.op))).reverse).2.length = na := by rw [bkR_len2, HNA.out]
        rw [← HNR.out] at HRL2
        rw [← HNA.out] at HAL2
        have hdU : (wrs (pre.map (·.op))).length < U.length := by
          rw [show U.length = U.reverse.length from List.length_reverse.symm, ← HPU.out, List.length_append, List.map_cons]
          unfold wrs
          rw [List.filter_cons, if_pos (by simp [k7, k0])]
          simp
        obtain ⟨m', rfl⟩ : ∃ m', m = m' + 1 := ⟨m - 1, by have := HD.out; have := HN.out; omega⟩
        have hmt : m' < nt := by have := HD.out; have := HN.out; have := HTL.out; have := HNT.out; omega
        obtain ⟨v, hv⟩ : ∃ v, t0[m']? = some v := ⟨t0[m']'(by have := HNT.out; omega), List.getElem?_eq_getElem _⟩
        have hstep : bkR n t0 r0 a0 (wrs ((pre ++ [x]).map (·.op))).reverse = ((bkR n t0 r0 a0 (wrs (pre.map (·.op))).reverse).1.set x.op.d.toNat v, takeA x.op ((bkR n t0 r0 a0 (wrs (pre.map (·.op))).reverse).1.set x.op.d.toNat v) (bkR n t0 r0 a0 (wrs (pre.map (·.op))).reverse).2) := by
          rw [HSN.out, if_pos ⟨k7, k0⟩, List.reverse_append, List.reverse_singleton, List.singleton_append]
          exact bkR_cons (by rw [List.length_reverse]; have := HD.out; omega) (by rw [List.length_reverse, show n - (wrs (pre.map (·.op))).length - 1 = m' by have := HD.out; omega]; exact hv)
        have HSTP := hide hstep
        have HMM : Hid (m' + (wrs ((pre ++ [x]).map (·.op))).length = n) := by show _ = _; rw [HSN.out, if_pos ⟨k7, k0⟩, List.length_append]; have := HD.out; simp; omega
        have hT02 : Turned [] wr (wr.alloc (.cells #[.int .i64 x.op.kind, .int .i64 x.op.d, .int .i64 x.op.a, .int .i64 x.op.b, .int .u64 (x.op.v.toNat : Int), .int .i64 x.to] 117)) := Turned.ofBelow (F := []) (below_new12 _ _)
        have hown2 := hown.turned hT02 (fun q hq => by simp)
        have howA2 := howA.turned hT02 (fun q hq => by simp)
        have hbs2 : Blk _ _ _ _ := (hT02.block _ hbsl (by simp)).trans hbs
        have hL2 := hL.turned hT02 (by simp)
        have hT2 : Turned [gr, ga] w _ := hT.trans hT02 (fun q hq => by cases hq)
        have hTr2 : At (wr.alloc (.cells #[.int .i64 x.op.kind, .int .i64 x.op.d, .int .i64 x.op.a, .int .i64 x.op.b, .int .u64 (x.op.v.toNat : Int), .int .i64 x.to] 117)) ta t0 := hTr.turned hT02 (fun _ q hq => by cases hq)
        have HTK2 : Hid (∀ W, Own W Br 50 (some ⟨gr, 0, none⟩) cr (bkR n t0 r0 a0 (wrs (pre.map (·.op))).reverse).1 → Own W Ba 50 (some ⟨ga, 0, none⟩) ca (bkR n t0 r0 a0 (wrs (pre.map (·.op))).reverse).2 → At W ta t0 → Calls Tryz.prog 86 #[.agg #[.slice (some ⟨gr, 0, none⟩) nr cr, .slice (some ⟨ga, 0, none⟩) na ca, .slice ta nt ct], .agg #[.int .i64 x.op.kind, .int .i64 x.op.d, .int .i64 x.op.a, .int .i64 x.op.b, .int .u64 (x.op.v.toNat : Int)], .int .i64 (m' : Int)] W fun e w' => e = .returned (.tuple #[]) ∧ Own w' Br 50 (some ⟨gr, 0, none⟩) cr (bkR n t0 r0 a0 (wrs ((pre ++ [x]).map (·.op))).reverse).1 ∧ Own w' Ba 50 (some ⟨ga, 0, none⟩) ca (bkR n t0 r0 a0 (wrs ((pre ++ [x]).map (·.op))).reverse).2 ∧ Turned [gr, ga] W w') := by
          show ∀ W, _
          intro W o1 o2 o3
          rw [HSTP.out]
          exact take_calls regs x.op hinr gr ga nr cr na ca ta nt ct Br Ba _ _ t0 m' v hv HNT.out hlr.symm hla.symm (by rw [hlr]; exact HRL2) (by rw [hla]; exact HAL2) r2 hnt6 W o1 o2 o3 hrga HNE.out
        have hnx : x.back code = ((x.at' : Int) - 1, x.st) := by unfold Tk.back; rw [if_neg k0, if_neg k7]
        have hch2 := HE3.out
        rw [hnx] at hch2
        have HCH2 := hide hch2
        obtain ⟨s0, s1, s2, s3, s4, s5⟩ := hbs2.c3
        clear hlr hla t3 t4 HPX hkk1 hkk2 hnx hch2 hstep hv k7 k0 hinr
        go_wp2_with (go_at_call 86; go_must ((with_reducible refine (HTK2.out _ hown2 howA2 hTr2).mono ?_); rintro e w4 ⟨rfl, hown4, howA4, hT4⟩))
        have hL4 := hL2.turned hT4 (by simp; omega)
        have hbs4 := (hT4.block _ hbs2.lt (by simp; omega)).trans hbs2
        have hTT : Turned [gr, ga] w w4 := hT2.trans hT4 (fun q hq => .inl hq)
        go_step3
        refine ⟨rfl, ?_⟩
        suffices hnew : SxJ code steps (some ⟨b1, off1, none⟩) cc gr nr cr ga na ca ta nt ct Br Ba w.heap.size (w.heap.size + 1) n r0 a0 t0 w rest.length _ _ from ⟨⟨_, hnew⟩, TxJ.measure (J := SxJ code steps (some ⟨b1, off1, none⟩) cc gr nr cr ga na ca ta nt ct Br Ba w.heap.size (w.heap.size + 1) n r0 a0 t0 w) (by have := HN0.out; rw [← this, ← hrN]; rfl) hnew⟩
        exact ⟨pre ++ [x], rest, (x.at' : Int) - 1, m', k, x.st, rfl, rfl, rfl, rfl, rfl, rfl, rfl, rfl, rfl, by omega, HKK.out, by omega, HCH2.out, HST2.out, HMM.out, by omega, hL4, hbs4, hown4, howA4, hTT⟩
end Go.Proofs.YtmmepffdjmpblaaGreat
