/- Chapter 21: the machine that goes back. -/
import Derived.StillTailTactics
import Derived.Test.YtjfpnbnkfcgjcaaT21a
namespace Go.Proofs.Ytjfpnbnkfcgjcaa
set_option linter.unusedVariables false
set_option linter.unusedSimpArgs false
open Go.RowKit

theorem frame70 {t : Array Value} (h : t.size = 70) {s0 s1 s2 s3 s8 s9 s10 : Value} (h0 : t.getD 0 undef = s0) (h1 : t.getD 1 undef = s1) (h2 : t.getD 2 undef = s2) (h3 : t.getD 3 undef = s3) (h8 : t.getD 8 undef = s8) (h9 : t.getD 9 undef = s9) (h10 : t.getD 10 undef = s10) :
    ∃ u : Nat → Value, t = #[s0, s1, s2, s3, u 4, u 5, u 6, u 7, s8, s9, s10, u 11, u 12, u 13, u 14, u 15, u 16, u 17, u 18, u 19, u 20, u 21, u 22, u 23, u 24, u 25, u 26, u 27, u 28, u 29, u 30, u 31, u 32, u 33, u 34, u 35, u 36, u 37, u 38, u 39, u 40, u 41, u 42, u 43, u 44, u 45, u 46, u 47, u 48, u 49, u 50, u 51, u 52, u 53, u 54, u 55, u 56, u 57, u 58, u 59, u 60, u 61, u 62, u 63, u 64, u 65, u 66, u 67, u 68, u 69] :=
  ⟨fun i => t.getD i undef, by subst h0 h1 h2 h3 h8 h9 h10; exact arr_of_size t 70 h⟩
theorem kept_q {P : List OpD} {x : OpD} : (P ++ [x]).reverse = x :: P.reverse := by simp
/-- Where the machine that goes back stands when `N` steps are to come. -/
def UxJ (code : List (OpD × Int)) (steps : List Tk) (ac : Option Addr) (cc gr nr cr : Nat) (ta : Option Addr) (nt ct Br Bl n : Nat) (r0 t0 : List UInt64) (W : World) (N : Nat) (a' : Act) (wr : World) : Prop :=
  ∃ (pre rest : List Tk) (p : Int) (m k : Nat) (st : List UInt64), a'.defers = [] ∧ a'.tmps.size = 70 ∧
    a'.tmps.getD 0 undef = .slice ac code.length cc ∧ a'.tmps.getD 1 undef = .slice (some ⟨gr, 0, none⟩) nr cr ∧ a'.tmps.getD 2 undef = .slice ta nt ct ∧ a'.tmps.getD 3 undef = .int .i64 (m : Int) ∧ a'.tmps.getD 8 undef = .pointer (some ⟨Bl, 0, none⟩) ∧
    a'.tmps.getD 9 undef = .int .i64 p ∧ a'.tmps.getD 10 undef = .int .i64 (k : Int) ∧
    rest.length = N ∧ p < code.length ∧ k = st.length ∧ k ≤ 8 ∧ ChnB code (p, st) rest (-1, []) ∧ steps = pre ++ rest ∧ m + (wrs (pre.map (·.op))).length = n ∧ m ≤ 1200000 ∧
    LeftAt wr Bl st ∧ Own wr Br 37 (some ⟨gr, 0, none⟩) cr (unR n t0 r0 (wrs (pre.map (·.op))).reverse) ∧ Turned [gr] W wr

set_option maxRecDepth 100000 in
set_option maxHeartbeats 6400000 in
theorem undo_calls (regs : Int) (f : Fo) (g : Good regs f) (ac : Option Addr) (cc gr cr : Nat) (ta : Option Addr) (ct Br n : Nat) (r0 t0 : List UInt64) (w : World) (hn : n = f.unroll.length)
    (hc : At w ac (f.bare.code 0)) (hcb : f.bare.code 0 ≠ [] → ∀ q, ac.map (·.block) = some q → q ≠ gr)
    (hr : Own w Br 37 (some ⟨gr, 0, none⟩) cr r0) (hrl : (r0.length : Int) = regs)
    (ht : At w ta t0) (htl : f.unroll.length ≤ t0.length) (hne : ∀ q, ta.map (·.block) = some q → q ≠ gr) :
    Calls Try.prog 61 #[.slice ac (f.bare.code 0).length cc, .slice (some ⟨gr, 0, none⟩) r0.length cr, .slice ta t0.length ct, .int .i64 (n : Int)] w fun e w' => e = .returned (.tuple #[]) ∧ Own w' Br 37 (some ⟨gr, 0, none⟩) cr (undoR f.unroll t0 r0) ∧ Turned [gr] w w' := by
  have hlen := g.code_length
  have HTK := hide g.tkB
  have HPOS := hide g.tkB_pos
  have hchn := hide g.chnB
  have HIN := hide g.tkB_in
  have HOPS := hide g.stepsB_ops
  have hul : f.unroll.length ≤ 65536 := by rw [Fo.unroll_length]; exact g.few
  obtain ⟨r1, r2⟩ : 1 ≤ regs ∧ regs ≤ 64 := ⟨g.r1, g.r2⟩
  generalize f.bare.code 0 = code at *
  generalize f.stepsB = steps at *
  generalize f.unroll = U at *
  have HCB := hide hcb
  have HRL := hide hrl
  have hgr := (hr.blk gr rfl)
  obtain ⟨nr, hnr⟩ : ∃ nr, nr = r0.length := ⟨_, rfl⟩
  have hnr64 : nr ≤ 64 := by omega
  have HNR := hide hnr
  rw [← hnr]
  obtain ⟨nt, hnt⟩ : ∃ nt, nt = t0.length := ⟨_, rfl⟩
  have HNT := hide hnt
  rw [← hnt]
  have HTL := hide htl
  have HNE := hide hne
  have HN := hide hn
  have hn6 : n ≤ 65536 := by omega
  clear hcb hrl g hnr hnt htl hne hn
  go_enter Try.func61, Try.ntmps61
  go_wp2
  refine wp_scope_at 0 (fun a' wr => ∃ N, UxJ code steps ac cc gr nr cr ta nt ct Br w.heap.size n r0 t0 w N a' wr) (fun a' wr => leastOf fun N => UxJ code steps ac cc gr nr cr ta nt ct Br w.heap.size n r0 t0 w N a' wr) rfl ?_ ?_
  · go_wp2
    exact ⟨steps.length, [], steps, (code.length : Int) - 1, n, 0, [], rfl, rfl, rfl, rfl, rfl, rfl, rfl, rfl, rfl, rfl, by omega, rfl, by omega, hchn.out, rfl, rfl, by omega,
      ⟨_, Blk.new w _ _, rfl, fun i v h => by simp at h⟩, hr.alloc _, Turned.ofBelow (Below.alloc (Below.refl _ _) (Nat.le_refl _) _)⟩
  · intro a' wr hJ
    obtain ⟨N0, hN0⟩ : ∃ N0, N0 = leastOf (fun N => UxJ code steps ac cc gr nr cr ta nt ct Br w.heap.size n r0 t0 w N a' wr) := ⟨_, rfl⟩
    have hs := (leastOf_spec hJ).1
    rw [← hN0] at hs
    obtain ⟨pre, rest, p, m, k, st, hdf, hsz, f0, f1, f2, f3, f8, f9, f10, hrN, hp, hk, hk8, hch, hst, hd, hd5, hL, hown, hT⟩ := hs
    obtain ⟨tm, df⟩ := a'
    simp only at hdf hsz f0 f1 f2 f3 f8 f9 f10
    obtain ⟨u, rfl⟩ := frame70 hsz f0 f1 f2 f3 f8 f9 f10
    subst hdf
    clear hsz f0 f1 f2 f3 f8 f9 f10
    have HN0 := hide hN0
    have HKK := hide hk
    have HST := hide hst
    have HD := hide hd
    have HCH := hide hch
    have hzT := hT.size
    have hXr : At wr ac code := hc.turned hT (fun hne q hq e => by
      have h1 := HCB.out hne q e
      simp at hq; exact h1 hq)
    have hTr : At wr ta t0 := ht.turned hT (fun _ q hq e => by
      have h1 := HNE.out q e
      simp at hq; exact h1 hq)
    have hLl := hL.lt
    clear hN0 hk hst hd hch hJ
    cases rest with
    | nil =>
      have e := HCH.out
      change (p, st) = (-1, []) at e
      injection e with e1 e2
      subst e1
      have hU : (wrs (pre.map (·.op))).reverse = U := by rw [← List.reverse_reverse U, ← HOPS.out, HST.out]; simp
      have HUU := hide hU
      clear e2 hU
      go_wp2
      simp only [Exit.jump]
      try rw [Exit.noGoto_ret]
      refine bodyPost_ret (results_none rfl _ _ _) rfl ⟨rfl, ?_, hT⟩
      rw [HUU.out, HN.out, unR_all] at hown
      exact hown
    | cons x rest =>
      obtain ⟨e1, e2, e3⟩ := HCH.out
      injection e1 with e1a e1b
      subst e1a e1b
      have hplt : x.at' < code.length := (List.getElem?_eq_some_iff.1 e2).1
      have bp : decide ((x.at' : Int) < 0) = false := by simp
      have hpU : wrs (pre.map (·.op)) ++ wrs ((x :: rest).map (·.op)) = U.reverse := by rw [← wrs_append, ← List.map_append, ← HST.out, HOPS.out]
      have hmem : x ∈ steps := by rw [HST.out]; simp
      obtain ⟨t1, t2, t3, t4, t5, t6, t7⟩ := HTK.out x hmem
      obtain ⟨b1, off1, hac, x0, x1, x2, x3, x4, x5⟩ := hXr.getIns (Below.refl _ _) e2
      subst hac
      simp only at x0 x1 x2 x3 x4 x5
      have KEEP : Hid (∀ W3, Turned [w.heap.size] wr W3 → Own W3 Br 37 (some ⟨gr, 0, none⟩) cr (unR n t0 r0 (wrs (pre.map (·.op))).reverse) ∧ Turned [gr] w W3) := fun W3 hT3 =>
        ⟨hown.turned hT3 (fun q hq => by simp at hq; simp; omega), hT.trans hT3 (fun q hq => by simp at hq; exact .inr (by omega))⟩
      have hmap : (pre ++ [x]).map (·.op) = pre.map (·.op) ++ [x.op] := by simp
      have hst2 : steps = (pre ++ [x]) ++ rest := by rw [HST.out]; simp
      have hsn := wrs_snoc' (pre.map (·.op)) x.op
      rw [← hmap] at hsn
      have HSN := hide hsn
      have HST2 := hide hst2
      have HE3 := hide e3
      have HPX := hide (HPOS.out x hmem)
      have HINX := hide (HIN.out x hmem)
      have HPU := hide hpU
      clear hmap hst2 hsn e2 e3 hmem hpU t5
      rcases kind_cases x.op with ⟨k7, b7, b0⟩ | ⟨k0, b7, b0⟩ | ⟨k7, k0, b7, b0⟩
      · obtain ⟨hst0, hto1, hto2⟩ := t4 k7
        obtain ⟨j, hj⟩ : ∃ j : Nat, x.to = (j : Int) + 2 := ⟨(x.to - 2).toNat, by omega⟩
        rw [hj] at x5
        have hj1 : (j : Int) < code.length := by omega
        obtain ⟨st', last, hst'⟩ : ∃ st' last, x.st = st' ++ [last] := ⟨x.st.dropLast, x.st.getLast hst0, (List.dropLast_concat_getLast hst0).symm⟩
        have hpos := HPX.out k7
        have hk' : k = st'.length + 1 := by rw [HKK.out, hst']; simp
        obtain ⟨k', rfl⟩ : ∃ k', k = k' + 1 := ⟨k - 1, by omega⟩
        have hk2 : k' = st'.length := by omega
        have hgl : x.st.getLast?.getD 0 = last := by rw [hst']; simp
        rw [hgl] at hpos
        have hub := last.toNat_lt
        have hlast : x.st[k']? = some last := by rw [hst', hk2]; simp
        have c0 := hL.cell hlast
        obtain ⟨v0, c0', c1⟩ := hL.room (i := k') (by omega)
        have hsub : ((last.toNat : Int) - 1) = ((last - 1).toNat : Int) := by rw [UInt64.toNat_sub]; simp; omega
        have hL1 : LeftAt wr w.heap.size (st' ++ [last]) := by rw [← hst']; exact hL
        have hL3 := hL1.turn (by omega) (last - 1)
        rw [← hsub, ← hk2] at hL3
        have HL3 := hide hL3
        have hws : wrs ((pre ++ [x]).map (·.op)) = wrs (pre.map (·.op)) := by rw [HSN.out, if_neg (fun h => h.1 k7)]
        have HWS := hide hws
        have HK2 := hide hk2
        have HS' := hide hst'
        have hkk8 : (k' : Int) < 8 := by omega
        clear c0' hL1 hL3
        by_cases hq : 1 < last.toNat
        · have hnx : x.back code = ((j : Int), st' ++ [last - 1]) := by unfold Tk.back; rw [if_neg (by omega), if_pos k7, hgl, if_pos hq, hst', hj]; simp
          have hch2 := HE3.out
          rw [hnx] at hch2
          have HCH2 := hide hch2
          have hdq : decide (0 < (last.toNat : Int) - 1) = true := by simp; omega
          clear hnx hch2 k7 t3 t4 hlast hgl hsub hst0 hst' hk2 hk' HPX hws hj hto1 hto2
          go_wp2
          go_step3
          refine ⟨rfl, ?_⟩
          suffices hnew : UxJ code steps (some ⟨b1, off1, none⟩) cc gr nr cr ta nt ct Br w.heap.size n r0 t0 w rest.length _ _ from ⟨⟨_, hnew⟩, TxJ.measure (J := UxJ code steps (some ⟨b1, off1, none⟩) cc gr nr cr ta nt ct Br w.heap.size n r0 t0 w) (by have := HN0.out; rw [← this, ← hrN]; rfl) hnew⟩
          refine ⟨pre ++ [x], rest, (j : Int), m, k' + 1, st' ++ [last - 1], rfl, rfl, rfl, rfl, rfl, rfl, rfl, congrArg (Value.int .i64) (by omega), rfl, rfl, by omega, by rw [List.length_append, ← HK2.out]; rfl, by omega, HCH2.out, HST2.out, by rw [HWS.out]; exact HD.out, hd5,
            HL3.out.turned (Turned.ofBelow (F := []) (below2 _ _ _)) (by simp), ?_⟩
          rw [HWS.out]
          exact KEEP.out _ ((Turned.ofGrown (F := [w.heap.size]) (grown_setCell _ _ _ _) (fun q hq => .inl (by injection hq with hq; simp [hq]))).trans (Turned.ofBelow (F := []) (below2 _ _ _)) (fun q hq => by cases hq))
        · have hnx : x.back code = ((x.at' : Int) - 1, st') := by unfold Tk.back; rw [if_neg (by omega), if_pos k7, hgl, if_neg hq, hst']; simp
          have hch2 := HE3.out
          rw [hnx] at hch2
          have HCH2 := hide hch2
          have hdq : decide (0 < (last.toNat : Int) - 1) = false := by simp; omega
          clear hnx hch2 k7 t3 t4 hlast hgl hsub hst0 hst' hk2 hk' HPX hws hj hto1 hto2
          go_wp2
          go_step3
          refine ⟨rfl, ?_⟩
          suffices hnew : UxJ code steps (some ⟨b1, off1, none⟩) cc gr nr cr ta nt ct Br w.heap.size n r0 t0 w rest.length _ _ from ⟨⟨_, hnew⟩, TxJ.measure (J := UxJ code steps (some ⟨b1, off1, none⟩) cc gr nr cr ta nt ct Br w.heap.size n r0 t0 w) (by have := HN0.out; rw [← this, ← hrN]; rfl) hnew⟩
          refine ⟨pre ++ [x], rest, (x.at' : Int) - 1, m, k', st', rfl, rfl, rfl, rfl, rfl, rfl, rfl, rfl, rfl, rfl, by omega, HK2.out, by omega, HCH2.out, HST2.out, by rw [HWS.out]; exact HD.out, hd5,
            (HL3.out.pop).turned (Turned.ofBelow (F := []) (below2 _ _ _)) (by simp), ?_⟩
          rw [HWS.out]
          exact KEEP.out _ ((Turned.ofGrown (F := [w.heap.size]) (grown_setCell _ _ _ _) (fun q hq => .inl (by injection hq with hq; simp [hq]))).trans (Turned.ofBelow (F := []) (below2 _ _ _)) (fun q hq => by cases hq))
      · obtain ⟨hk0, hto1, hto2⟩ := t3 k0
        obtain ⟨j, hj⟩ : ∃ j : Nat, x.to = (j : Int) + 1 := ⟨(x.to - 1).toNat, by omega⟩
        rw [hj] at x5
        have hj1 : j < code.length := by omega
        obtain ⟨oj, hoj⟩ : ∃ oj, code[j]? = some oj := ⟨_, List.getElem?_eq_getElem hj1⟩
        obtain ⟨b2, off2, hac2, y0, y1, y2, y3, y4, y5⟩ := hXr.getIns (Below.refl _ _) hoj
        injection hac2 with hac2
        injection hac2 with ea eb _
        subst ea eb
        have hvc : vC code (x.to - 1) = oj.1.v := by unfold vC; rw [hj, show ((j : Int) + 1 - 1).toNat = j by omega, hoj]; rfl
        have hnx : x.back code = ((x.at' : Int) - 1, x.st ++ [oj.1.v]) := by unfold Tk.back; rw [if_pos k0, hvc]
        have hch2 := HE3.out
        rw [hnx] at hch2
        have HCH2 := hide hch2
        rw [← HKK.out] at hk0
        have hws : wrs ((pre ++ [x]).map (·.op)) = wrs (pre.map (·.op)) := by rw [HSN.out, if_neg (fun h => h.2 k0)]
        have HWS := hide hws
        obtain ⟨v0, c0, c1⟩ := hL.room (i := k) (by omega)
        have hL3 := hL.push (by have := HKK.out; omega) oj.1.v
        rw [← HKK.out] at hL3
        have HL3 := hide hL3
        clear hL3
        clear hnx hch2 k0 t3 t4 hws hvc hj hto1 hto2 hoj y0 y1 y2 y3 y5
        have hb1l := World.block_lt_of_cell? _ _ y4
        have y6 : ((wr.alloc (.cells #[.int .i64 x.op.kind, .int .i64 x.op.d, .int .i64 x.op.a, .int .i64 x.op.b, .int .u64 (x.op.v.toNat : Int), .int .i64 ((j : Int) + 1)] 143)).alloc (.cells #[.int .i64 x.op.kind, .int .i64 x.op.d, .int .i64 x.op.a, .int .i64 x.op.b, .int .u64 (x.op.v.toNat : Int)] 59)).cell? ⟨b1, off1 + j * 6 + 4, none⟩ = some (.int .u64 (oj.1.v.toNat : Int)) := (World.cell?_of_block ((below2 _ _ _).block b1 hb1l)).trans y4
        clear y4
        go_wp2
        go_step3
        refine ⟨rfl, ?_⟩
        suffices hnew : UxJ code steps (some ⟨b1, off1, none⟩) cc gr nr cr ta nt ct Br w.heap.size n r0 t0 w rest.length _ _ from ⟨⟨_, hnew⟩, TxJ.measure (J := UxJ code steps (some ⟨b1, off1, none⟩) cc gr nr cr ta nt ct Br w.heap.size n r0 t0 w) (by have := HN0.out; rw [← this, ← hrN]; rfl) hnew⟩
        refine ⟨pre ++ [x], rest, (x.at' : Int) - 1, m, k + 1, x.st ++ [oj.1.v], rfl, rfl, rfl, rfl, rfl, rfl, rfl, rfl, rfl, rfl, by omega, by rw [List.length_append, ← HKK.out]; rfl, by omega, HCH2.out, HST2.out, by rw [HWS.out]; exact HD.out, hd5,
          HL3.out.turned (Turned.ofBelow (F := []) (below2 _ _ _)) (by simp), ?_⟩
        rw [HWS.out]
        exact KEEP.out _ ((Turned.ofGrown (F := [w.heap.size]) (grown_setCell _ _ _ _) (fun q hq => .inl (by injection hq with hq; simp [hq]))).trans (Turned.ofBelow (F := []) (below2 _ _ _)) (fun q hq => by cases hq))
      · have hkk1 : 1 ≤ x.op.kind := by omega
        have hkk2 : x.op.kind ≤ 6 := by omega
        obtain ⟨⟨d1, d2⟩, _, _⟩ := HINX.out hkk1 hkk2
        have hlr : (unR n t0 r0 (wrs (pre.map (·.op))).reverse).length = nr := by rw [unR_length, HNR.out]
        have HRL2 := HRL.out
        rw [← HNR.out] at HRL2
        have hDn : x.op.d.toNat < nr := by omega
        have d3 : x.op.d < (nr : Int) := by omega
        have hdU : (wrs (pre.map (·.op))).length < U.length := by
          rw [show U.length = U.reverse.length from List.length_reverse.symm, ← HPU.out, List.length_append, List.map_cons]
          unfold wrs
          rw [List.filter_cons, if_pos (by simp [k7, k0])]
          simp
        obtain ⟨m', rfl⟩ : ∃ m', m = m' + 1 := ⟨m - 1, by have := HD.out; have := HN.out; omega⟩
        have hmt : m' < nt := by have := HD.out; have := HN.out; have := HTL.out; have := HNT.out; omega
        obtain ⟨v, hv⟩ : ∃ v, t0[m']? = some v := ⟨t0[m']'(by have := HNT.out; omega), List.getElem?_eq_getElem _⟩
        obtain ⟨bt, ot, hta, hct⟩ := hTr m' v hv
        replace hct := hct 0 _ rfl
        simp only [Flat.n, Nat.mul_one, Nat.add_zero] at hct
        have hbt := World.block_lt_of_cell? _ _ hct
        have hgg : bt ≠ gr := HNE.out bt (by rw [hta]; rfl)
        have hstep : (unR n t0 r0 (wrs (pre.map (·.op))).reverse).set x.op.d.toNat v = unR n t0 r0 (wrs ((pre ++ [x]).map (·.op))).reverse := by
          rw [HSN.out, if_pos ⟨k7, k0⟩, List.reverse_append]
          exact (unR_cons (by rw [List.length_reverse]; have := HD.out; omega) (by rw [List.length_reverse, show n - (wrs (pre.map (·.op))).length - 1 = m' by have := HD.out; omega]; exact hv)).symm
        have HSTP := hide hstep
        have HMM : Hid (m' + (wrs ((pre ++ [x]).map (·.op))).length = n) := by show _ = _; rw [HSN.out, if_pos ⟨k7, k0⟩, List.length_append]; have := HD.out; simp; omega
        subst hta
        generalize hregs : unR n t0 r0 (wrs (pre.map (·.op))).reverse = R at *
        obtain ⟨vd, hvd⟩ : ∃ vd, R[x.op.d.toNat]? = some vd := ⟨R[x.op.d.toNat]'(by omega), List.getElem?_eq_getElem _⟩
        have hT02 : Turned [] wr ((wr.alloc (.cells #[.int .i64 x.op.kind, .int .i64 x.op.d, .int .i64 x.op.a, .int .i64 x.op.b, .int .u64 (x.op.v.toNat : Int), .int .i64 x.to] 143)).alloc (.cells #[.int .i64 x.op.kind, .int .i64 x.op.d, .int .i64 x.op.a, .int .i64 x.op.b, .int .u64 (x.op.v.toNat : Int)] 59)) := Turned.ofBelow (F := []) (below2 _ _ _)
        have hOb := Blk.new (wr.alloc (.cells #[.int .i64 x.op.kind, .int .i64 x.op.d, .int .i64 x.op.a, .int .i64 x.op.b, .int .u64 (x.op.v.toNat : Int), .int .i64 x.to] 143)) 59 #[.int .i64 x.op.kind, .int .i64 x.op.d, .int .i64 x.op.a, .int .i64 x.op.b, .int .u64 (x.op.v.toNat : Int)]
        simp only [World.size_alloc] at hOb
        have hown2 := hown.turned hT02 (fun q hq => by simp)
        have hct2 : ((wr.alloc (.cells #[.int .i64 x.op.kind, .int .i64 x.op.d, .int .i64 x.op.a, .int .i64 x.op.b, .int .u64 (x.op.v.toNat : Int), .int .i64 x.to] 143)).alloc (.cells #[.int .i64 x.op.kind, .int .i64 x.op.d, .int .i64 x.op.a, .int .i64 x.op.b, .int .u64 (x.op.v.toNat : Int)] 59)).cell? ⟨bt, ot + m', none⟩ = some (.int .u64 (v.toNat : Int)) := (World.cell?_of_block (hT02.block bt hbt (by simp))).trans hct
        have hnx : x.back code = ((x.at' : Int) - 1, x.st) := by unfold Tk.back; rw [if_neg k0, if_neg k7]
        have hch2 := HE3.out
        rw [hnx] at hch2
        have HCH2 := hide hch2
        clear hregs hlr t3 t4 HPX hkk1 hkk2 hnx hch2 hct hstep hv k7 k0
        go_wp2_with fail
        generalize hW2 : (wr.alloc (.cells #[.int .i64 x.op.kind, .int .i64 x.op.d, .int .i64 x.op.a, .int .i64 x.op.b, .int .u64 (x.op.v.toNat : Int), .int .i64 x.to] 143)).alloc (.cells #[.int .i64 x.op.kind, .int .i64 x.op.d, .int .i64 x.op.a, .int .i64 x.op.b, .int .u64 (x.op.v.toNat : Int)] 59) = W2 at *
        obtain ⟨y0, y1, y2, y3, y4, z0, z1, z2, z3, z4⟩ := hOb.c5
        have hz2 : W2.heap.size = wr.heap.size + 2 := by rw [← hW2]; simp
        clear hW2
        have rd2 : W2.cell? ⟨gr, x.op.d.toNat, none⟩ = some (.int .u64 (vd.toNat : Int)) := by simpa [Flat.n] using hown2.cellAt hvd (f := 0) rfl
        have rf2 := hown2.frozen x.op.d.toNat
        go_still_tail 8, (by kernel_rfl)
        change wpList _ _ _ _ _ W2.drew
        go_wp2_with fail
        have hT3 : Turned [gr] W2 (W2.setCell ⟨gr, x.op.d.toNat, none⟩ (.int .u64 (v.toNat : Int))).drew := (Turned.ofGrown (F := [gr]) (grown_setCell _ _ _ _) (fun q hq => .inl (by injection hq with hq; simp [hq]))).drew
        have hown3 : Own (W2.setCell ⟨gr, x.op.d.toNat, none⟩ (.int .u64 (v.toNat : Int))).drew Br 37 (some ⟨gr, 0, none⟩) cr (R.set x.op.d.toNat v) := (hown2.set1 x.op.d.toNat v _ rfl).drew
        rw [HSTP.out] at hown3
        have hL3 := (hL.turned hT02 (by simp)).turned hT3 (by simp; omega)
        have hTT : Turned [gr] w (W2.setCell ⟨gr, x.op.d.toNat, none⟩ (.int .u64 (v.toNat : Int))).drew := (hT.trans hT02 (fun q hq => by cases hq)).trans hT3 (fun q hq => .inl hq)
        go_step3
        refine ⟨rfl, ?_⟩
        suffices hnew : UxJ code steps (some ⟨b1, off1, none⟩) cc gr nr cr (some ⟨bt, ot, none⟩) nt ct Br w.heap.size n r0 t0 w rest.length _ _ from ⟨⟨_, hnew⟩, TxJ.measure (J := UxJ code steps (some ⟨b1, off1, none⟩) cc gr nr cr (some ⟨bt, ot, none⟩) nt ct Br w.heap.size n r0 t0 w) (by have := HN0.out; rw [← this, ← hrN]; rfl) hnew⟩
        exact ⟨pre ++ [x], rest, (x.at' : Int) - 1, m', k, x.st, rfl, rfl, rfl, rfl, rfl, rfl, rfl, rfl, rfl, rfl, by omega, HKK.out, by omega, HCH2.out, HST2.out, HMM.out, by omega, hL3, hown3, hTT⟩
end Go.Proofs.Ytjfpnbnkfcgjcaa
