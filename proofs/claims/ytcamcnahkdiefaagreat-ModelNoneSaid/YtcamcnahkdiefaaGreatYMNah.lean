/- Several texts of mine in one file. -/
import Derived.Test.YtcamcnahkdiefaaGreatYMNaf
import Derived.Test.YtcamcnahkdiefaaGreatYMNag
import Derived.StillTailTactics
import Derived.Deep.DeepMust
import Derived.RegionTactic
import Derived.BigRegion
import Derived.Deep.OwnRows
import Derived.Test.YtcamcnahkdiefaaGreatYMNaa
import Derived.Deep.RegionHeld3
import Derived.Laws.ResultCell
import Derived.Laws.Rows
import Derived.Scope
import Derived.Test.YtcamcnahkdiefaaGreatYMNae
import Derived.Test.YtcamcnahkdiefaaGreatYMNad
/- Chapter 21: the machine that runs and keeps. -/
namespace Go.Proofs.YtcamcnahkdiefaaGreat
set_option linter.unusedVariables false
set_option linter.unusedSimpArgs false
open Go.RowKit

theorem frame79 {t : Array Value} (h : t.size = 79) {s0 s1 s2 s7 s8 s9 s10 : Value} (h0 : t.getD 0 undef = s0) (h1 : t.getD 1 undef = s1) (h2 : t.getD 2 undef = s2) (h7 : t.getD 7 undef = s7) (h8 : t.getD 8 undef = s8) (h9 : t.getD 9 undef = s9) (h10 : t.getD 10 undef = s10) :
    ∃ u : Nat → Value, t = #[s0, s1, s2, u 3, u 4, u 5, u 6, s7, s8, s9, s10, u 11, u 12, u 13, u 14, u 15, u 16, u 17, u 18, u 19, u 20, u 21, u 22, u 23, u 24, u 25, u 26, u 27, u 28, u 29, u 30, u 31, u 32, u 33, u 34, u 35, u 36, u 37, u 38, u 39, u 40, u 41, u 42, u 43, u 44, u 45, u 46, u 47, u 48, u 49, u 50, u 51, u 52, u 53, u 54, u 55, u 56, u 57, u 58, u 59, u 60, u 61, u 62, u 63, u 64, u 65, u 66, u 67, u 68, u 69, u 70, u 71, u 72, u 73, u 74, u 75, u 76, u 77, u 78] :=
  ⟨fun i => t.getD i undef, by subst h0 h1 h2 h7 h8 h9 h10; exact arr_of_size t 79 h⟩
def blkL (a : Option Addr) : List Nat := (a.map (·.block)).toList
theorem blkL_mem {a : Option Addr} {q : Nat} : q ∈ blkL a ↔ a.map (·.block) = some q := by unfold blkL; simp
def TxJ (code : List (OpD × Int)) (steps : List Tk) (ac : Option Addr) (cc gr nr cr : Nat) (ta : Option Addr) (nt ct Br Bt Bl : Nat) (r0 t0 : List UInt64) (W : World) (N : Nat) (a' : Act) (wr : World) : Prop :=
  ∃ (pre rest : List Tk) (p d k : Nat) (st : List UInt64), a'.defers = [] ∧ a'.tmps.size = 79 ∧
    a'.tmps.getD 0 undef = .slice ac code.length cc ∧ a'.tmps.getD 1 undef = .slice (some ⟨gr, 0, none⟩) nr cr ∧ a'.tmps.getD 2 undef = .slice ta nt ct ∧ a'.tmps.getD 7 undef = .pointer (some ⟨Bl, 0, none⟩) ∧
    a'.tmps.getD 8 undef = .int .i64 (p : Int) ∧ a'.tmps.getD 9 undef = .int .i64 (k : Int) ∧ a'.tmps.getD 10 undef = .int .i64 (d : Int) ∧
    rest.length = N ∧ p ≤ code.length ∧ k = st.length ∧ k ≤ 8 ∧ Chn code (p, st) rest (code.length, []) ∧ steps = pre ++ rest ∧ d = (wrs (pre.map (·.op))).length ∧ d ≤ 1200000 ∧
    LeftAt wr Bl st ∧ Own wr Br 50 (some ⟨gr, 0, none⟩) cr (runR (wrs (pre.map (·.op))) r0) ∧ Own wr Bt 50 ta ct (tpR (wrs (pre.map (·.op))) r0 t0) ∧ Turned (gr :: blkL ta) W wr
theorem TxJ.measure {J : Nat → Act → World → Prop} {N : Nat} {a a' : Act} {w w' : World} (hN : N + 1 = leastOf (fun N => J N a w)) (h : J N a' w') : leastOf (fun N => J N a' w') < leastOf (fun N => J N a w) := by
  have := (leastOf_spec (p := fun N => J N a' w') ⟨N, h⟩).2 N h
  omega

set_option maxRecDepth 100000 in
set_option maxHeartbeats 6400000 in
theorem texec_calls (regs : Int) (f : Fo) (g : Good regs f) (ac : Option Addr) (cc gr cr : Nat) (ta : Option Addr) (ct Br Bt : Nat) (r0 t0 : List UInt64) (w : World)
    (hc : At w ac (f.bare.code 0)) (hcb : f.bare.code 0 ≠ [] → ∀ q, ac.map (·.block) = some q → q ≠ gr ∧ ta.map (·.block) ≠ some q)
    (hr : Own w Br 50 (some ⟨gr, 0, none⟩) cr r0) (hrl : (r0.length : Int) = regs)
    (ht : Own w Bt 50 ta ct t0) (htl : f.unroll.length ≤ t0.length) (hne : ta.map (·.block) ≠ some gr) :
    Calls Tryz.prog 158 #[.slice ac (f.bare.code 0).length cc, .slice (some ⟨gr, 0, none⟩) r0.length cr, .slice ta t0.length ct] w fun e w' => e = .returned (.int .i64 (f.unroll.length : Int)) ∧ Own w' Br 50 (some ⟨gr, 0, none⟩) cr (runR f.unroll r0) ∧ Own w' Bt 50 ta ct (tpR f.unroll r0 t0) ∧ Turned (gr :: blkL ta) w w' := by
  have hlen := g.code_length
  have HTK := hide g.tk
  have HPOS := hide g.tk_pos
  have hchn := hide g.chn
  have HIN := hide g.tk_in
  have HOPS := hide g.steps_ops
  have hgl := g.gone_le
  rw [← steps_length] at hgl
  obtain ⟨r1, r2⟩ : 1 ≤ regs ∧ regs ≤ 64 := ⟨g.r1, g.r2⟩
  generalize f.bare.code 0 = code at *
  generalize f.steps = steps at *
  generalize f.unroll = U at *
  have HCB := hide hcb
  have HRL := hide hrl
  have hgr := (hr.blk gr rfl)
  have HTB := hide (show ∀ q, ta.map (·.block) = some q → q < w.heap.size from fun q hq => (ht.blk q hq).2)
  obtain ⟨nr, hnr⟩ : ∃ nr, nr = r0.length := ⟨_, rfl⟩
  have hnr64 : nr ≤ 64 := by omega
  have HNR := hide hnr
  rw [← hnr]
  obtain ⟨nt, hnt⟩ : ∃ nt, nt = t0.length := ⟨_, rfl⟩
  have HNT := hide hnt
  rw [← hnt]
  have HTL := hide htl
  have HNE := hide hne
  clear hcb hrl g hnr hnt htl hne
  go_enter Tryz.func158, Tryz.ntmps158
  go_wp2
  refine wp_scope_at 0 (fun a' wr => ∃ N, TxJ code steps ac cc gr nr cr ta nt ct Br Bt w.heap.size r0 t0 w N a' wr) (fun a' wr => leastOf fun N => TxJ code steps ac cc gr nr cr ta nt ct Br Bt w.heap.size r0 t0 w N a' wr) rfl ?_ ?_
  · go_wp2
    exact ⟨steps.length, [], steps, 0, 0, 0, [], rfl, rfl, rfl, rfl, rfl, rfl, rfl, rfl, rfl, rfl, by omega, rfl, by omega, hchn.out, rfl, rfl, by omega,
      ⟨_, Blk.new w _ _, rfl, fun i v h => by simp at h⟩, hr.alloc _, ht.alloc _, Turned.ofBelow (Below.alloc (Below.refl _ _) (Nat.le_refl _) _)⟩
  · intro a' wr hJ
    obtain ⟨N0, hN0⟩ : ∃ N0, N0 = leastOf (fun N => TxJ code steps ac cc gr nr cr ta nt ct Br Bt w.heap.size r0 t0 w N a' wr) := ⟨_, rfl⟩
    have hs := (leastOf_spec hJ).1
    rw [← hN0] at hs
    obtain ⟨pre, rest, p, d, k, st, hdf, hsz, f0, f1, f2, f7, f8, f9, f10, hrN, hp, hk, hk8, hch, hst, hd, hd5, hL, hown, hownT, hT⟩ := hs
    obtain ⟨tm, df⟩ := a'
    simp only at hdf hsz f0 f1 f2 f7 f8 f9 f10
    obtain ⟨u, rfl⟩ := frame79 hsz f0 f1 f2 f7 f8 f9 f10
    subst hdf
    clear hsz f0 f1 f2 f7 f8 f9 f10
    have HN0 := hide hN0
    have HKK := hide hk
    have HST := hide hst
    have HD := hide hd
    have HCH := hide hch
    have hzT := hT.size
    have hXr : At wr ac code := hc.turned hT (fun hne q hq e => by
      obtain ⟨h1, h2⟩ := HCB.out hne q e
      simp only [List.mem_cons] at hq
      exact hq.elim h1 (fun h => h2 (blkL_mem.1 h)))
    have hLl := hL.lt
    clear hN0 hk hst hd hch hJ
    cases rest with
    | nil =>
      have e := HCH.out
      change (p, st) = (code.length, []) at e
      injection e with e1 e2
      subst e1
      have hU : wrs (pre.map (·.op)) = U := by rw [← HOPS.out, HST.out]; simp
      have hdU : d = U.length := by rw [HD.out, hU]
      have HUU := hide hU
      have HDU := hide hdU
      clear e2 hU hdU
      go_wp2
      simp only [Exit.jump]
      try rw [Exit.noGoto_ret]
      refine bodyPost_ret (results_tmp rfl _ _ _) rfl ⟨?_, ?_⟩
      · rw [← HDU.out]; rfl
      rw [← HUU.out]
      exact ⟨hown, hownT, hT⟩
    | cons x rest =>
      obtain ⟨e1, e2, e3⟩ := HCH.out
      injection e1 with e1a e1b
      subst e1a e1b
      have hplt : x.at' < code.length := (List.getElem?_eq_some_iff.1 e2).1
      have bp : ((x.at' : Int) == (code.length : Int)) = false := by simp; omega
      have hpU : wrs (pre.map (·.op)) ++ wrs ((x :: rest).map (·.op)) = U := by rw [← wrs_append, ← List.map_append, ← HST.out, HOPS.out]
      have hmem : x ∈ steps := by rw [HST.out]; simp
      obtain ⟨t1, t2, t3, t4, t5, t6, t7, t8, t9⟩ := HTK.out x hmem
      obtain ⟨b1, off1, hac, x0, x1, x2, x3, x4, x5⟩ := hXr.getIns (Below.refl _ _) e2
      subst hac
      simp only at x0 x1 x2 x3 x4 x5
      have KEEP : Hid (∀ W3, Turned [w.heap.size] wr W3 → Own W3 Br 50 (some ⟨gr, 0, none⟩) cr (runR (wrs (pre.map (·.op))) r0) ∧ Own W3 Bt 50 ta ct (tpR (wrs (pre.map (·.op))) r0 t0) ∧ Turned (gr :: blkL ta) w W3) := fun W3 hT3 =>
        ⟨hown.turned hT3 (fun q hq => by simp at hq; simp; omega), hownT.turned hT3 (fun q hq => by have := HTB.out q hq; simp; omega), hT.trans hT3 (fun q hq => by simp at hq; exact .inr (by omega))⟩
      have hmap : (pre ++ [x]).map (·.op) = pre.map (·.op) ++ [x.op] := by simp
      have hst2 : steps = (pre ++ [x]) ++ rest := by rw [HST.out]; simp
      have hsn := wrs_snoc' (pre.map (·.op)) x.op
      rw [← hmap] at hsn
      have HSN := hide hsn
      have HST2 := hide hst2
      have HE3 := hide e3
      have HPX := hide (HPOS.out x hmem)
      have HINX := hide (HIN.out x hmem)
      have HPU := hide hpU
      have hrdx : d < 1200000 := by
        have h1 := wrs_length' (pre.map (·.op))
        have h2 : (pre.map (·.op)).length + 1 ≤ steps.length := by rw [HST.out]; simp
        have := HD.out
        omega
      clear hmap hst2 hsn e2 e3 hmem hpU t5
      rcases kind_cases x.op with ⟨k7, b7, b0⟩ | ⟨k0, b7, b0⟩ | ⟨k7, k0, b7, b0⟩
      · have hnx : x.next = (x.at' + 1, x.st ++ [x.op.v]) := by unfold Tk.next; rw [if_pos k7]
        have hch2 := HE3.out
        rw [hnx] at hch2
        have HCH2 := hide hch2
        have hk7 := t3 k7
        rw [← HKK.out] at hk7
        have hws : wrs ((pre ++ [x]).map (·.op)) = wrs (pre.map (·.op)) := by rw [HSN.out, if_neg (fun h => h.1 k7)]
        have HWS := hide hws
        obtain ⟨v0, c0, c1⟩ := hL.room (i := k) (by omega)
        have hL3 := hL.push (by have := HKK.out; omega) x.op.v
        rw [← HKK.out] at hL3
        have HL3 := hide hL3
        clear hL3
        clear hnx hch2 k7 t3 t4 hws
        go_wp2
        go_step3
        refine ⟨rfl, ?_⟩
        suffices hnew : TxJ code steps (some ⟨b1, off1, none⟩) cc gr nr cr ta nt ct Br Bt w.heap.size r0 t0 w rest.length _ _ from ⟨⟨_, hnew⟩, TxJ.measure (J := TxJ code steps (some ⟨b1, off1, none⟩) cc gr nr cr ta nt ct Br Bt w.heap.size r0 t0 w) (by have := HN0.out; rw [← this, ← hrN]; rfl) hnew⟩
        refine ⟨pre ++ [x], rest, x.at' + 1, d, k + 1, x.st ++ [x.op.v], rfl, rfl, rfl, rfl, rfl, rfl, rfl, rfl, rfl, rfl, by omega, by rw [List.length_append, ← HKK.out]; rfl, by omega, HCH2.out, HST2.out, by rw [HWS.out]; exact HD.out, hd5,
          HL3.out.turned (Turned.ofBelow (F := []) (below2 _ _ _)) (by simp), ?_⟩
        rw [HWS.out]
        exact KEEP.out _ ((Turned.ofGrown (F := [w.heap.size]) (grown_setCell _ _ _ _) (fun q hq => .inl (by injection hq with hq; simp [hq]))).trans (Turned.ofBelow (F := []) (below2 _ _ _)) (fun q hq => by cases hq))
      · have hst0 := t4 k0
        obtain ⟨st', last, hst'⟩ : ∃ st' last, x.st = st' ++ [last] := ⟨x.st.dropLast, x.st.getLast hst0, (List.dropLast_concat_getLast hst0).symm⟩
        have hpos := HPX.out k0
        have hk' : k = st'.length + 1 := by rw [HKK.out, hst']; simp
        obtain ⟨k', rfl⟩ : ∃ k', k = k' + 1 := ⟨k - 1, by omega⟩
        have hk2 : k' = st'.length := by omega
        have hgl : x.st.getLast?.getD 0 = last := by rw [hst']; simp
        rw [hgl] at hpos
        have hub := last.toNat_lt
        have hlast : x.st[k']? = some last := by rw [hst', hk2]; simp
        have c0 := hL.cell hlast
        obtain ⟨v0, c0', c1⟩ := hL.room (i := k') (by omega)
        have hsub : ((last.toNat : Int) - 1) = ((last - 1).toNat : Int) := by rw [UInt64.toNat_sub]; simp; omega
        have hL1 : LeftAt wr w.heap.size (st' ++ [last]) := by rw [← hst']; exact hL
        have hL3 := hL1.turn (by omega) (last - 1)
        rw [← hsub, ← hk2] at hL3
        have HL3 := hide hL3
        have hws : wrs ((pre ++ [x]).map (·.op)) = wrs (pre.map (·.op)) := by rw [HSN.out, if_neg (fun h => h.2 k0)]
        have HWS := hide hws
        have HK2 := hide hk2
        have HS' := hide hst'
        have hkk8 : (k' : Int) < 8 := by omega
        clear c0' hL1 hL3
        by_cases hq : 1 < last.toNat
        · have hnx : x.next = (x.to.toNat, st' ++ [last - 1]) := by unfold Tk.next; rw [if_neg (by omega), if_pos k0, hgl, if_pos hq, hst']; simp
          have hch2 := HE3.out
          rw [hnx] at hch2
          have HCH2 := hide hch2
          have hdq : decide (0 < (last.toNat : Int) - 1) = true := by simp; omega
          clear hnx hch2 k0 t3 t4 hlast hgl hsub hst0 hst' hk2 hk' HPX hws
          go_wp2
          go_step3
          refine ⟨rfl, ?_⟩
          suffices hnew : TxJ code steps (some ⟨b1, off1, none⟩) cc gr nr cr ta nt ct Br Bt w.heap.size r0 t0 w rest.length _ _ from ⟨⟨_, hnew⟩, TxJ.measure (J := TxJ code steps (some ⟨b1, off1, none⟩) cc gr nr cr ta nt ct Br Bt w.heap.size r0 t0 w) (by have := HN0.out; rw [← this, ← hrN]; rfl) hnew⟩
          refine ⟨pre ++ [x], rest, x.to.toNat, d, k' + 1, st' ++ [last - 1], rfl, rfl, rfl, rfl, rfl, rfl, congrArg (Value.int .i64) (by omega), rfl, rfl, rfl, by omega, by rw [List.length_append, ← HK2.out]; rfl, by omega, HCH2.out, HST2.out, by rw [HWS.out]; exact HD.out, hd5,
            HL3.out.turned (Turned.ofBelow (F := []) (below2 _ _ _)) (by simp), ?_⟩
          rw [HWS.out]
          exact KEEP.out _ ((Turned.ofGrown (F := [w.heap.size]) (grown_setCell _ _ _ _) (fun q hq => .inl (by injection hq with hq; simp [hq]))).trans (Turned.ofBelow (F := []) (below2 _ _ _)) (fun q hq => by cases hq))
        · have hnx : x.next = (x.at' + 1, st') := by unfold Tk.next; rw [if_neg (by omega), if_pos k0, hgl, if_neg hq, hst']; simp
          have hch2 := HE3.out
          rw [hnx] at hch2
          have HCH2 := hide hch2
          have hdq : decide (0 < (last.toNat : Int) - 1) = false := by simp; omega
          clear hnx hch2 k0 t3 t4 hlast hgl hsub hst0 hst' hk2 hk' HPX hws
          go_wp2
          go_step3
          refine ⟨rfl, ?_⟩
          suffices hnew : TxJ code steps (some ⟨b1, off1, none⟩) cc gr nr cr ta nt ct Br Bt w.heap.size r0 t0 w rest.length _ _ from ⟨⟨_, hnew⟩, TxJ.measure (J := TxJ code steps (some ⟨b1, off1, none⟩) cc gr nr cr ta nt ct Br Bt w.heap.size r0 t0 w) (by have := HN0.out; rw [← this, ← hrN]; rfl) hnew⟩
          refine ⟨pre ++ [x], rest, x.at' + 1, d, k', st', rfl, rfl, rfl, rfl, rfl, rfl, rfl, rfl, rfl, rfl, by omega, HK2.out, by omega, HCH2.out, HST2.out, by rw [HWS.out]; exact HD.out, hd5,
            (HL3.out.pop).turned (Turned.ofBelow (F := []) (below2 _ _ _)) (by simp), ?_⟩
          rw [HWS.out]
          exact KEEP.out _ ((Turned.ofGrown (F := [w.heap.size]) (grown_setCell _ _ _ _) (fun q hq => .inl (by injection hq with hq; simp [hq]))).trans (Turned.ofBelow (F := []) (below2 _ _ _)) (fun q hq => by cases hq))
      · have hkk1 : 1 ≤ x.op.kind := by omega
        have hkk2 : x.op.kind ≤ 6 := by omega
        obtain ⟨⟨d1, d2⟩, ⟨a1, a2⟩, ⟨i1, i2⟩⟩ := HINX.out hkk1 hkk2
        have hlr : (runR (wrs (pre.map (·.op))) r0).length = nr := by rw [runR_length, HNR.out]
        have HLR := hide hlr
        have HRL2 := HRL.out
        rw [← HNR.out] at HRL2
        have hAn : x.op.a.toNat < nr := by omega
        have hEn : x.op.b.toNat < nr := by omega
        have hDn : x.op.d.toNat < nr := by omega
        have a3 : x.op.a < (nr : Int) := by omega
        have i3 : x.op.b < (nr : Int) := by omega
        have d3 : x.op.d < (nr : Int) := by omega
        -- the tape has room
        have hdU : d < U.length := by
          rw [← HPU.out, HD.out, List.length_append, List.map_cons]
          unfold wrs
          rw [List.filter_cons, if_pos (by simp [k7, k0])]
          simp
        have hdt : d < nt := by have := HTL.out; have := HNT.out; omega
        have hlt : (tpR (wrs (pre.map (·.op))) r0 t0).length = nt := by rw [tpR_length _ _ _ (by have := HD.out; have := HNT.out; omega), HNT.out]
        obtain ⟨gt, hta, hgt1, hgt2⟩ := hownT.some_ (by intro e; rw [e] at hlt; simp at hlt; omega)
        subst hta
        have hgg : gt ≠ gr := fun e => HNE.out (by rw [e]; rfl)
        have hstepT : (tpR (wrs (pre.map (·.op))) r0 t0).set d (getR (runR (wrs (pre.map (·.op))) r0) x.op.d) = tpR (wrs ((pre ++ [x]).map (·.op))) r0 t0 := by
          rw [HSN.out, if_pos ⟨k7, k0⟩, tpR_snoc _ _ _ _ (by have := HD.out; have := HNT.out; omega), HD.out]
        have HSTT := hide hstepT
        generalize hregs : runR (wrs (pre.map (·.op))) r0 = R at *
        generalize htape : tpR (wrs (pre.map (·.op))) r0 t0 = Tl at *
        obtain ⟨va, hva⟩ : ∃ va, R[x.op.a.toNat]? = some va := ⟨R[x.op.a.toNat]'(by omega), List.getElem?_eq_getElem _⟩
        obtain ⟨vb, hvb⟩ : ∃ vb, R[x.op.b.toNat]? = some vb := ⟨R[x.op.b.toNat]'(by omega), List.getElem?_eq_getElem _⟩
        obtain ⟨vd, hvd⟩ : ∃ vd, R[x.op.d.toNat]? = some vd := ⟨R[x.op.d.toNat]'(by omega), List.getElem?_eq_getElem _⟩
        obtain ⟨vt, hvt⟩ : ∃ vt, Tl[d]? = some vt := ⟨Tl[d]'(by omega), List.getElem?_eq_getElem _⟩
        have hgd : getR R x.op.d = vd := by unfold getR; rw [hvd]; rfl
        rw [hgd] at hstepT HSTT
        have ra : wr.cell? ⟨gr, x.op.a.toNat, none⟩ = some (.int .u64 (va.toNat : Int)) := by simpa [Flat.n] using hown.cellAt hva (f := 0) rfl
        have rb : wr.cell? ⟨gr, x.op.b.toNat, none⟩ = some (.int .u64 (vb.toNat : Int)) := by simpa [Flat.n] using hown.cellAt hvb (f := 0) rfl
        have rd : wr.cell? ⟨gr, x.op.d.toNat, none⟩ = some (.int .u64 (vd.toNat : Int)) := by simpa [Flat.n] using hown.cellAt hvd (f := 0) rfl
        have rt : wr.cell? ⟨gt, d, none⟩ = some (.int .u64 (vt.toNat : Int)) := by simpa [Flat.n] using hownT.cellAt hvt (f := 0) rfl
        have rf := hown.frozen x.op.d.toNat
        have tf := hownT.frozen d
        have hgl := (hown.blk gr rfl).2
        have HAP := hide (fun w => Apply_calls x.op va vb w)
        have HVA := hide hva
        have HVB := hide hvb
        have HVD := hide hvd
        have HRG := hide hregs
        have hT02 : Turned [gt] wr (((wr.setCell ⟨gt, d, none⟩ (.int .u64 (vd.toNat : Int))).alloc (.cells #[.int .i64 x.op.kind, .int .i64 x.op.d, .int .i64 x.op.a, .int .i64 x.op.b, .int .u64 (x.op.v.toNat : Int), .int .i64 x.to] 176)).alloc (.cells #[.int .i64 x.op.kind, .int .i64 x.op.d, .int .i64 x.op.a, .int .i64 x.op.b, .int .u64 (x.op.v.toNat : Int)] 89)) :=
          (Turned.ofGrown (F := [gt]) (grown_setCell _ _ _ _) (fun q hq => .inl (by injection hq with hq; simp [hq]))).trans (Turned.ofBelow (F := []) (below2 _ _ _)) (fun q hq => by cases hq)
        have hszs : (wr.setCell ⟨gt, d, none⟩ (.int .u64 (vd.toNat : Int))).heap.size = wr.heap.size := by simp [World.setCell]
        have hOb := Blk.new ((wr.setCell ⟨gt, d, none⟩ (.int .u64 (vd.toNat : Int))).alloc (.cells #[.int .i64 x.op.kind, .int .i64 x.op.d, .int .i64 x.op.a, .int .i64 x.op.b, .int .u64 (x.op.v.toNat : Int), .int .i64 x.to] 176)) 89 #[.int .i64 x.op.kind, .int .i64 x.op.d, .int .i64 x.op.a, .int .i64 x.op.b, .int .u64 (x.op.v.toNat : Int)]
        simp only [World.size_alloc, hszs] at hOb
        have hown2 := hown.turned hT02 (fun q hq => by simp at hq; simp; omega)
        have hownT2 := ((hownT.set1 d vd _ rfl).alloc (.cells #[.int .i64 x.op.kind, .int .i64 x.op.d, .int .i64 x.op.a, .int .i64 x.op.b, .int .u64 (x.op.v.toNat : Int), .int .i64 x.to] 176)).alloc (.cells #[.int .i64 x.op.kind, .int .i64 x.op.d, .int .i64 x.op.a, .int .i64 x.op.b, .int .u64 (x.op.v.toNat : Int)] 89)
        rw [hstepT] at hownT2
        clear hva hvb hvd hvt hregs htape hlr hlt t3 t4 HPX hkk1 hkk2 hgd hstepT hszs
        go_wp2_with fail
        generalize hW2 : ((wr.setCell ⟨gt, d, none⟩ (.int .u64 (vd.toNat : Int))).alloc (.cells #[.int .i64 x.op.kind, .int .i64 x.op.d, .int .i64 x.op.a, .int .i64 x.op.b, .int .u64 (x.op.v.toNat : Int), .int .i64 x.to] 176)).alloc (.cells #[.int .i64 x.op.kind, .int .i64 x.op.d, .int .i64 x.op.a, .int .i64 x.op.b, .int .u64 (x.op.v.toNat : Int)] 89) = W2 at *
        obtain ⟨y0, y1, y2, y3, y4, z0, z1, z2, z3, z4⟩ := hOb.c5
        have hz2 : W2.heap.size = wr.heap.size + 2 := by rw [← hW2]; simp [World.setCell]
        have ra2 : W2.cell? ⟨gr, x.op.a.toNat, none⟩ = some (.int .u64 (va.toNat : Int)) := by simpa [Flat.n] using hown2.cellAt HVA.out (f := 0) rfl
        have rb2 : W2.cell? ⟨gr, x.op.b.toNat, none⟩ = some (.int .u64 (vb.toNat : Int)) := by simpa [Flat.n] using hown2.cellAt HVB.out (f := 0) rfl
        have rd2 : W2.cell? ⟨gr, x.op.d.toNat, none⟩ = some (.int .u64 (vd.toNat : Int)) := by simpa [Flat.n] using hown2.cellAt HVD.out (f := 0) rfl
        have rf2 := hown2.frozen x.op.d.toNat
        have hgl2 : gr < W2.heap.size := by omega
        have hol2 : wr.heap.size + 1 < W2.heap.size := by omega
        have hgo : gr ≠ wr.heap.size + 1 := by omega
        clear ra rb rd rf rt tf hW2
        obtain ⟨S', hS'⟩ : ∃ S' : World → Prop, S' = fun w' => (w'.cell? ⟨wr.heap.size + 1, 0, none⟩ = some (.int .i64 x.op.kind) ∧ w'.cell? ⟨wr.heap.size + 1, 1, none⟩ = some (.int .i64 x.op.d) ∧ w'.cell? ⟨wr.heap.size + 1, 2, none⟩ = some (.int .i64 x.op.a) ∧ w'.cell? ⟨wr.heap.size + 1, 3, none⟩ = some (.int .i64 x.op.b) ∧ w'.cell? ⟨wr.heap.size + 1, 4, none⟩ = some (.int .u64 (x.op.v.toNat : Int))) ∧ w'.cell? ⟨gr, x.op.a.toNat, none⟩ = some (.int .u64 (va.toNat : Int)) ∧ w'.cell? ⟨gr, x.op.b.toNat, none⟩ = some (.int .u64 (vb.toNat : Int)) := ⟨_, rfl⟩
        have hSe : ∀ w', S' w' → (w'.cell? ⟨wr.heap.size + 1, 0, none⟩ = some (.int .i64 x.op.kind) ∧ w'.cell? ⟨wr.heap.size + 1, 1, none⟩ = some (.int .i64 x.op.d) ∧ w'.cell? ⟨wr.heap.size + 1, 2, none⟩ = some (.int .i64 x.op.a) ∧ w'.cell? ⟨wr.heap.size + 1, 3, none⟩ = some (.int .i64 x.op.b) ∧ w'.cell? ⟨wr.heap.size + 1, 4, none⟩ = some (.int .u64 (x.op.v.toNat : Int))) ∧ w'.cell? ⟨gr, x.op.a.toNat, none⟩ = some (.int .u64 (va.toNat : Int)) ∧ w'.cell? ⟨gr, x.op.b.toNat, none⟩ = some (.int .u64 (vb.toNat : Int)) := fun w' h => by rw [hS'] at h; exact h
        have HSE := hide hSe
        have HSI : Hid (S' W2.drew) := by show S' W2.drew; rw [hS']; exact ⟨⟨y0, y1, y2, y3, y4⟩, ra2, rb2⟩
        have HSI4 : Hid (∀ w4, Below W2.drew.heap.size W2.drew w4 → S' w4) := by
          show ∀ w4, _ → _
          intro w4 hb4
          obtain ⟨hc4, hf4⟩ := bcell hb4
          rw [hS']
          exact ⟨⟨(hc4 _ 0 hol2).trans y0, (hc4 _ 1 hol2).trans y1, (hc4 _ 2 hol2).trans y2, (hc4 _ 3 hol2).trans y3, (hc4 _ 4 hol2).trans y4⟩, (hc4 _ _ hgl2).trans ra2, (hc4 _ _ hgl2).trans rb2⟩
        clear hSe hS'
        refine wp_region_call 14 S' (by kernel_rfl) (by kernel_rfl) HSI.out ?_
        simp only [List.take_succ_cons, List.take_zero, List.drop_succ_cons, List.drop_zero]
        iterate 14
          apply headK_step (by rfl)
          · intro w' hw'
            obtain ⟨⟨s0, s1, s2, s3, s4⟩, s5, s6⟩ := HSE.out w' hw'
            go_simp
            rfl
          intro a' ha'
          simp only [Act.put, List.setIfInBounds_toArray, List.set_cons_succ, List.set_cons_zero] at ha'
          subst ha'
        refine headK_nil ?_
        intro o ho K0 hK0
        simp only [List.getElem?_cons_succ, List.getElem?_cons_zero, Option.some.injEq] at ho
        subst ho
        have HK0 := hide hK0
        clear hK0
        go_simp
        go_at_call 114
        refine (HAP.out _).mono ?_
        rintro e w4 ⟨rfl, hb4⟩
        refine HK0.out _ _ (HSI4.out w4 hb4) ?_
        obtain ⟨hc4, hf4⟩ := bcell hb4
        have q0 := (hc4 _ 0 hol2).trans y0
        have q1 := (hc4 _ 1 hol2).trans y1
        have q2 := (hc4 _ 2 hol2).trans y2
        have q3 := (hc4 _ 3 hol2).trans y3
        have q4 := (hc4 _ 4 hol2).trans y4
        have qd := (hc4 _ _ hgl2).trans rd2
        have qf := (hf4 _ x.op.d.toNat hgl2).trans rf2
        clear hc4 hf4 HK0
        go_wp2
        refine NoPanic.normal ?_
        have hb4' : Below W2.heap.size W2 w4 := ⟨hb4.os, hb4.tape, hb4.output, hb4.size, hb4.block⟩
        have hTb : Turned [gr, gt] wr w4 := (hT02.mono (fun q hq => .inl (by simp at hq; simp [hq]))).trans (Turned.ofBelow (F := []) hb4') (fun b hb => by cases hb)
        have hT5 : Turned [gr, gt] wr (w4.setCell ⟨gr, x.op.d.toNat, none⟩ (.int .u64 ((applyU x.op va vb).toNat : Int))) := hTb.trans (Turned.ofGrown (F := [gr]) (grown_setCell _ _ _ _) (fun q hq => .inl (by injection hq with hq; simp [hq]))) (fun b hb => .inl (by simp at hb; simp [hb]))
        have hown4 : Own w4 Br 50 (some ⟨gr, 0, none⟩) cr R := hown2.drew.belowN hb4
        have hown5 := hown4.set1 x.op.d.toNat (applyU x.op va vb) _ rfl
        have hownT4 := (hownT2.belowN hb4').turned (Turned.ofGrown (F := [gr]) (grown_setCell w4 gr x.op.d.toNat (.int .u64 ((applyU x.op va vb).toNat : Int))) (fun q hq => .inl (by injection hq with hq; simp [hq]))) (fun q hq => by simp at hq; simp; omega)
        have hstep : R.set x.op.d.toNat (applyU x.op va vb) = runR (wrs ((pre ++ [x]).map (·.op))) r0 := by
          rw [HSN.out, if_pos ⟨k7, k0⟩, runR_append, HRG.out]
          show _ = stepR R x.op
          unfold stepR getR
          rw [HVA.out, HVB.out]
          rfl
        rw [hstep] at hown5
        have hL5 := hL.turned hT5 (by simp; have := HTB.out gt rfl; omega)
        have hnx : x.next = (x.at' + 1, x.st) := by unfold Tk.next; rw [if_neg k7, if_neg k0]
        have hch2 := HE3.out
        rw [hnx] at hch2
        have HCH2 := hide hch2
        have HOWN := hide hown5
        have HOWNT := hide hownT4
        have HD2 : Hid (d + 1 = (wrs ((pre ++ [x]).map (·.op))).length) := by show d + 1 = _; rw [HSN.out, if_pos ⟨k7, k0⟩, List.length_append, ← HD.out]; rfl
        clear hnx hch2 hstep hown5 hown4 k7 k0 HSI4 HSI HSE hOb hown2 hownT2 hownT4
        go_wp2
        have hTT : Turned (gr :: blkL (some ⟨gt, 0, none⟩)) w (w4.setCell ⟨gr, x.op.d.toNat, none⟩ (.int .u64 ((applyU x.op va vb).toNat : Int))) := hT.trans hT5 (fun q hq => .inl (by simp at hq; simp [blkL]; omega))
        go_step3
        refine ⟨rfl, ?_⟩
        suffices hnew : TxJ code steps (some ⟨b1, off1, none⟩) cc gr nr cr (some ⟨gt, 0, none⟩) nt ct Br Bt w.heap.size r0 t0 w rest.length _ _ from ⟨⟨_, hnew⟩, TxJ.measure (J := TxJ code steps (some ⟨b1, off1, none⟩) cc gr nr cr (some ⟨gt, 0, none⟩) nt ct Br Bt w.heap.size r0 t0 w) (by have := HN0.out; rw [← this, ← hrN]; rfl) hnew⟩
        exact ⟨pre ++ [x], rest, x.at' + 1, d + 1, k, x.st, rfl, rfl, rfl, rfl, rfl, rfl, rfl, rfl, rfl, rfl, by omega, HKK.out, by omega, HCH2.out, HST2.out, HD2.out, by omega,
          hL5, HOWN.out, HOWNT.out, hTT⟩
end Go.Proofs.YtcamcnahkdiefaaGreat

/- Chapter 21: ready, Record, Undo. -/
namespace Go.Proofs.YtcamcnahkdiefaaGreat
set_option linter.unusedVariables false
set_option linter.unusedSimpArgs false
open Go.RowKit

theorem Good.sizeW {regs : Int} {f : Fo} (g : Good regs f) : sizeW f.flat = (f.unroll.length : Int) ∧ sizeE f.flat = 0 := by
  obtain ⟨z1, z2, z3, z4⟩ := W9_ok g.ok ⟨g.may, g.few⟩
  exact ⟨by rw [z2, Fo.unroll_length], z1⟩
noncomputable def readyS (regs : Int) (l : List OpD) (rn tn : Nat) : Int := if checkS regs l ≠ 0 then checkS regs l else if (rn : Int) ≠ regs then 10 else if tn < (unrS regs l).length then 15 else 0
theorem ready_good {regs : Int} {l : List OpD} {rn tn : Nat} (h : readyS regs l rn tn = 0) : ∃ f : Fo, l = f.flat ∧ Good regs f ∧ (rn : Int) = regs ∧ f.unroll.length ≤ tn := by
  unfold readyS at h
  by_cases hc : checkS regs l = 0
  · rw [if_neg (by simpa using hc)] at h
    obtain ⟨f, rfl, g⟩ := good_of_check hc
    by_cases hn : (rn : Int) = regs
    · rw [if_neg (by simpa using hn), unrS_good g] at h
      by_cases ht : tn < f.unroll.length
      · rw [if_pos ht] at h; cases h
      · exact ⟨f, rfl, g, hn, by omega⟩
    · rw [if_pos hn] at h; cases h
  · rw [if_pos hc] at h; exact absurd h hc
theorem ready_of_good {regs : Int} {f : Fo} (g : Good regs f) {rn tn : Nat} (hn : (rn : Int) = regs) (ht : f.unroll.length ≤ tn) : readyS regs f.flat rn tn = 0 := by
  unfold readyS
  rw [if_neg (by simpa using g.check), if_neg (by simpa using hn), unrS_good g, if_neg (by omega)]
noncomputable def recR (regs : Int) (l : List OpD) (r t : List UInt64) : List UInt64 := if readyS regs l r.length t.length = 0 then runR (unrS regs l) r else r
noncomputable def recT (regs : Int) (l : List OpD) (r t : List UInt64) : List UInt64 := if readyS regs l r.length t.length = 0 then tpR (unrS regs l) r t else t
noncomputable def recN (regs : Int) (l : List OpD) (rn tn : Nat) : Int := if readyS regs l rn tn = 0 then ((unrS regs l).length : Int) else 0
noncomputable def undS (regs : Int) (l : List OpD) (r t : List UInt64) : List UInt64 := if readyS regs l r.length t.length = 0 then undoR (unrS regs l) t r else r
theorem rec_good {regs : Int} {f : Fo} (g : Good regs f) {r t : List UInt64} (hn : (r.length : Int) = regs) (ht : f.unroll.length ≤ t.length) :
    recR regs f.flat r t = runR f.unroll r ∧ recT regs f.flat r t = tpR f.unroll r t ∧ recN regs f.flat r.length t.length = (f.unroll.length : Int) ∧ undS regs f.flat r t = undoR f.unroll t r := by
  unfold recR recT recN undS
  rw [if_pos (ready_of_good g hn ht), if_pos (ready_of_good g hn ht), if_pos (ready_of_good g hn ht), if_pos (ready_of_good g hn ht), unrS_good g]
  exact ⟨rfl, rfl, rfl, rfl⟩
theorem rec_bad {regs : Int} {l : List OpD} {r t : List UInt64} (h : readyS regs l r.length t.length ≠ 0) : recR regs l r t = r ∧ recT regs l r t = t ∧ recN regs l r.length t.length = 0 ∧ undS regs l r t = r := by
  unfold recR recT recN undS
  rw [if_neg h, if_neg h, if_neg h, if_neg h]
  exact ⟨rfl, rfl, rfl, rfl⟩
set_option maxHeartbeats 800000 in
theorem ready_bad (regs : Int) (a : Option Addr) (c : Nat) (l : List OpD) (ra : Option Addr) (rn rc : Nat) (ta : Option Addr) (tn tc : Nat) (w : World) (h : At w a l) (hl : l.length ≤ 1000000) (hc : checkS regs l ≠ 0) :
    Calls Tryz.prog 157 #[.agg #[.int .i64 regs, .slice a l.length c], .slice ra rn rc, .slice ta tn tc] w fun e w' => e = .returned (.tuple #[.slice none 0 0, .int .i64 (checkS regs l)]) ∧ Below w.heap.size w w' := by
  have h1 := h.belowN (below_new12 w (.cells #[.int .i64 regs, .slice a l.length c] 24))
  have hb0 := below_new12 w (.cells #[.int .i64 regs, .slice a l.length c] 24)
  have HP := hide (Code_calls regs a c l _ h1 hl)
  obtain ⟨E, hE⟩ : ∃ E, E = checkS regs l := ⟨_, rfl⟩
  unfold CodePost at HP
  rw [← hE] at HP hc ⊢
  have e1 : (E == 0) = false := by simpa using hc
  have e2 : (E != 0) = true := by simpa using hc
  clear hE hc
  go_enter Tryz.func157, Tryz.ntmps157
  go_wp2_with (go_at_call 47; ((with_reducible refine (HP.out).mono ?_); rintro e w1 ⟨a1, c1, rfl, hown1, hb1⟩))
  go_ret2
  exact ⟨rfl, hb0.trans (hb1.mono hb0.size)⟩
set_option maxRecDepth 100000 in
set_option maxHeartbeats 1600000 in
theorem ready_ok (regs : Int) (a : Option Addr) (c : Nat) (f : Fo) (g : Good regs f) (ra : Option Addr) (rn rc : Nat) (ta : Option Addr) (tn tc : Nat) (w : World) (h : At w a f.flat) (hrn : rn ≤ 1000000) (htn : tn ≤ 1000000) (hn : (rn : Int) = regs) (ht : f.unroll.length ≤ tn) :
    Calls Tryz.prog 157 #[.agg #[.int .i64 regs, .slice a f.flat.length c], .slice ra rn rc, .slice ta tn tc] w fun e w' => ∃ ac cc, e = .returned (.tuple #[.slice ac (f.bare.code 0).length cc, .int .i64 0]) ∧ Own w' w.heap.size 176 ac cc (f.bare.code 0) ∧ Below w.heap.size w w' := by
  have hl : f.flat.length ≤ 4096 := g.len
  have h1 := h.belowN (below_new12 w (.cells #[.int .i64 regs, .slice a f.flat.length c] 24))
  have hb0 := below_new12 w (.cells #[.int .i64 regs, .slice a f.flat.length c] 24)
  have HP := hide (Code_calls regs a c f.flat _ h1 (by omega))
  have HSZ := hide (fun w' (g : At w' a f.flat) => SizeW_calls a c f.flat w' g (by omega))
  unfold CodePost at HP
  rw [g.check, codeS_good g] at HP
  rw [g.sizeW.1, g.sizeW.2] at HSZ
  have hul : f.unroll.length ≤ 65536 := by rw [Fo.unroll_length]; exact g.few
  obtain ⟨r1, r2⟩ : 1 ≤ regs ∧ regs ≤ 64 := ⟨g.r1, g.r2⟩
  generalize f.unroll.length = nu at *
  clear g
  have hd : decide ((tn : Int) < (nu : Int)) = false := by simp; omega
  have bn : ((rn : Int) != regs) = false := by simpa using hn
  clear hn
  go_enter Tryz.func157, Tryz.ntmps157
  go_wp2_with (first
        | (go_at_call 47; ((with_reducible refine (HP.out).mono ?_); rintro e w1 ⟨a1, c1, rfl, hown1, hb1⟩; have hbx := (Blk.new w 24 #[.int .i64 regs, .slice a f.flat.length c]).belowN hb1; obtain ⟨p0, p1, p2, p3⟩ := hbx.c2; have h2 := h1.belowN hb1; have hB1 := hb0.trans (hb1.mono hb0.size)))
        | (go_at_call 58; go_must ((with_reducible refine (HSZ.out _ h2).mono ?_); rintro e w2 ⟨rfl, hb2⟩; have hbx2 := hbx.belowN hb2; obtain ⟨q0, q1, q2, q3⟩ := hbx2.c2)))
  go_ret2
  exact ⟨a1, c1, rfl, (hown1.mono (by simp)).belowN hb2, hB1.trans (hb2.mono hB1.size)⟩
set_option maxRecDepth 100000 in
set_option maxHeartbeats 1600000 in
theorem ready_full (regs : Int) (a : Option Addr) (c : Nat) (f : Fo) (g : Good regs f) (ra : Option Addr) (rn rc : Nat) (ta : Option Addr) (tn tc : Nat) (w : World) (h : At w a f.flat) (hrn : rn ≤ 1000000) (htn : tn ≤ 1000000) (hn : (rn : Int) = regs) (ht : ¬ f.unroll.length ≤ tn) :
    Calls Tryz.prog 157 #[.agg #[.int .i64 regs, .slice a f.flat.length c], .slice ra rn rc, .slice ta tn tc] w fun e w' => e = .returned (.tuple #[.slice none 0 0, .int .i64 15]) ∧ Below w.heap.size w w' := by
  have hl : f.flat.length ≤ 4096 := g.len
  have h1 := h.belowN (below_new12 w (.cells #[.int .i64 regs, .slice a f.flat.length c] 24))
  have hb0 := below_new12 w (.cells #[.int .i64 regs, .slice a f.flat.length c] 24)
  have HP := hide (Code_calls regs a c f.flat _ h1 (by omega))
  have HSZ := hide (fun w' (g : At w' a f.flat) => SizeW_calls a c f.flat w' g (by omega))
  unfold CodePost at HP
  rw [g.check, codeS_good g] at HP
  rw [g.sizeW.1, g.sizeW.2] at HSZ
  have hul : f.unroll.length ≤ 65536 := by rw [Fo.unroll_length]; exact g.few
  obtain ⟨r1, r2⟩ : 1 ≤ regs ∧ regs ≤ 64 := ⟨g.r1, g.r2⟩
  generalize f.unroll.length = nu at *
  clear g
  have hd : decide ((tn : Int) < (nu : Int)) = true := by simp; omega
  have bn : ((rn : Int) != regs) = false := by simpa using hn
  clear hn
  go_enter Tryz.func157, Tryz.ntmps157
  go_wp2_with (first
        | (go_at_call 47; ((with_reducible refine (HP.out).mono ?_); rintro e w1 ⟨a1, c1, rfl, hown1, hb1⟩; have hbx := (Blk.new w 24 #[.int .i64 regs, .slice a f.flat.length c]).belowN hb1; obtain ⟨p0, p1, p2, p3⟩ := hbx.c2; have h2 := h1.belowN hb1; have hB1 := hb0.trans (hb1.mono hb0.size)))
        | (go_at_call 58; go_must ((with_reducible refine (HSZ.out _ h2).mono ?_); rintro e w2 ⟨rfl, hb2⟩; have hbx2 := hbx.belowN hb2; obtain ⟨q0, q1, q2, q3⟩ := hbx2.c2)))
  go_ret2
  exact ⟨rfl, hB1.trans (hb2.mono hB1.size)⟩
set_option maxRecDepth 100000 in
set_option maxHeartbeats 1600000 in
theorem ready_dims (regs : Int) (a : Option Addr) (c : Nat) (f : Fo) (g : Good regs f) (ra : Option Addr) (rn rc : Nat) (ta : Option Addr) (tn tc : Nat) (w : World) (h : At w a f.flat) (hrn : rn ≤ 1000000) (htn : tn ≤ 1000000) (hn : ¬ (rn : Int) = regs) :
    Calls Tryz.prog 157 #[.agg #[.int .i64 regs, .slice a f.flat.length c], .slice ra rn rc, .slice ta tn tc] w fun e w' => e = .returned (.tuple #[.slice none 0 0, .int .i64 10]) ∧ Below w.heap.size w w' := by
  have hl : f.flat.length ≤ 4096 := g.len
  have h1 := h.belowN (below_new12 w (.cells #[.int .i64 regs, .slice a f.flat.length c] 24))
  have hb0 := below_new12 w (.cells #[.int .i64 regs, .slice a f.flat.length c] 24)
  have HP := hide (Code_calls regs a c f.flat _ h1 (by omega))
  have HSZ := hide (fun w' (g : At w' a f.flat) => SizeW_calls a c f.flat w' g (by omega))
  unfold CodePost at HP
  rw [g.check, codeS_good g] at HP
  rw [g.sizeW.1, g.sizeW.2] at HSZ
  have hul : f.unroll.length ≤ 65536 := by rw [Fo.unroll_length]; exact g.few
  obtain ⟨r1, r2⟩ : 1 ≤ regs ∧ regs ≤ 64 := ⟨g.r1, g.r2⟩
  generalize f.unroll.length = nu at *
  clear g
  have bn : ((rn : Int) != regs) = true := by simpa using hn
  clear hn
  go_enter Tryz.func157, Tryz.ntmps157
  go_wp2_with (first
        | (go_at_call 47; ((with_reducible refine (HP.out).mono ?_); rintro e w1 ⟨a1, c1, rfl, hown1, hb1⟩; have hbx := (Blk.new w 24 #[.int .i64 regs, .slice a f.flat.length c]).belowN hb1; obtain ⟨p0, p1, p2, p3⟩ := hbx.c2; have h2 := h1.belowN hb1; have hB1 := hb0.trans (hb1.mono hb0.size)))
        | (go_at_call 58; go_must ((with_reducible refine (HSZ.out _ h2).mono ?_); rintro e w2 ⟨rfl, hb2⟩; have hbx2 := hbx.belowN hb2; obtain ⟨q0, q1, q2, q3⟩ := hbx2.c2)))
  go_ret2
  exact ⟨rfl, hB1.trans (hb2.mono hB1.size)⟩
theorem ready_err (regs : Int) (a : Option Addr) (c : Nat) (l : List OpD) (ra : Option Addr) (rn rc : Nat) (ta : Option Addr) (tn tc : Nat) (w : World) (h : At w a l) (hl : l.length ≤ 1000000) (hrn : rn ≤ 1000000) (htn : tn ≤ 1000000) (hc : readyS regs l rn tn ≠ 0) :
    Calls Tryz.prog 157 #[.agg #[.int .i64 regs, .slice a l.length c], .slice ra rn rc, .slice ta tn tc] w fun e w' => e = .returned (.tuple #[.slice none 0 0, .int .i64 (readyS regs l rn tn)]) ∧ Below w.heap.size w w' := by
  by_cases h0 : checkS regs l = 0
  · obtain ⟨f, rfl, g⟩ := good_of_check h0
    by_cases h1 : (rn : Int) = regs
    · have ht : ¬ f.unroll.length ≤ tn := fun ht => hc (ready_of_good g h1 ht)
      have e : readyS regs f.flat rn tn = 15 := by unfold readyS; rw [if_neg (by simpa using h0), if_neg (by simpa using h1), unrS_good g, if_pos (by omega)]
      rw [e]
      exact ready_full regs a c f g ra rn rc ta tn tc w h hrn htn h1 ht
    · have e : readyS regs f.flat rn tn = 10 := by unfold readyS; rw [if_neg (by simpa using h0), if_pos h1]
      rw [e]
      exact ready_dims regs a c f g ra rn rc ta tn tc w h hrn htn h1
  · have e : readyS regs l rn tn = checkS regs l := by unfold readyS; rw [if_pos h0]
    rw [e]
    exact ready_bad regs a c l ra rn rc ta tn tc w h hl h0
end Go.Proofs.YtcamcnahkdiefaaGreat

/- Chapter 21: Record, Undo. -/
namespace Go.Proofs.YtcamcnahkdiefaaGreat
set_option linter.unusedVariables false
set_option linter.unusedSimpArgs false
open Go.RowKit

set_option maxRecDepth 100000 in
set_option maxHeartbeats 1600000 in
theorem Record_good (regs : Int) (a : Option Addr) (c : Nat) (f : Fo) (g : Good regs f) (gr rc : Nat) (r : List UInt64) (Br : Nat) (ta : Option Addr) (tc : Nat) (t : List UInt64) (Bt : Nat) (w : World) (h : At w a f.flat) (hr : Own w Br 50 (some ⟨gr, 0, none⟩) rc r) (ht : Own w Bt 50 ta tc t)
    (htl : t.length ≤ 1000000) (hn : (r.length : Int) = regs) (hu : f.unroll.length ≤ t.length) (hne : ta.map (·.block) ≠ some gr) :
    Calls Tryz.prog 126 #[.agg #[.int .i64 regs, .slice a f.flat.length c], .slice (some ⟨gr, 0, none⟩) r.length rc, .slice ta t.length tc] w fun e w' => e = .returned (.tuple #[.int .i64 (f.unroll.length : Int), .int .i64 0]) ∧ Own w' Br 50 (some ⟨gr, 0, none⟩) rc (runR f.unroll r) ∧ Own w' Bt 50 ta tc (tpR f.unroll r t) ∧ Turned (gr :: blkL ta) w w' := by
  have hr64 : r.length ≤ 64 := by have := g.r2; omega
  have hul : f.unroll.length ≤ 65536 := by rw [Fo.unroll_length]; exact g.few
  have hgr := (hr.blk gr rfl).2
  have htb := fun q hq => (ht.blk q hq).2
  have hb0 := below_new12 w (.cells #[.int .i64 regs, .slice a f.flat.length c] 24)
  have HP := hide (ready_ok regs a c f g (some ⟨gr, 0, none⟩) r.length rc ta t.length tc _ (h.belowN hb0) (by omega) htl hn hu)
  have hr1 := hr.belowN hb0
  have ht1 := ht.belowN hb0
  have HX := hide fun ac cc W hc hcb o1 o2 => texec_calls regs f g ac cc gr rc ta tc Br Bt r t W hc hcb o1 hn o2 hu hne
  have HT := hide htb
  generalize f.unroll = U at *
  generalize f.bare.code 0 = code at *
  clear g hn hu hne htb
  go_enter Tryz.func126, Tryz.ntmps126
  go_wp2_with (first
    | (go_at_call 157; ((with_reducible refine (HP.out).mono ?_); rintro e w1 ⟨a1, c1, rfl, hown1, hb1⟩; have hB1 := hb0.trans (hb1.mono hb0.size); have hr2 := hr1.belowN hb1; have ht2 := ht1.belowN hb1))
    | (go_at_call 158; go_must ((with_reducible refine (HX.out _ _ _ hown1.at_ (fun _ q hq => ⟨fun e => by have := (hown1.blk q hq).1; simp at this; omega, fun e => by have h1 := (hown1.blk q hq).1; have h2 := HT.out q e; simp at h1; omega⟩) hr2 ht2).mono ?_); rintro e w2 ⟨rfl, hown3, hown4, hT⟩)))
  go_ret2
  exact ⟨rfl, hown3, hown4, (Turned.ofBelow hB1).trans hT (fun q hq => .inl hq)⟩
set_option maxHeartbeats 800000 in
theorem Record_bad (regs : Int) (a : Option Addr) (c : Nat) (l : List OpD) (ra : Option Addr) (rn rc : Nat) (ta : Option Addr) (tn tc : Nat) (w : World) (h : At w a l) (hl : l.length ≤ 1000000) (hrn : rn ≤ 1000000) (htn : tn ≤ 1000000) (hc : readyS regs l rn tn ≠ 0) :
    Calls Tryz.prog 126 #[.agg #[.int .i64 regs, .slice a l.length c], .slice ra rn rc, .slice ta tn tc] w fun e w' => e = .returned (.tuple #[.int .i64 0, .int .i64 (readyS regs l rn tn)]) ∧ Below w.heap.size w w' := by
  have hb0 := below_new12 w (.cells #[.int .i64 regs, .slice a l.length c] 24)
  have HP := hide (ready_err regs a c l ra rn rc ta tn tc _ (h.belowN hb0) hl hrn htn hc)
  obtain ⟨E, hE⟩ : ∃ E, E = readyS regs l rn tn := ⟨_, rfl⟩
  rw [← hE] at HP hc ⊢
  have e1 : (E == 0) = false := by simpa using hc
  have e2 : (E != 0) = true := by simpa using hc
  clear hE hc
  go_enter Tryz.func126, Tryz.ntmps126
  go_wp2_with (go_at_call 157; ((with_reducible refine (HP.out).mono ?_); rintro e w1 ⟨rfl, hb1⟩; have hB1 := hb0.trans (hb1.mono hb0.size)))
  go_ret2
  exact ⟨rfl, hB1⟩
theorem Record_calls (regs : Int) (a : Option Addr) (c : Nat) (l : List OpD) (ra : Option Addr) (rc : Nat) (r : List UInt64) (Br : Nat) (ta : Option Addr) (tc : Nat) (t : List UInt64) (Bt : Nat) (w : World) (h : At w a l) (hl : l.length ≤ 1000000) (hr : Own w Br 50 ra rc r) (ht : Own w Bt 50 ta tc t)
    (hrl : r.length ≤ 1000000) (htl : t.length ≤ 1000000) (hne : ∀ q, ra.map (·.block) = some q → ta.map (·.block) ≠ some q) :
    Calls Tryz.prog 126 #[.agg #[.int .i64 regs, .slice a l.length c], .slice ra r.length rc, .slice ta t.length tc] w fun e w' => e = .returned (.tuple #[.int .i64 (recN regs l r.length t.length), .int .i64 (readyS regs l r.length t.length)]) ∧ Own w' Br 50 ra rc (recR regs l r t) ∧ Own w' Bt 50 ta tc (recT regs l r t) ∧ Turned (blkL ra ++ blkL ta) w w' := by
  by_cases hc : readyS regs l r.length t.length = 0
  · rw [hc]
    obtain ⟨f, rfl, g, hn, hu⟩ := ready_good hc
    obtain ⟨e1, e2, e3, _⟩ := rec_good g hn hu
    rw [e1, e2, e3]
    obtain ⟨gr, rfl, _⟩ := hr.some_ (by intro e; rw [e] at hn; have := g.r1; simp at hn; omega)
    exact Record_good regs a c f g gr rc r Br ta tc t Bt w h hr ht htl hn hu (hne gr rfl)
  · obtain ⟨e1, e2, e3, _⟩ := rec_bad hc
    rw [e1, e2, e3]
    refine (Record_bad regs a c l ra r.length rc ta t.length tc w h hl hrl htl hc).mono ?_
    rintro e w' ⟨rfl, hb⟩
    exact ⟨rfl, hr.belowN hb, ht.belowN hb, Turned.ofBelow hb⟩
end Go.Proofs.YtcamcnahkdiefaaGreat

/- Chapter 21: what must come at any rate. -/
namespace Go.Proofs.YtcamcnahkdiefaaGreat
set_option linter.unusedVariables false
set_option linter.unusedSimpArgs false
open Go.RowKit

theorem RecordN (regs : Int) (a : Option Addr) (c ln : Nat) (l : List OpD) (hln : ln = l.length) (ra : Option Addr) (rc rn : Nat) (r : List UInt64) (hrn : rn = r.length) (Br : Nat) (ta : Option Addr) (tc tn : Nat) (t : List UInt64) (htn : tn = t.length) (Bt : Nat) (N E : Int) (R' T' : List UInt64)
    (hN : recN regs l rn tn = N) (hE : readyS regs l rn tn = E) (hR : recR regs l r t = R') (hT : recT regs l r t = T') (w : World) (h : At w a l) (hl : ln ≤ 1000000) (hr : Own w Br 50 ra rc r) (ht : Own w Bt 50 ta tc t)
    (hrl : rn ≤ 1000000) (htl : tn ≤ 1000000) (hne : ∀ q, ra.map (·.block) = some q → ta.map (·.block) ≠ some q) :
    Calls Tryz.prog 126 #[.agg #[.int .i64 regs, .slice a ln c], .slice ra rn rc, .slice ta tn tc] w fun e w' => e = .returned (.tuple #[.int .i64 N, .int .i64 E]) ∧ Own w' Br 50 ra rc R' ∧ Own w' Bt 50 ta tc T' ∧ Turned (blkL ra ++ blkL ta) w w' := by
  subst hln hrn htn hN hE hR hT
  exact Record_calls regs a c l ra rc r Br ta tc t Bt w h hl hr ht hrl htl hne
end Go.Proofs.YtcamcnahkdiefaaGreat

/- A region that draws its order: reads, then several calls that leave what is read, one behind the other, then what waits for all reads. -/
namespace Go.Proofs.YtcamcnahkdiefaaGreat
set_option linter.unusedVariables false
set_option linter.unusedSimpArgs false
open Go.RowKit
section
variable {P : Program} {ops : Array Oper} {Q : Exit → Act → World → Prop} {md : Region.Mode} {S : World → Prop} {late : Nat → Bool}

def midK (P : Program) (ops : Array Oper) (Q : Exit → Act → World → Prop) (S : World → Prop) : List Oper → List Oper → Act → World → Prop
  | [], tl, a, w => wpList P ops Q tl a w
  | o :: mid, tl, a, w => ∀ K : Act → World → Prop, (∀ a2 w2, S w2 → midK P ops Q S mid tl a2 w2 → K a2 w2) → if Region.wanted o (yielded ops a.tmps) = true then Oper.wp P o a w K Q else K (a.put o.dst undef) w
end
end Go.Proofs.YtcamcnahkdiefaaGreat

/- Several texts of mine in one file: Du, Do, Dp, Dr, Da. -/
/- Chapters 2, 14: duals: in memory, plain; ref02's walks. -/
namespace Go.Proofs.YtcamcnahkdiefaaGreat
set_option linter.unusedVariables false
set_option linter.unusedSimpArgs false
open Go.RowKit
structure DuD where
  v : UInt64
  d : UInt64
  deriving DecidableEq
instance : Flat DuD := ⟨2, fun x => [.int .u64 (x.v.toNat : Int), .int .u64 (x.d.toNat : Int)], fun _ => rfl, fun x u hu => by simp at hu; rcases hu with rfl | rfl <;> rfl, by decide⟩
def DuD.val (x : DuD) : Value := .agg #[.int .u64 (x.v.toNat : Int), .int .u64 (x.d.toNat : Int)]
theorem tyD : Ty Tryz.prog 117 111 DuD := Ty.of (z := .agg #[.int .u64 0, .int .u64 0]) (size := 2) (bytes := 16) Tryz.underlying117 (by kernel_rfl) rfl (by decide) rfl
theorem tyND : TyN Tryz.prog 117 111 (⟨0, 0⟩ : DuD) := TyN.of (z := .agg #[.int .u64 0, .int .u64 0]) (size := 2) (bytes := 16) Tryz.underlying117 (by kernel_rfl) rfl (by decide) rfl
theorem wpList_mkN {P : Program} {ops : Array Oper} {rest : List Oper} {o : Oper} {act : Act} {Q : Exit → Act → World → Prop} {w : World} {T E : TypeId} {α : Type} [Flat α] {z0 : α} (ty : TyN P T E z0) {B n : Nat} {x y : Operand} {k1 k2 : IntKind} {n1 n2 : Int}
    (hgd : o.guard = none) (ho : o.op = .makeSlice T x y) (hx : act.eval x = .int k1 n1) (hy : act.eval y = .int k2 n2) (h1 : n1 = (n : Int)) (h2 : n2 = (n : Int)) (hB : B ≤ w.heap.size) (hn : n ≤ 1000000000)
    (h : ∀ w', Own w' B E (some ⟨w.heap.size, 0, none⟩) n (List.replicate n z0) → w.grownBy w' none → wpList P ops Q rest (act.put o.dst (.slice (some ⟨w.heap.size, 0, none⟩) n n)) w') :
    wpList P ops Q (o :: rest) act w := by
  obtain ⟨i, z, hi, hz, hs, hb, hc⟩ := ty.info
  refine wpList_make_full w hgd x y T ho B E i z (Flat.n α) ty.und hi hz hs k1 k2 n1 n2 n hx hy h1 h2 (Nat.le_trans (Nat.mul_le_mul hb hn) (by decide)) (by simp only [maxLen]; omega) hB fun w' g1 g2 => h w' ?_ g2
  unfold Own
  rw [List.length_replicate]
  have e : (madeCells z.cells (n * Flat.n α)).toList = (List.replicate n z0).flatMap Flat.enc := by
    rw [← zeroCells_flat hc n]
    have hs : z.cells.size = Flat.n α := by rw [← Array.length_toList, hc, Flat.len]
    rw [← hs]
    rfl
  rw [← e]
  exact g1
theorem results_row_D {P : Program} {fn : Func} {p : Tmp} {ty : TypeId} (h : fn.results = #[.cell p ty]) (tmps : Array Value) (w : World) (g : Nat) (t : TypeId) (cs : Array Value) (fr : Nat × Nat) (d : TypeDesc)
    (hp : tmps.getD p undef = .pointer (some ⟨g, 0, none⟩)) (hg : w.heap[g]? = some (.cells cs t fr)) (hu : P.underlying ty = some d) (hd : (match d with | .struct _ | .array _ _ => true | _ => false) = true) (hi : (P.info? ty).map (·.size) = some cs.size) :
    (results fn tmps).run P w = .ok (.agg cs) w := by
  have hp' : tmps[p]?.getD undef = .pointer (some ⟨g, 0, none⟩) := by simpa using hp
  simp only [results, h]
  simp [Sem.run_bind, hp', asAddr, run_loadVar_row w g t ty cs fr d hg hu hd hi, Result.andThen]
def addD (a b : DuD) : DuD := ⟨a.v + b.v, a.d + b.d⟩
def negD (a : DuD) : DuD := ⟨0 - a.v, 0 - a.d⟩
def mulD (a b : DuD) : DuD := ⟨a.v * b.v, a.v * b.d + a.d * b.v⟩
end Go.Proofs.YtcamcnahkdiefaaGreat

/- Chapter 14: what an operation makes of duals (ref14.does). -/
namespace Go.Proofs.YtcamcnahkdiefaaGreat
set_option linter.unusedVariables false
set_option linter.unusedSimpArgs false
open Go.RowKit
def doesD (x : OpD) (a b : DuD) : DuD :=
  if x.kind = 1 then addD a b else if x.kind = 2 then addD a (negD b) else if x.kind = 3 then mulD a b else if x.kind = 4 then negD a else if x.kind = 5 then ⟨x.v, 0⟩ else a
end Go.Proofs.YtcamcnahkdiefaaGreat

/- Runs on duals, plain: a run on duals is a run and a run of tangents. No program is named here. -/
namespace Go.Proofs.YtcamcnahkdiefaaGreat
set_option linter.unusedVariables false
set_option linter.unusedSimpArgs false
open Go.RowKit
def getD14 (r : List DuD) (i : Int) : DuD := (r[i.toNat]?).getD ⟨0, 0⟩
def stepD (r : List DuD) (x : OpD) : List DuD := r.set x.d.toNat (doesD x (getD14 r x.a) (getD14 r x.b))
def runD (l : List OpD) (r : List DuD) : List DuD := l.foldl stepD r
theorem stepD_length (r : List DuD) (x : OpD) : (stepD r x).length = r.length := by simp [stepD]
theorem runD_length (l : List OpD) (r : List DuD) : (runD l r).length = r.length := by
  induction l generalizing r with
  | nil => rfl
  | cons x l ih => show (runD l (stepD r x)).length = _; rw [ih, stepD_length]
theorem runD_append (a b : List OpD) (r : List DuD) : runD (a ++ b) r = runD b (runD a r) := List.foldl_append ..
theorem doesD_eq (x : OpD) (a b : DuD) (h1 : 1 ≤ x.kind) (h2 : x.kind ≤ 6) : doesD x a b = ⟨applyU x a.v b.v, (partU x a.v b.v).1 * a.d + (partU x a.v b.v).2 * b.d⟩ := by
  obtain ⟨k, d, xa, xb, v⟩ := x
  obtain ⟨av, ad⟩ := a
  obtain ⟨bv, bd⟩ := b
  simp only at h1 h2
  rcases kind8 k with h | rfl | rfl | rfl | rfl | rfl | rfl | rfl | rfl | h <;> first | omega | (simp [doesD, applyU, partU, addD, negD, mulD]; try grind)
def zipD (r t : List UInt64) : List DuD := List.zipWith DuD.mk r t
theorem zipD_length (r t : List UInt64) (h : r.length = t.length) : (zipD r t).length = r.length := by simp [zipD, h]
theorem getD14_zip (r t : List UInt64) (h : r.length = t.length) (i : Int) : getD14 (zipD r t) i = ⟨getR r i, getR t i⟩ := by
  unfold getD14 zipD getR
  rw [List.getElem?_zipWith]
  by_cases hi : i.toNat < r.length
  · rw [List.getElem?_eq_getElem hi, List.getElem?_eq_getElem (by omega)]; rfl
  · rw [List.getElem?_eq_none (by omega), List.getElem?_eq_none (by omega)]; rfl
theorem zipD_set (r t : List UInt64) (i : Nat) (a b : UInt64) : (zipD r t).set i ⟨a, b⟩ = zipD (r.set i a) (t.set i b) := by
  unfold zipD
  apply List.ext_getElem?
  intro j
  simp only [List.getElem?_set, List.getElem?_zipWith, List.length_zipWith]
  by_cases hij : i = j
  · subst hij
    by_cases h1 : i < r.length
    · by_cases h2 : i < t.length
      · simp [h1, h2]; omega
      · simp [h1, h2]; omega
    · simp [h1]; omega
  · simp [hij]
theorem stepD_zip (x : OpD) (r t : List UInt64) (h : r.length = t.length) (h1 : 1 ≤ x.kind) (h2 : x.kind ≤ 6) : stepD (zipD r t) x = zipD (stepR r x) (stepT x r t) := by
  unfold stepD stepR stepT tanU
  rw [getD14_zip r t h, getD14_zip r t h, doesD_eq x _ _ h1 h2, zipD_set]
theorem runD_zip (l : List OpD) (hl : ∀ x ∈ l, 1 ≤ x.kind ∧ x.kind ≤ 6) (r t : List UInt64) (h : r.length = t.length) : runD l (zipD r t) = zipD (runR l r) (runT l r t) := by
  induction l generalizing r t with
  | nil => rfl
  | cons x l ih =>
    have hx := hl x (by simp)
    show runD l (stepD (zipD r t) x) = zipD (runR l (stepR r x)) (runT l (stepR r x) (stepT x r t))
    rw [stepD_zip x r t h hx.1 hx.2, ih (fun y hy => hl y (by simp [hy])) _ _ (by rw [stepR_length, stepT_length, h])]
theorem Own.setD {w : World} {B : Nat} {E : TypeId} {g c : Nat} {l : List DuD} (h : Own w B E (some ⟨g, 0, .none⟩) c l) {i : Nat} {x : DuD} (hx : l[i]? = some x) (y : DuD) :
    Own ((w.setCell ⟨g, i * 2, .none⟩ (.int .u64 (y.v.toNat : Int))).setCell ⟨g, i * 2 + 1, .none⟩ (.int .u64 (y.d.toNat : Int))) B E (some ⟨g, 0, .none⟩) c (l.set i y) := by
  have hi := (List.getElem?_eq_some_iff.1 hx).1
  have h1 := h.setAt i 0 ⟨y.v, x.d⟩ x (.int .u64 (y.v.toNat : Int)) hx (by decide) rfl
  have h2 := h1.setAt i 1 y ⟨y.v, x.d⟩ (.int .u64 (y.d.toNat : Int)) (by rw [List.getElem?_set, if_pos rfl, if_pos hi]) (by decide) rfl
  rw [List.set_set] at h2
  exact h2
end Go.Proofs.YtcamcnahkdiefaaGreat

/- Chapter 14: ref14.Run. -/
namespace Go.Proofs.YtcamcnahkdiefaaGreat
set_option linter.unusedVariables false
set_option linter.unusedSimpArgs false
open Go.RowKit
def startD (n : Nat) (r : List DuD) : List DuD := r ++ List.replicate (n - r.length) ⟨0, 0⟩
theorem startD_length (n : Nat) (r : List DuD) (h : r.length ≤ n) : (startD n r).length = n := by simp [startD] <;> omega
def dualE (regs : Int) (l : List OpD) (rn : Nat) : Int := if checkS regs l ≠ 0 then checkS regs l else if regs < (rn : Int) then 10 else 0
noncomputable def dualR (regs : Int) (l : List OpD) (r : List DuD) : List DuD := if dualE regs l r.length = 0 then runD (unrS regs l) (startD regs.toNat r) else []
theorem dualE_good {regs : Int} {l : List OpD} {rn : Nat} (h : dualE regs l rn = 0) : ∃ f : Fo, l = f.flat ∧ Good regs f ∧ (rn : Int) ≤ regs := by
  unfold dualE at h
  by_cases hc : checkS regs l = 0
  · rw [if_neg (by simpa using hc)] at h
    obtain ⟨f, rfl, g⟩ := good_of_check hc
    by_cases hn : regs < (rn : Int)
    · rw [if_pos hn] at h; cases h
    · exact ⟨f, rfl, g, by omega⟩
  · rw [if_pos hc] at h; exact absurd h hc
theorem dualE_of {regs : Int} {f : Fo} (g : Good regs f) {rn : Nat} (hn : (rn : Int) ≤ regs) : dualE regs f.flat rn = 0 := by
  unfold dualE
  rw [if_neg (by simpa using g.check), if_neg (by omega)]
theorem dualE_dims {regs : Int} {f : Fo} (g : Good regs f) {rn : Nat} (h : regs < (rn : Int)) : dualE regs f.flat rn = 10 := by
  unfold dualE
  rw [if_neg (by simpa using g.check), if_pos h]
theorem dualE_bad {regs : Int} {l : List OpD} {rn : Nat} (hc : checkS regs l ≠ 0) : dualE regs l rn = checkS regs l := by unfold dualE; rw [if_pos hc]
theorem dualR_good {regs : Int} {f : Fo} (g : Good regs f) {r : List DuD} (hn : (r.length : Int) ≤ regs) : dualR regs f.flat r = runD f.unroll (startD regs.toNat r) := by
  unfold dualR
  rw [if_pos (dualE_of g hn), unrS_good g]
theorem dualR_bad {regs : Int} {l : List OpD} {r : List DuD} (h : dualE regs l r.length ≠ 0) : dualR regs l r = [] := by unfold dualR; rw [if_neg h]
end Go.Proofs.YtcamcnahkdiefaaGreat

/- Chapter 14: ref14.Along. -/
namespace Go.Proofs.YtcamcnahkdiefaaGreat
set_option linter.unusedVariables false
set_option linter.unusedSimpArgs false
open Go.RowKit
end Go.Proofs.YtcamcnahkdiefaaGreat

/- Chapter 7: partials, the program's and the document's. -/
namespace Go.Proofs.YtcamcnahkdiefaaGreat
set_option linter.unusedVariables false
set_option linter.unusedSimpArgs false
open Go.RowKit
theorem part_no {x : OpD} (a b : UInt64) (h : x.kind < 0 ∨ 7 < x.kind) : partU x a b = (0, 0) := by
  unfold partU
  rw [if_neg (by omega), if_neg (by omega), if_neg (by omega), if_neg (by omega), if_neg (by omega)]
theorem ret_uu {a b c d : Int} (h : a = b) (k : c = d) : Ending.returned (.tuple #[.int .u64 a, .int .u64 c]) = .returned (.tuple #[.int .u64 b, .int .u64 d]) := by rw [h, k]
theorem Partials_calls (x : OpD) (a b : UInt64) (w : World) : Calls Tryz.prog 153 #[.agg #[.int .i64 x.kind, .int .i64 x.d, .int .i64 x.a, .int .i64 x.b, .int .u64 (x.v.toNat : Int)], .int .u64 (a.toNat : Int), .int .u64 (b.toNat : Int)] w fun e w' => e = .returned (.tuple #[.int .u64 ((partU x a b).1.toNat : Int), .int .u64 ((partU x a b).2.toNat : Int)]) ∧ Below w.heap.size w w' := by
  obtain ⟨k, rd, ra, rb, v⟩ := x
  simp only
  rcases kind8 k with h | rfl | rfl | rfl | rfl | rfl | rfl | rfl | rfl | h
  case inl =>
    obtain ⟨h0, h1, h2, h3, h4, h5, h6, h7⟩ := kind_no (.inl h)
    go_enter Tryz.func153, Tryz.ntmps153
    go_wp2
    go_ret2
    exact ⟨ret_uu (by rw [part_no a b (.inl h)]; rfl) (by rw [part_no a b (.inl h)]; rfl), (by with_reducible repeat first | exact Below.refl _ _ | assumption | refine below_drewN ?_ _ | refine Below.drew ?_ | refine Below.alloc ?_ (by simp <;> omega) _ | refine Below.setCell ?_ (by simp <;> omega) _)⟩
  case inr.inr.inr.inr.inr.inr.inr.inr.inr =>
    obtain ⟨h0, h1, h2, h3, h4, h5, h6, h7⟩ := kind_no (.inr h)
    go_enter Tryz.func153, Tryz.ntmps153
    go_wp2
    go_ret2
    exact ⟨ret_uu (by rw [part_no a b (.inr h)]; rfl) (by rw [part_no a b (.inr h)]; rfl), (by with_reducible repeat first | exact Below.refl _ _ | assumption | refine below_drewN ?_ _ | refine Below.drew ?_ | refine Below.alloc ?_ (by simp <;> omega) _ | refine Below.setCell ?_ (by simp <;> omega) _)⟩
  all_goals
    go_enter Tryz.func153, Tryz.ntmps153
    go_wp2
    go_ret2
    exact ⟨ret_uu rfl rfl, (by with_reducible repeat first | exact Below.refl _ _ | assumption | refine below_drewN ?_ _ | refine Below.drew ?_ | refine Below.alloc ?_ (by simp <;> omega) _ | refine Below.setCell ?_ (by simp <;> omega) _)⟩
end Go.Proofs.YtcamcnahkdiefaaGreat

/- Chapter 22: a write taken back. -/
namespace Go.Proofs.YtcamcnahkdiefaaGreat
set_option linter.unusedVariables false
set_option linter.unusedSimpArgs false
open Go.RowKit
theorem u64_mac (u p g : UInt64) : ((u.toNat : Int) + (p.toNat : Int) * (g.toNat : Int)) % 18446744073709551616 = ((u + p * g).toNat : Int) := by
  rw [UInt64.toNat_add, UInt64.toNat_mul, ← Int.natCast_mul]
  generalize p.toNat * g.toNat = m
  omega
set_option maxRecDepth 100000 in
set_option maxHeartbeats 3200000 in
theorem take_calls (regs : Int) (x : OpD) (hx : InR regs x) (gr ga nr cr na ca : Nat) (ta : Option Addr) (nt ct Br Ba : Nat) (R A T : List UInt64) (n : Nat) (v : UInt64) (hT : T[n]? = some v) (hnt : nt = T.length) (hnr : nr = R.length) (hna : na = A.length)
    (hR : (R.length : Int) = regs) (hA : (A.length : Int) = regs) (hn64 : regs ≤ 64) (hnt2 : nt ≤ 1000000) (w : World) (h1 : Own w Br 50 (some ⟨gr, 0, none⟩) cr R) (h2 : Own w Ba 50 (some ⟨ga, 0, none⟩) ca A) (h3 : At w ta T) (hne : gr ≠ ga) (hta : ∀ q, ta.map (·.block) = some q → q ≠ gr ∧ q ≠ ga) :
    Calls Tryz.prog 186 #[.agg #[.slice (some ⟨gr, 0, none⟩) nr cr, .slice (some ⟨ga, 0, none⟩) na ca, .slice ta nt ct], .agg #[.int .i64 x.kind, .int .i64 x.d, .int .i64 x.a, .int .i64 x.b, .int .u64 (x.v.toNat : Int)], .int .i64 (n : Int)] w fun e w' => e = .returned (.tuple #[]) ∧ Own w' Br 50 (some ⟨gr, 0, none⟩) cr (R.set x.d.toNat v) ∧ Own w' Ba 50 (some ⟨ga, 0, none⟩) ca (takeA x (R.set x.d.toNat v) A) ∧ Turned [gr, ga] w w' := by
  obtain ⟨⟨d1, d2⟩, ⟨a1, a2⟩, ⟨i1, i2⟩⟩ := hx
  have hnl : n < T.length := (List.getElem?_eq_some_iff.1 hT).1
  have hnn : n < nt := by omega
  have d3 : x.d < (nr : Int) := by omega
  have a3 : x.a < (nr : Int) := by omega
  have i3 : x.b < (nr : Int) := by omega
  have d4 : x.d < (na : Int) := by omega
  have a4 : x.a < (na : Int) := by omega
  have i4 : x.b < (na : Int) := by omega
  have hgr := (h1.blk gr rfl).2
  have hga := (h2.blk ga rfl).2
  have hnr64 : nr ≤ 64 := by omega
  have hna64 : na ≤ 64 := by omega
  obtain ⟨bt, ot, hta', hct⟩ := h3 n v hT
  replace hct := hct 0 _ rfl
  simp only [Flat.n, Nat.mul_one, Nat.add_zero] at hct
  subst hta'
  have hbt := World.block_lt_of_cell? _ _ hct
  obtain ⟨q1, q2⟩ := hta bt rfl
  -- the numbers
  obtain ⟨R', hR'⟩ : ∃ R', R.set x.d.toNat v = R' := ⟨_, rfl⟩
  obtain ⟨g, hg⟩ : ∃ g, getR A x.d = g := ⟨_, rfl⟩
  obtain ⟨A1, hA1⟩ : ∃ A1, A.set x.d.toNat 0 = A1 := ⟨_, rfl⟩
  obtain ⟨p, hp⟩ : ∃ p, (partU x (getR R' x.a) (getR R' x.b)).1 = p := ⟨_, rfl⟩
  obtain ⟨q, hq⟩ : ∃ q, (partU x (getR R' x.a) (getR R' x.b)).2 = q := ⟨_, rfl⟩
  obtain ⟨u1, hu1⟩ : ∃ u1, getR A1 x.a = u1 := ⟨_, rfl⟩
  obtain ⟨A2, hA2⟩ : ∃ A2, A1.set x.a.toNat (u1 + p * g) = A2 := ⟨_, rfl⟩
  obtain ⟨u2, hu2⟩ : ∃ u2, getR A2 x.b = u2 := ⟨_, rfl⟩
  obtain ⟨A3, hA3⟩ : ∃ A3, A2.set x.b.toNat (u2 + q * g) = A3 := ⟨_, rfl⟩
  have hTK : takeA x R' A = A3 := by unfold takeA addR; rw [hA1, hg, hp, hq, hu1, hA2, hu2, hA3]
  obtain ⟨va, hva⟩ : ∃ va, getR R' x.a = va := ⟨_, rfl⟩
  obtain ⟨vb, hvb⟩ : ∃ vb, getR R' x.b = vb := ⟨_, rfl⟩
  have hl1 : A1.length = A.length := by rw [← hA1, List.length_set]
  have hl2 : A2.length = A.length := by rw [← hA2, List.length_set, hl1]
  have hlR : R'.length = R.length := by rw [← hR', List.length_set]
  have getC : ∀ (L : List UInt64) (i : Int) (u : UInt64), getR L i = u → i.toNat < L.length → L[i.toNat]? = some u := fun L i u h hl => by
    unfold getR at h; rw [List.getElem?_eq_getElem hl] at h ⊢; rw [← h]; rfl
  have kA := getC A x.d g hg (by omega)
  have kA1 := getC A1 x.a u1 hu1 (by omega)
  have kA2 := getC A2 x.b u2 hu2 (by omega)
  have kRa := getC R' x.a va hva (by omega)
  have kRb := getC R' x.b vb hvb (by omega)
  rw [hR', hTK]
  have HP := hide (fun w => Partials_calls x va vb w)
  rw [hva, hvb] at hp hq
  rw [hp, hq] at HP
  have e1 : IntKind.u64.wrap ((u1.toNat : Int) + IntKind.u64.wrap ((p.toNat : Int) * (g.toNat : Int))) = ((u1 + p * g).toNat : Int) := by rw [u64_mul, u64_add]
  have e2 : IntKind.u64.wrap ((u2.toNat : Int) + IntKind.u64.wrap ((q.toNat : Int) * (g.toNat : Int))) = ((u2 + q * g).toNat : Int) := by rw [u64_mul, u64_add]
  have HR' := hide hR'
  have HNR := hide hnr
  have HA1 := hide hA1
  have HA2 := hide hA2
  have HA3 := hide hA3
  have KA := hide kA
  have KA1 := hide kA1
  have KA2 := hide kA2
  have KRa := hide kRa
  have KRb := hide kRb
  have hszs : (w.setCell ⟨ga, x.d.toNat, none⟩ (.int .u64 0)).heap.size = w.heap.size := by simp [World.setCell]
  have hTu : Turned [ga] w (((w.setCell ⟨ga, x.d.toNat, none⟩ (.int .u64 0)).alloc (.cells #[.slice (some ⟨gr, 0, none⟩) nr cr, .slice (some ⟨ga, 0, none⟩) na ca, .slice (some ⟨bt, ot, none⟩) nt ct] 246)).alloc (.cells #[.int .i64 x.kind, .int .i64 x.d, .int .i64 x.a, .int .i64 x.b, .int .u64 (x.v.toNat : Int)] 89)) :=
    (Turned.ofGrown (F := [ga]) (grown_setCell _ _ _ _) (fun q hq => .inl (by injection hq with hq; simp [hq]))).trans (Turned.ofBelow (F := []) (below2 _ _ _)) (fun q hq => by cases hq)
  have hBs := (Blk.new (w.setCell ⟨ga, x.d.toNat, none⟩ (.int .u64 0)) 246 #[.slice (some ⟨gr, 0, none⟩) nr cr, .slice (some ⟨ga, 0, none⟩) na ca, .slice (some ⟨bt, ot, none⟩) nt ct]).alloc (.cells #[.int .i64 x.kind, .int .i64 x.d, .int .i64 x.a, .int .i64 x.b, .int .u64 (x.v.toNat : Int)] 89)
  have hBo := Blk.new ((w.setCell ⟨ga, x.d.toNat, none⟩ (.int .u64 0)).alloc (.cells #[.slice (some ⟨gr, 0, none⟩) nr cr, .slice (some ⟨ga, 0, none⟩) na ca, .slice (some ⟨bt, ot, none⟩) nt ct] 246)) 89 #[.int .i64 x.kind, .int .i64 x.d, .int .i64 x.a, .int .i64 x.b, .int .u64 (x.v.toNat : Int)]
  simp only [World.size_alloc, hszs] at hBo hBs
  have hown1 := h1.turned hTu (fun q hq => by simp at hq; simp; omega)
  have hown2 := ((h2.set1 x.d.toNat 0 (.int .u64 0) rfl).alloc (.cells #[.slice (some ⟨gr, 0, none⟩) nr cr, .slice (some ⟨ga, 0, none⟩) na ca, .slice (some ⟨bt, ot, none⟩) nt ct] 246)).alloc (.cells #[.int .i64 x.kind, .int .i64 x.d, .int .i64 x.a, .int .i64 x.b, .int .u64 (x.v.toNat : Int)] 89)
  rw [hA1] at hown2
  have c0 : w.cell? ⟨ga, x.d.toNat, none⟩ = some (.int .u64 (g.toNat : Int)) := by simpa [Flat.n] using h2.cellAt kA (f := 0) rfl
  have c1 := h2.frozen x.d.toNat
  have hct2 : (((w.setCell ⟨ga, x.d.toNat, none⟩ (.int .u64 0)).alloc (.cells #[.slice (some ⟨gr, 0, none⟩) nr cr, .slice (some ⟨ga, 0, none⟩) na ca, .slice (some ⟨bt, ot, none⟩) nt ct] 246)).alloc (.cells #[.int .i64 x.kind, .int .i64 x.d, .int .i64 x.a, .int .i64 x.b, .int .u64 (x.v.toNat : Int)] 89)).cell? ⟨bt, ot + n, none⟩ = some (.int .u64 (v.toNat : Int)) :=
    (World.cell?_of_block (hTu.block bt hbt (by simp; omega))).trans hct
  clear hT hR' hg hA1 hp hq hu1 hA2 hu2 hA3 hTK hva hvb hl1 hl2 hlR getC kA kA1 kA2 kRa kRb hnt hnr hna hR hA h3 hct hta hszs
  go_enter Tryz.func186, Tryz.ntmps186
  go_wp2_with fail
  generalize hW2 : ((w.setCell ⟨ga, x.d.toNat, none⟩ (.int .u64 0)).alloc (.cells #[.slice (some ⟨gr, 0, none⟩) nr cr, .slice (some ⟨ga, 0, none⟩) na ca, .slice (some ⟨bt, ot, none⟩) nt ct] 246)).alloc (.cells #[.int .i64 x.kind, .int .i64 x.d, .int .i64 x.a, .int .i64 x.b, .int .u64 (x.v.toNat : Int)] 89) = W2 at *
  have hz2 : W2.heap.size = w.heap.size + 2 := by rw [← hW2]; simp [World.setCell]
  clear hW2
  obtain ⟨s0, s1, s2, s3, s4, s5⟩ := hBs.c3
  obtain ⟨o0, o1, o2, o3, o4, o5, o6, o7, o8, o9⟩ := hBo.c5
  obtain ⟨vd, hvd⟩ : ∃ vd, R[x.d.toNat]? = some vd := ⟨R[x.d.toNat]'(by have := HNR.out; omega), List.getElem?_eq_getElem _⟩
  have rd : W2.cell? ⟨gr, x.d.toNat, none⟩ = some (.int .u64 (vd.toNat : Int)) := by simpa [Flat.n] using hown1.cellAt hvd (f := 0) rfl
  have rf := hown1.frozen x.d.toNat
  go_still_tail 10, (by kernel_rfl)
  change wpList _ _ _ _ _ W2.drew
  go_wp2_with fail
  have hT3 : Turned [gr] W2 (W2.setCell ⟨gr, x.d.toNat, none⟩ (.int .u64 (v.toNat : Int))).drew := (Turned.ofGrown (F := [gr]) (grown_setCell _ _ _ _) (fun q hq => .inl (by injection hq with hq; simp [hq]))).drew
  have hown3 : Own (W2.setCell ⟨gr, x.d.toNat, none⟩ (.int .u64 (v.toNat : Int))).drew Br 50 (some ⟨gr, 0, none⟩) cr (R.set x.d.toNat v) := (hown1.set1 x.d.toNat v _ rfl).drew
  rw [HR'.out] at hown3
  have hown4 := hown2.turned hT3 (fun q hq => by simp at hq; simp; omega)
  have hBs3 : Blk (W2.setCell ⟨gr, x.d.toNat, none⟩ (.int .u64 (v.toNat : Int))).drew w.heap.size 246 #[.slice (some ⟨gr, 0, none⟩) nr cr, .slice (some ⟨ga, 0, none⟩) na ca, .slice (some ⟨bt, ot, none⟩) nt ct] := (hT3.block _ (by omega) (by simp; omega)).trans hBs
  have hBo3 : Blk (W2.setCell ⟨gr, x.d.toNat, none⟩ (.int .u64 (v.toNat : Int))).drew (w.heap.size + 1) 89 #[.int .i64 x.kind, .int .i64 x.d, .int .i64 x.a, .int .i64 x.b, .int .u64 (x.v.toNat : Int)] := (hT3.block _ (by omega) (by simp; omega)).trans hBo
  have hTT3 : Turned [gr, ga] w (W2.setCell ⟨gr, x.d.toNat, none⟩ (.int .u64 (v.toNat : Int))).drew := (hTu.mono (fun q hq => .inl (by simp at hq; simp [hq]))).trans hT3 (fun q hq => .inl (by simp at hq; simp [hq]))
  have hz3 := hT3.size
  clear s0 s1 s2 s3 s4 s5 o0 o1 o2 o3 o4 o5 o6 o7 o8 o9 rd rf hown1 hown2 hBs hBo hTu hct2
  generalize (W2.setCell ⟨gr, x.d.toNat, none⟩ (.int .u64 (v.toNat : Int))).drew = W3 at *
  obtain ⟨s0, s1, s2, s3, s4, s5⟩ := hBs3.c3
  obtain ⟨o0, o1, o2, o3, o4, o5, o6, o7, o8, o9⟩ := hBo3.c5
  have ra : W3.cell? ⟨gr, x.a.toNat, none⟩ = some (.int .u64 (va.toNat : Int)) := by simpa [Flat.n] using hown3.cellAt KRa.out (f := 0) rfl
  have rb : W3.cell? ⟨gr, x.b.toNat, none⟩ = some (.int .u64 (vb.toNat : Int)) := by simpa [Flat.n] using hown3.cellAt KRb.out (f := 0) rfl
  have hsz1 : w.heap.size < W3.heap.size := by omega
  have hsz2 : w.heap.size + 1 < W3.heap.size := by omega
  have hd0 : Below W3.heap.size W3 W3.drew := Below.drew (Below.refl _ _)
  go_region_held3 (fun w' => (w'.cell? ⟨w.heap.size, 0, none⟩ = some (.slice (some ⟨gr, 0, none⟩) nr cr) ∧ w'.cell? ⟨w.heap.size, 1, none⟩ = some (.slice (some ⟨ga, 0, none⟩) na ca)) ∧ (w'.cell? ⟨w.heap.size + 1, 0, none⟩ = some (.int .i64 x.kind) ∧ w'.cell? ⟨w.heap.size + 1, 1, none⟩ = some (.int .i64 x.d) ∧ w'.cell? ⟨w.heap.size + 1, 2, none⟩ = some (.int .i64 x.a) ∧ w'.cell? ⟨w.heap.size + 1, 3, none⟩ = some (.int .i64 x.b) ∧ w'.cell? ⟨w.heap.size + 1, 4, none⟩ = some (.int .u64 (x.v.toNat : Int))) ∧ w'.cell? ⟨gr, x.a.toNat, none⟩ = some (.int .u64 (va.toNat : Int)) ∧ w'.cell? ⟨gr, x.b.toNat, none⟩ = some (.int .u64 (vb.toNat : Int))) (go_keep)
    ((go_at_call 153; go_must ((refine (HP.out _).mono ?_); rintro e w4 ⟨rfl, hb4⟩; have hB4 := hd0.trans (hb4.mono hd0.size); obtain ⟨y0, _⟩ := bcell hB4; have t0 := (y0 _ 0 hsz1).trans s0; have t1 := (y0 _ 1 hsz1).trans s1; have p0 := (y0 _ 0 hsz2).trans o0; have p1 := (y0 _ 1 hsz2).trans o1; have p2 := (y0 _ 2 hsz2).trans o2; have p3 := (y0 _ 3 hsz2).trans o3; have p4 := (y0 _ 4 hsz2).trans o4; have pa := (y0 gr x.a.toNat (by omega)).trans ra; have pb := (y0 gr x.b.toNat (by omega)).trans rb)))
  have hown5 := hown3.belowN hB4
  have hown6 := hown4.belowN hB4
  have c6 : w4.cell? ⟨ga, x.a.toNat, none⟩ = some (.int .u64 (u1.toNat : Int)) := by simpa [Flat.n] using hown6.cellAt KA1.out (f := 0) rfl
  have f6 := hown6.frozen x.a.toNat
  have hown7 := hown6.set1 x.a.toNat (u1 + p * g) _ rfl
  rw [HA2.out] at hown7
  have c7 : (w4.setCell ⟨ga, x.a.toNat, none⟩ (.int .u64 ((u1 + p * g).toNat : Int))).cell? ⟨ga, x.b.toNat, none⟩ = some (.int .u64 (u2.toNat : Int)) := by simpa [Flat.n] using hown7.cellAt KA2.out (f := 0) rfl
  have f7 := hown6.frozen x.b.toNat
  have hown8 := hown7.set1 x.b.toNat (u2 + q * g) _ rfl
  rw [HA3.out] at hown8
  have hT8 : Turned [gr, ga] w ((w4.setCell ⟨ga, x.a.toNat, none⟩ (.int .u64 ((u1 + p * g).toNat : Int))).setCell ⟨ga, x.b.toNat, none⟩ (.int .u64 ((u2 + q * g).toNat : Int))) :=
    ((hTT3.trans (Turned.ofBelow (F := []) hB4) (fun q hq => by cases hq)).trans (Turned.ofGrown (F := [ga]) (grown_setCell _ _ _ _) (fun q hq => .inl (by injection hq with hq; simp [hq]))) (fun q hq => .inl (by simp at hq; simp [hq]))).trans (Turned.ofGrown (F := [ga]) (grown_setCell _ _ _ _) (fun q hq => .inl (by injection hq with hq; simp [hq]))) (fun q hq => .inl (by simp at hq; simp [hq]))
  have hown9 := hown5.turned (Turned.ofGrown (F := [ga]) (grown_setCell w4 ga x.a.toNat (.int .u64 ((u1 + p * g).toNat : Int))) (fun q hq => .inl (by injection hq with hq; simp [hq]))) (fun q hq => by simp at hq; simp; omega)
  have hown10 := hown9.turned (Turned.ofGrown (F := [ga]) (grown_setCell _ ga x.b.toNat (.int .u64 ((u2 + q * g).toNat : Int))) (fun q hq => .inl (by injection hq with hq; simp [hq]))) (fun q hq => by simp at hq; simp; omega)
  have hz4 := hB4.size
  by_cases hab : x.b.toNat = x.a.toNat
  · have hu2 : u2 = u1 + p * g := by
      have h := KA2.out
      rw [← HA2.out, hab, List.getElem?_set_self (by have := (List.getElem?_eq_some_iff.1 KA1.out).1; omega)] at h
      injection h with h
      exact h.symm
    subst hu2
    rw [hab] at hown8 hT8 hown10
    clear hown5 hown6 hown7 hown9 c7 f7
    go_wp2
    go_end0
    first
      | (rw [u64_mac u1 p g, e2]; exact ⟨rfl, hown10, hown8, hT8⟩)
      | (rw [u64_mac u1 p g, u64_mac u2 q g]; exact ⟨rfl, hown10, hown8, hT8⟩)
  · have hab2 : ¬ x.a.toNat = x.b.toNat := fun e => hab e.symm
    have c8 : w4.cell? ⟨ga, x.b.toNat, none⟩ = some (.int .u64 (u2.toNat : Int)) := by
      have h := KA2.out
      rw [← HA2.out, List.getElem?_set_ne hab2] at h
      simpa [Flat.n] using hown6.cellAt h (f := 0) rfl
    clear hown5 hown6 hown7 hown9 c7
    go_wp2
    go_end0
    first
      | (rw [u64_mac u1 p g, e2]; exact ⟨rfl, hown10, hown8, hT8⟩)
      | (rw [u64_mac u1 p g, u64_mac u2 q g]; exact ⟨rfl, hown10, hown8, hT8⟩)
end Go.Proofs.YtcamcnahkdiefaaGreat

/- Chapter 22: adjoints taken back by the machine. -/
namespace Go.Proofs.YtcamcnahkdiefaaGreat
set_option linter.unusedVariables false
set_option linter.unusedSimpArgs false
open Go.RowKit
theorem blk_new_eq (w : World) (T : TypeId) (cs : Array Value) {n : Nat} (h : w.heap.size = n) : Blk (w.alloc (.cells cs T)) n T cs := by subst h; exact Blk.new w T cs
theorem frame63 {t : Array Value} (h : t.size = 63) {s1 s2 s3 s6 s7 s8 : Value} (h1 : t.getD 1 undef = s1) (h2 : t.getD 2 undef = s2) (h3 : t.getD 3 undef = s3) (h6 : t.getD 6 undef = s6) (h7 : t.getD 7 undef = s7) (h8 : t.getD 8 undef = s8) :
    ∃ u : Nat → Value, t = #[u 0, s1, s2, s3, u 4, u 5, s6, s7, s8, u 9, u 10, u 11, u 12, u 13, u 14, u 15, u 16, u 17, u 18, u 19, u 20, u 21, u 22, u 23, u 24, u 25, u 26, u 27, u 28, u 29, u 30, u 31, u 32, u 33, u 34, u 35, u 36, u 37, u 38, u 39, u 40, u 41, u 42, u 43, u 44, u 45, u 46, u 47, u 48, u 49, u 50, u 51, u 52, u 53, u 54, u 55, u 56, u 57, u 58, u 59, u 60, u 61, u 62] :=
  ⟨fun i => t.getD i undef, by subst h1 h2 h3 h6 h7 h8; exact arr_of_size t 63 h⟩
def SxJ (code : List (OpD × Int)) (steps : List Tk) (ac : Option Addr) (cc gr nr cr ga na ca : Nat) (ta : Option Addr) (nt ct Br Ba Bs Bl n : Nat) (r0 a0 t0 : List UInt64) (W : World) (N : Nat) (a' : Act) (wr : World) : Prop :=
  ∃ (pre rest : List Tk) (p : Int) (m k : Nat) (st : List UInt64), a'.defers = [] ∧ a'.tmps.size = 63 ∧
    a'.tmps.getD 1 undef = .slice ac code.length cc ∧ a'.tmps.getD 2 undef = .int .i64 (m : Int) ∧ a'.tmps.getD 3 undef = .pointer (some ⟨Bs, 0, none⟩) ∧ a'.tmps.getD 6 undef = .pointer (some ⟨Bl, 0, none⟩) ∧
    a'.tmps.getD 7 undef = .int .i64 p ∧ a'.tmps.getD 8 undef = .int .i64 (k : Int) ∧
    rest.length = N ∧ p < code.length ∧ k = st.length ∧ k ≤ 8 ∧ ChnB code (p, st) rest (-1, []) ∧ steps = pre ++ rest ∧ m + (wrs (pre.map (·.op))).length = n ∧ m ≤ 1200000 ∧
    LeftAt wr Bl st ∧ Blk wr Bs 246 #[.slice (some ⟨gr, 0, none⟩) nr cr, .slice (some ⟨ga, 0, none⟩) na ca, .slice ta nt ct] ∧ Own wr Br 50 (some ⟨gr, 0, none⟩) cr (bkR n t0 r0 a0 (wrs (pre.map (·.op))).reverse).1 ∧ Own wr Ba 50 (some ⟨ga, 0, none⟩) ca (bkR n t0 r0 a0 (wrs (pre.map (·.op))).reverse).2 ∧ Turned [gr, ga] W wr

set_option maxRecDepth 100000 in
set_option maxHeartbeats 6400000 in
theorem back_calls (regs : Int) (f : Fo) (g : Good regs f) (ac : Option Addr) (cc gr nr cr ga na ca : Nat) (ta : Option Addr) (nt ct Br Ba n : Nat) (r0 a0 t0 : List UInt64) (w : World) (hn : n = f.unroll.length)
    (hc : At w ac (f.bare.code 0)) (hcb : f.bare.code 0 ≠ [] → ∀ q, ac.map (·.block) = some q → q ≠ gr ∧ q ≠ ga)
    (hr : Own w Br 50 (some ⟨gr, 0, none⟩) cr r0) (hrl : (r0.length : Int) = regs) (ha : Own w Ba 50 (some ⟨ga, 0, none⟩) ca a0) (hal : (a0.length : Int) = regs) (hrga : gr ≠ ga)
    (hnr : nr = r0.length) (hna : na = a0.length) (hnt : nt = t0.length) (hnt6 : nt ≤ 1000000)
    (ht : At w ta t0) (htl : f.unroll.length ≤ t0.length) (hne : ∀ q, ta.map (·.block) = some q → q ≠ gr ∧ q ≠ ga) :
    Calls Tryz.prog 159 #[.agg #[.slice (some ⟨gr, 0, none⟩) nr cr, .slice (some ⟨ga, 0, none⟩) na ca, .slice ta nt ct], .slice ac (f.bare.code 0).length cc, .int .i64 (n : Int)] w fun e w' => e = .returned (.tuple #[]) ∧ Own w' Br 50 (some ⟨gr, 0, none⟩) cr (backR f.unroll t0 r0 a0).1 ∧ Own w' Ba 50 (some ⟨ga, 0, none⟩) ca (backR f.unroll t0 r0 a0).2 ∧ Turned [gr, ga] w w' := by
  have hlen := g.code_length
  have HTK := hide g.tkB
  have HPOS := hide g.tkB_pos
  have hchn := hide g.chnB
  have HIN := hide g.tkB_in
  have HOPS := hide g.stepsB_ops
  have hul : f.unroll.length ≤ 65536 := by rw [Fo.unroll_length]; exact g.few
  obtain ⟨r1, r2⟩ : 1 ≤ regs ∧ regs ≤ 64 := ⟨g.r1, g.r2⟩
  generalize f.bare.code 0 = code at *
  generalize f.stepsB = steps at *
  generalize f.unroll = U at *
  have HCB := hide hcb
  have HRL := hide hrl
  have HAL := hide hal
  have hgr := (hr.blk gr rfl)
  have hga := (ha.blk ga rfl)
  have hnr64 : nr ≤ 64 := by omega
  have hna64 : na ≤ 64 := by omega
  have HNR := hide hnr
  have HNA := hide hna
  have HNT := hide hnt
  have HTL := hide htl
  have HNE := hide hne
  have HN := hide hn
  have hn6 : n ≤ 65536 := by omega
  clear hcb hrl hal g hnr hna hnt htl hne hn
  have hb1 := Blk.new w 246 #[.slice (some ⟨gr, 0, none⟩) nr cr, .slice (some ⟨ga, 0, none⟩) na ca, .slice ta nt ct]
  have HB1 := hide hb1
  clear hb1
  go_enter Tryz.func159, Tryz.ntmps159
  go_wp2
  refine wp_scope_at 0 (fun a' wr => ∃ N, SxJ code steps ac cc gr nr cr ga na ca ta nt ct Br Ba w.heap.size (w.heap.size + 1) n r0 a0 t0 w N a' wr) (fun a' wr => leastOf fun N => SxJ code steps ac cc gr nr cr ga na ca ta nt ct Br Ba w.heap.size (w.heap.size + 1) n r0 a0 t0 w N a' wr) rfl ?_ ?_
  · go_wp2
    exact ⟨steps.length, [], steps, (code.length : Int) - 1, n, 0, [], rfl, rfl, rfl, rfl, rfl, rfl, rfl, rfl, rfl, by omega, rfl, by omega, hchn.out, rfl, rfl, by omega,
      ⟨_, blk_new_eq _ _ _ (by simp), rfl, fun i v h => by simp at h⟩, HB1.out.alloc _, (hr.alloc _).alloc _, (ha.alloc _).alloc _, Turned.ofBelow (below2 _ _ _)⟩
  · intro a' wr hJ
    obtain ⟨N0, hN0⟩ : ∃ N0, N0 = leastOf (fun N => SxJ code steps ac cc gr nr cr ga na ca ta nt ct Br Ba w.heap.size (w.heap.size + 1) n r0 a0 t0 w N a' wr) := ⟨_, rfl⟩
    have hs := (leastOf_spec hJ).1
    rw [← hN0] at hs
    obtain ⟨pre, rest, p, m, k, st, hdf, hsz, f1, f2, f3, f6, f7, f8, hrN, hp, hk, hk8, hch, hst, hd, hd5, hL, hbs, hown, howA, hT⟩ := hs
    obtain ⟨tm, df⟩ := a'
    simp only at hdf hsz f1 f2 f3 f6 f7 f8
    obtain ⟨u, rfl⟩ := frame63 hsz f1 f2 f3 f6 f7 f8
    subst hdf
    clear hsz f1 f2 f3 f6 f7 f8
    have HN0 := hide hN0
    have HKK := hide hk
    have HST := hide hst
    have HD := hide hd
    have HCH := hide hch
    have hzT := hT.size
    have hXr : At wr ac code := hc.turned hT (fun hne q hq e => by
      have h1 := HCB.out hne q e
      simp at hq; exact hq.elim h1.1 h1.2)
    have hTr : At wr ta t0 := ht.turned hT (fun _ q hq e => by
      have h1 := HNE.out q e
      simp at hq; exact hq.elim h1.1 h1.2)
    have hbsl := hbs.lt
    have hLl := hL.lt
    clear hN0 hk hst hd hch hJ
    cases rest with
    | nil =>
      have e := HCH.out
      change (p, st) = (-1, []) at e
      injection e with e1 e2
      subst e1
      have hU : (wrs (pre.map (·.op))).reverse = U := by rw [← List.reverse_reverse U, ← HOPS.out, HST.out]; simp
      have HUU := hide hU
      clear e2 hU
      go_wp2
      simp only [Exit.jump]
      try rw [Exit.noGoto_ret]
      refine bodyPost_ret (results_none rfl _ _ _) rfl ⟨rfl, ?_, ?_, hT⟩
      · rw [HUU.out, HN.out, bkR_all] at hown
        exact hown
      · rw [HUU.out, HN.out, bkR_all] at howA
        exact howA
    | cons x rest =>
      obtain ⟨e1, e2, e3⟩ := HCH.out
      injection e1 with e1a e1b
      subst e1a e1b
      have hplt : x.at' < code.length := (List.getElem?_eq_some_iff.1 e2).1
      have bp : decide ((x.at' : Int) < 0) = false := by simp
      have hpU : wrs (pre.map (·.op)) ++ wrs ((x :: rest).map (·.op)) = U.reverse := by rw [← wrs_append, ← List.map_append, ← HST.out, HOPS.out]
      have hmem : x ∈ steps := by rw [HST.out]; simp
      obtain ⟨t1, t2, t3, t4, t5, t6, t7⟩ := HTK.out x hmem
      obtain ⟨b1, off1, hac, x0, x1, x2, x3, x4, x5⟩ := hXr.getIns (Below.refl _ _) e2
      subst hac
      simp only at x0 x1 x2 x3 x4 x5
      have KEEP : Hid (∀ W3, Turned [w.heap.size + 1] wr W3 → Blk W3 w.heap.size 246 #[.slice (some ⟨gr, 0, none⟩) nr cr, .slice (some ⟨ga, 0, none⟩) na ca, .slice ta nt ct] ∧ Own W3 Br 50 (some ⟨gr, 0, none⟩) cr (bkR n t0 r0 a0 (wrs (pre.map (·.op))).reverse).1 ∧ Own W3 Ba 50 (some ⟨ga, 0, none⟩) ca (bkR n t0 r0 a0 (wrs (pre.map (·.op))).reverse).2 ∧ Turned [gr, ga] w W3) := fun W3 hT3 =>
        ⟨(hT3.block _ hbsl (by simp)).trans hbs, hown.turned hT3 (fun q hq => by simp at hq; simp; omega), howA.turned hT3 (fun q hq => by simp at hq; simp; omega), hT.trans hT3 (fun q hq => by simp at hq; exact .inr (by omega))⟩
      have hmap : (pre ++ [x]).map (·.op) = pre.map (·.op) ++ [x.op] := by simp
      have hst2 : steps = (pre ++ [x]) ++ rest := by rw [HST.out]; simp
      have hsn := wrs_snoc' (pre.map (·.op)) x.op
      rw [← hmap] at hsn
      have HSN := hide hsn
      have HST2 := hide hst2
      have HE3 := hide e3
      have HPX := hide (HPOS.out x hmem)
      have HINX := hide (HIN.out x hmem)
      have HPU := hide hpU
      clear hmap hst2 hsn e2 e3 hmem hpU t5
      rcases kind_cases x.op with ⟨k7, b7, b0⟩ | ⟨k0, b7, b0⟩ | ⟨k7, k0, b7, b0⟩
      · obtain ⟨hst0, hto1, hto2⟩ := t4 k7
        obtain ⟨j, hj⟩ : ∃ j : Nat, x.to = (j : Int) + 2 := ⟨(x.to - 2).toNat, by omega⟩
        rw [hj] at x5
        have hj1 : (j : Int) < code.length := by omega
        obtain ⟨st', last, hst'⟩ : ∃ st' last, x.st = st' ++ [last] := ⟨x.st.dropLast, x.st.getLast hst0, (List.dropLast_concat_getLast hst0).symm⟩
        have hpos := HPX.out k7
        have hk' : k = st'.length + 1 := by rw [HKK.out, hst']; simp
        obtain ⟨k', rfl⟩ : ∃ k', k = k' + 1 := ⟨k - 1, by omega⟩
        have hk2 : k' = st'.length := by omega
        have hgl : x.st.getLast?.getD 0 = last := by rw [hst']; simp
        rw [hgl] at hpos
        have hub := last.toNat_lt
        have hlast : x.st[k']? = some last := by rw [hst', hk2]; simp
        have c0 := hL.cell hlast
        obtain ⟨v0, c0', c1⟩ := hL.room (i := k') (by omega)
        have hsub : ((last.toNat : Int) - 1) = ((last - 1).toNat : Int) := by rw [UInt64.toNat_sub]; simp; omega
        have hL1 : LeftAt wr (w.heap.size + 1) (st' ++ [last]) := by rw [← hst']; exact hL
        have hL3 := hL1.turn (by omega) (last - 1)
        rw [← hsub, ← hk2] at hL3
        have HL3 := hide hL3
        have hws : wrs ((pre ++ [x]).map (·.op)) = wrs (pre.map (·.op)) := by rw [HSN.out, if_neg (fun h => h.1 k7)]
        have HWS := hide hws
        have HK2 := hide hk2
        have HS' := hide hst'
        have hkk8 : (k' : Int) < 8 := by omega
        clear c0' hL1 hL3
        by_cases hq : 1 < last.toNat
        · have hnx : x.back code = ((j : Int), st' ++ [last - 1]) := by unfold Tk.back; rw [if_neg (by omega), if_pos k7, hgl, if_pos hq, hst', hj]; simp
          have hch2 := HE3.out
          rw [hnx] at hch2
          have HCH2 := hide hch2
          have hdq : decide (0 < (last.toNat : Int) - 1) = true := by simp; omega
          clear hnx hch2 k7 t3 t4 hlast hgl hsub hst0 hst' hk2 hk' HPX hws hj hto1 hto2
          go_wp2
          go_step3
          refine ⟨rfl, ?_⟩
          suffices hnew : SxJ code steps (some ⟨b1, off1, none⟩) cc gr nr cr ga na ca ta nt ct Br Ba w.heap.size (w.heap.size + 1) n r0 a0 t0 w rest.length _ _ from ⟨⟨_, hnew⟩, TxJ.measure (J := SxJ code steps (some ⟨b1, off1, none⟩) cc gr nr cr ga na ca ta nt ct Br Ba w.heap.size (w.heap.size + 1) n r0 a0 t0 w) (by have := HN0.out; rw [← this, ← hrN]; rfl) hnew⟩
          refine ⟨pre ++ [x], rest, (j : Int), m, k' + 1, st' ++ [last - 1], rfl, rfl, rfl, rfl, rfl, rfl, rfl, congrArg (Value.int .i64) (by omega), rfl, by omega, by rw [List.length_append, ← HK2.out]; rfl, by omega, HCH2.out, HST2.out, by rw [HWS.out]; exact HD.out, hd5,
            HL3.out.turned (Turned.ofBelow (F := []) (below_new12 _ _)) (by simp), ?_⟩
          rw [HWS.out]
          exact KEEP.out _ ((Turned.ofGrown (F := [w.heap.size + 1]) (grown_setCell _ _ _ _) (fun q hq => .inl (by injection hq with hq; simp [hq]))).trans (Turned.ofBelow (F := []) (below_new12 _ _)) (fun q hq => by cases hq))
        · have hnx : x.back code = ((x.at' : Int) - 1, st') := by unfold Tk.back; rw [if_neg (by omega), if_pos k7, hgl, if_neg hq, hst']; simp
          have hch2 := HE3.out
          rw [hnx] at hch2
          have HCH2 := hide hch2
          have hdq : decide (0 < (last.toNat : Int) - 1) = false := by simp; omega
          clear hnx hch2 k7 t3 t4 hlast hgl hsub hst0 hst' hk2 hk' HPX hws hj hto1 hto2
          go_wp2
          go_step3
          refine ⟨rfl, ?_⟩
          suffices hnew : SxJ code steps (some ⟨b1, off1, none⟩) cc gr nr cr ga na ca ta nt ct Br Ba w.heap.size (w.heap.size + 1) n r0 a0 t0 w rest.length _ _ from ⟨⟨_, hnew⟩, TxJ.measure (J := SxJ code steps (some ⟨b1, off1, none⟩) cc gr nr cr ga na ca ta nt ct Br Ba w.heap.size (w.heap.size + 1) n r0 a0 t0 w) (by have := HN0.out; rw [← this, ← hrN]; rfl) hnew⟩
          refine ⟨pre ++ [x], rest, (x.at' : Int) - 1, m, k', st', rfl, rfl, rfl, rfl, rfl, rfl, rfl, rfl, rfl, by omega, HK2.out, by omega, HCH2.out, HST2.out, by rw [HWS.out]; exact HD.out, hd5,
            (HL3.out.pop).turned (Turned.ofBelow (F := []) (below_new12 _ _)) (by simp), ?_⟩
          rw [HWS.out]
          exact KEEP.out _ ((Turned.ofGrown (F := [w.heap.size + 1]) (grown_setCell _ _ _ _) (fun q hq => .inl (by injection hq with hq; simp [hq]))).trans (Turned.ofBelow (F := []) (below_new12 _ _)) (fun q hq => by cases hq))
      · obtain ⟨hk0, hto1, hto2⟩ := t3 k0
        obtain ⟨j, hj⟩ : ∃ j : Nat, x.to = (j : Int) + 1 := ⟨(x.to - 1).toNat, by omega⟩
        rw [hj] at x5
        have hj1 : j < code.length := by omega
        obtain ⟨oj, hoj⟩ : ∃ oj, code[j]? = some oj := ⟨_, List.getElem?_eq_getElem hj1⟩
        obtain ⟨b2, off2, hac2, y0, y1, y2, y3, y4, y5⟩ := hXr.getIns (Below.refl _ _) hoj
        injection hac2 with hac2
        injection hac2 with ea eb _
        subst ea eb
        have hvc : vC code (x.to - 1) = oj.1.v := by unfold vC; rw [hj, show ((j : Int) + 1 - 1).toNat = j by omega, hoj]; rfl
        have hnx : x.back code = ((x.at' : Int) - 1, x.st ++ [oj.1.v]) := by unfold Tk.back; rw [if_pos k0, hvc]
        have hch2 := HE3.out
        rw [hnx] at hch2
        have HCH2 := hide hch2
        rw [← HKK.out] at hk0
        have hws : wrs ((pre ++ [x]).map (·.op)) = wrs (pre.map (·.op)) := by rw [HSN.out, if_neg (fun h => h.2 k0)]
        have HWS := hide hws
        obtain ⟨v0, c0, c1⟩ := hL.room (i := k) (by omega)
        have hL3 := hL.push (by have := HKK.out; omega) oj.1.v
        rw [← HKK.out] at hL3
        have HL3 := hide hL3
        clear hL3
        clear hnx hch2 k0 t3 t4 hws hvc hj hto1 hto2 hoj y0 y1 y2 y3 y5
        have hb1l := World.block_lt_of_cell? _ _ y4
        have y6 : (wr.alloc (.cells #[.int .i64 x.op.kind, .int .i64 x.op.d, .int .i64 x.op.a, .int .i64 x.op.b, .int .u64 (x.op.v.toNat : Int), .int .i64 ((j : Int) + 1)] 176)).cell? ⟨b1, off1 + j * 6 + 4, none⟩ = some (.int .u64 (oj.1.v.toNat : Int)) := (World.cell?_of_block ((below_new12 _ _).block b1 hb1l)).trans y4
        clear y4
        go_wp2
        go_step3
        refine ⟨rfl, ?_⟩
        suffices hnew : SxJ code steps (some ⟨b1, off1, none⟩) cc gr nr cr ga na ca ta nt ct Br Ba w.heap.size (w.heap.size + 1) n r0 a0 t0 w rest.length _ _ from ⟨⟨_, hnew⟩, TxJ.measure (J := SxJ code steps (some ⟨b1, off1, none⟩) cc gr nr cr ga na ca ta nt ct Br Ba w.heap.size (w.heap.size + 1) n r0 a0 t0 w) (by have := HN0.out; rw [← this, ← hrN]; rfl) hnew⟩
        refine ⟨pre ++ [x], rest, (x.at' : Int) - 1, m, k + 1, x.st ++ [oj.1.v], rfl, rfl, rfl, rfl, rfl, rfl, rfl, rfl, rfl, by omega, by rw [List.length_append, ← HKK.out]; rfl, by omega, HCH2.out, HST2.out, by rw [HWS.out]; exact HD.out, hd5,
          HL3.out.turned (Turned.ofBelow (F := []) (below_new12 _ _)) (by simp), ?_⟩
        rw [HWS.out]
        exact KEEP.out _ ((Turned.ofGrown (F := [w.heap.size + 1]) (grown_setCell _ _ _ _) (fun q hq => .inl (by injection hq with hq; simp [hq]))).trans (Turned.ofBelow (F := []) (below_new12 _ _)) (fun q hq => by cases hq))
      · have hkk1 : 1 ≤ x.op.kind := by omega
        have hkk2 : x.op.kind ≤ 6 := by omega
        have hinr := HINX.out hkk1 hkk2
        have HRL2 := HRL.out
        have HAL2 := HAL.out
        have hlr : (bkR n t0 r0 a0 (wrs (pre.map (·.op))).reverse).1.length = nr := by rw [bkR_len1, HNR.out]
        have hla : (bkR n t0 r0 a0 (wrs (pre.map (·.op))).reverse).2.length = na := by rw [bkR_len2, HNA.out]
        rw [← HNR.out] at HRL2
        rw [← HNA.out] at HAL2
        have hdU : (wrs (pre.map (·.op))).length < U.length := by
          rw [show U.length = U.reverse.length from List.length_reverse.symm, ← HPU.out, List.length_append, List.map_cons]
          unfold wrs
          rw [List.filter_cons, if_pos (by simp [k7, k0])]
          simp
        obtain ⟨m', rfl⟩ : ∃ m', m = m' + 1 := ⟨m - 1, by have := HD.out; have := HN.out; omega⟩
        have hmt : m' < nt := by have := HD.out; have := HN.out; have := HTL.out; have := HNT.out; omega
        obtain ⟨v, hv⟩ : ∃ v, t0[m']? = some v := ⟨t0[m']'(by have := HNT.out; omega), List.getElem?_eq_getElem _⟩
        have hstep : bkR n t0 r0 a0 (wrs ((pre ++ [x]).map (·.op))).reverse = ((bkR n t0 r0 a0 (wrs (pre.map (·.op))).reverse).1.set x.op.d.toNat v, takeA x.op ((bkR n t0 r0 a0 (wrs (pre.map (·.op))).reverse).1.set x.op.d.toNat v) (bkR n t0 r0 a0 (wrs (pre.map (·.op))).reverse).2) := by
          rw [HSN.out, if_pos ⟨k7, k0⟩, List.reverse_append, List.reverse_singleton, List.singleton_append]
          exact bkR_cons (by rw [List.length_reverse]; have := HD.out; omega) (by rw [List.length_reverse, show n - (wrs (pre.map (·.op))).length - 1 = m' by have := HD.out; omega]; exact hv)
        have HSTP := hide hstep
        have HMM : Hid (m' + (wrs ((pre ++ [x]).map (·.op))).length = n) := by show _ = _; rw [HSN.out, if_pos ⟨k7, k0⟩, List.length_append]; have := HD.out; simp; omega
        have hT02 : Turned [] wr (wr.alloc (.cells #[.int .i64 x.op.kind, .int .i64 x.op.d, .int .i64 x.op.a, .int .i64 x.op.b, .int .u64 (x.op.v.toNat : Int), .int .i64 x.to] 176)) := Turned.ofBelow (F := []) (below_new12 _ _)
        have hown2 := hown.turned hT02 (fun q hq => by simp)
        have howA2 := howA.turned hT02 (fun q hq => by simp)
        have hbs2 : Blk _ _ _ _ := (hT02.block _ hbsl (by simp)).trans hbs
        have hL2 := hL.turned hT02 (by simp)
        have hT2 : Turned [gr, ga] w _ := hT.trans hT02 (fun q hq => by cases hq)
        have hTr2 : At (wr.alloc (.cells #[.int .i64 x.op.kind, .int .i64 x.op.d, .int .i64 x.op.a, .int .i64 x.op.b, .int .u64 (x.op.v.toNat : Int), .int .i64 x.to] 176)) ta t0 := hTr.turned hT02 (fun _ q hq => by cases hq)
        have HTK2 : Hid (∀ W, Own W Br 50 (some ⟨gr, 0, none⟩) cr (bkR n t0 r0 a0 (wrs (pre.map (·.op))).reverse).1 → Own W Ba 50 (some ⟨ga, 0, none⟩) ca (bkR n t0 r0 a0 (wrs (pre.map (·.op))).reverse).2 → At W ta t0 → Calls Tryz.prog 186 #[.agg #[.slice (some ⟨gr, 0, none⟩) nr cr, .slice (some ⟨ga, 0, none⟩) na ca, .slice ta nt ct], .agg #[.int .i64 x.op.kind, .int .i64 x.op.d, .int .i64 x.op.a, .int .i64 x.op.b, .int .u64 (x.op.v.toNat : Int)], .int .i64 (m' : Int)] W fun e w' => e = .returned (.tuple #[]) ∧ Own w' Br 50 (some ⟨gr, 0, none⟩) cr (bkR n t0 r0 a0 (wrs ((pre ++ [x]).map (·.op))).reverse).1 ∧ Own w' Ba 50 (some ⟨ga, 0, none⟩) ca (bkR n t0 r0 a0 (wrs ((pre ++ [x]).map (·.op))).reverse).2 ∧ Turned [gr, ga] W w') := by
          show ∀ W, _
          intro W o1 o2 o3
          rw [HSTP.out]
          exact take_calls regs x.op hinr gr ga nr cr na ca ta nt ct Br Ba _ _ t0 m' v hv HNT.out hlr.symm hla.symm (by rw [hlr]; exact HRL2) (by rw [hla]; exact HAL2) r2 hnt6 W o1 o2 o3 hrga HNE.out
        have hnx : x.back code = ((x.at' : Int) - 1, x.st) := by unfold Tk.back; rw [if_neg k0, if_neg k7]
        have hch2 := HE3.out
        rw [hnx] at hch2
        have HCH2 := hide hch2
        obtain ⟨s0, s1, s2, s3, s4, s5⟩ := hbs2.c3
        clear hlr hla t3 t4 HPX hkk1 hkk2 hnx hch2 hstep hv k7 k0 hinr
        go_wp2_with (go_at_call 186; go_must ((with_reducible refine (HTK2.out _ hown2 howA2 hTr2).mono ?_); rintro e w4 ⟨rfl, hown4, howA4, hT4⟩))
        have hL4 := hL2.turned hT4 (by simp; omega)
        have hbs4 := (hT4.block _ hbs2.lt (by simp; omega)).trans hbs2
        have hTT : Turned [gr, ga] w w4 := hT2.trans hT4 (fun q hq => .inl hq)
        go_step3
        refine ⟨rfl, ?_⟩
        suffices hnew : SxJ code steps (some ⟨b1, off1, none⟩) cc gr nr cr ga na ca ta nt ct Br Ba w.heap.size (w.heap.size + 1) n r0 a0 t0 w rest.length _ _ from ⟨⟨_, hnew⟩, TxJ.measure (J := SxJ code steps (some ⟨b1, off1, none⟩) cc gr nr cr ga na ca ta nt ct Br Ba w.heap.size (w.heap.size + 1) n r0 a0 t0 w) (by have := HN0.out; rw [← this, ← hrN]; rfl) hnew⟩
        exact ⟨pre ++ [x], rest, (x.at' : Int) - 1, m', k, x.st, rfl, rfl, rfl, rfl, rfl, rfl, rfl, rfl, rfl, by omega, HKK.out, by omega, HCH2.out, HST2.out, HMM.out, by omega, hL4, hbs4, hown4, howA4, hTT⟩
end Go.Proofs.YtcamcnahkdiefaaGreat
