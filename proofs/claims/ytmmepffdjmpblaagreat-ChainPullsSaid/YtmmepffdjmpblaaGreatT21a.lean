/- Chapter 21: the machine that runs and keeps. -/
import Derived.Test.YtmmepffdjmpblaaGreatQk
import Derived.Test.YtmmepffdjmpblaaGreatTp
namespace Go.Proofs.YtmmepffdjmpblaaGreat
set_option linter.unusedVariables false
set_option linter.unusedSimpArgs false
open Go.RowKit

theorem frame79 {t : Array Value} (h : t.size = 79) {s0 s1 s2 s7 s8 s9 s10 : Value} (h0 : t.getD 0 undef = s0) (h1 : t.getD 1 undef = s1) (h2 : t.getD 2 undef = s2) (h7 : t.getD 7 undef = s7) (h8 : t.getD 8 undef = s8) (h9 : t.getD 9 undef = s9) (h10 : t.getD 10 undef = s10) :
    ∃ u : Nat → Value, t = #[s0, s1, s2, u 3, u 4, u 5, u 6, s7, s8, s9, s10, u 11, u 12, u 13, u 14, u 15, u 16, u 17, u 18, u 19, u 20, u 21, u 22, u 23, u 24, u 25, u 26, u 27, u 28, u 29, u 30, u 31, u 32, u 33, u 34, u 35, u 36, u 37, u 38, u 39, u 40, u 41, u 42, u 43, u 44, u 45, u 46, u 47, u 48, u 49, u 50, u 51, u 52, u 53, u 54, u 55, u 56, u 57, u 58, u 59, u 60, u 61, u 62, u 63, u 64, u 65, u 66, u 67, u 68, u 69, u 70, u 71, u 72, u 73, u 74, u 75, u 76, u 77, u 78] :=
  ⟨fun i => t.getD i undef, by subst h0 h1 h2 h7 h8 h9 h10; exact arr_of_size t 79 h⟩
/-- the block of a slice, if there is one -/
def blkL (a : Option Addr) : List Nat := (a.map (·.block)).toList
theorem blkL_mem {a : Option Addr} {q : Nat} : q ∈ blkL a ↔ a.map (·.block) = some q := by unfold blkL; simp
/-- Where the machine stands when `N` steps are to come. -/
def TxJ (code : List (OpD × Int)) (steps : List Tk) (ac : Option Addr) (cc gr nr cr : Nat) (ta : Option Addr) (nt ct Br Bt Bl : Nat) (r0 t0 : List UInt64) (W : World) (N : Nat) (a' : Act) (wr : World) : Prop :=
  ∃ (pre rest : List Tk) (p d k : Nat) (st : List UInt64), a'.defers = [] ∧ a'.tmps.size = 79 ∧
    a'.tmps.getD 0 undef = .slice ac code.length cc ∧ a'.tmps.getD 1 undef = .slice (some ⟨gr, 0, none⟩) nr cr ∧ a'.tmps.getD 2 undef = .slice ta nt ct ∧ a'.tmps.getD 7 undef = .pointer (some ⟨Bl, 0, none⟩) ∧
    a'.tmps.getD 8 undef = .int .i64 (p : Int) ∧ a'.tmps.getD 9 undef = .int .i64 (k : Int) ∧ a'.tmps.getD 10 undef = .int .i64 (d : Int) ∧
    rest.length = N ∧ p ≤ code.length ∧ k = st.length ∧ k ≤ 8 ∧ Chn code (p, st) rest (code.length, []) ∧ steps = pre ++ rest ∧ d = (wrs (pre.map (·.op))).length ∧ d ≤ 1200000 ∧
    LeftAt wr Bl st ∧ Own wr Br 50 (some ⟨gr, 0, none⟩) cr (runR (wrs (pre.map (·.op))) r0) ∧ Own wr Bt 50 ta ct (tpR (wrs (pre.map (·.op))) r0 t0) ∧ Turned (gr :: blkL ta) W wr
theorem TxJ.measure {J : Nat → Act → World → Prop} {N : Nat} {a a' : Act} {w w' : World} (hN : N + 1 = leastOf (fun N => J N a w)) (h : J N a' w') : leastOf (fun N => J N a' w') < leastOf (fun N => J N a w) := by
  have := (leastOf_spec (p := fun N => J N a' w') ⟨N, h⟩).2 N h
  omega

set_option maxRecDepth 100000 in
set_option maxHeartbeats 6400000 in
theorem texec_calls (regs : Int) (f : Fo) (g : Good regs f) (ac : Option Addr) (cc gr cr : Nat) (ta : Option Addr) (ct Br Bt : Nat) (r0 t0 : List UInt64) (w : World)
    (hc : At w ac (f.bare.code 0)) (hcb : f.bare.code 0 ≠ [] → ∀ q, ac.map (·.block) = some q → q ≠ gr ∧ ta.map (·.block) ≠ some q)
    (hr : Own w Br 50 (some ⟨gr, 0, none⟩) cr r0) (hrl : (r0.length : Int) = regs)
    (ht : Own w Bt 50 ta ct t0) (htl : f.unroll.length ≤ t0.length) (hne : ta.map (·.block) ≠ some gr) :
    Calls Tryz.prog 62 #[.slice ac (f.bare.code 0).length cc, .slice (some ⟨gr, 0, none⟩) r0.length cr, .slice ta t0.length ct] w fun e w' => e = .returned (.int .i64 (f.unroll.length : Int)) ∧ Own w' Br 50 (some ⟨gr, 0, none⟩) cr (runR f.unroll r0) ∧ Own w' Bt 50 ta ct (tpR f.unroll r0 t0) ∧ Turned (gr :: blkL ta) w w' := by
  have hlen := g.code_length
  have HTK := hide g.tk
  have HPOS := hide g.tk_pos
  have hchn := hide g.chn
  have HIN := hide g.tk_in
  have HOPS := hide g.steps_ops
  have hgl := g.gone_le
  rw [← steps_length] at hgl
  obtain ⟨r1, r2⟩ : 1 ≤ regs ∧ regs ≤ 64 := ⟨g.r1, g.r2⟩
  generalize f.bare.code 0 = code at *
  generalize f.steps = steps at *
  generalize f.unroll = U at *
  have HCB := hide hcb
  have HRL := hide hrl
  have hgr := (hr.blk gr rfl)
  have HTB := hide (show ∀ q, ta.map (·.block) = some q → q < w.heap.size from fun q hq => (ht.blk q hq).2)
  obtain ⟨nr, hnr⟩ : ∃ nr, nr = r0.length := ⟨_, rfl⟩
  have hnr64 : nr ≤ 64 := by omega
  have HNR := hide hnr
  rw [← hnr]
  obtain ⟨nt, hnt⟩ : ∃ nt, nt = t0.length := ⟨_, rfl⟩
  have HNT := hide hnt
  rw [← hnt]
  have HTL := hide htl
  have HNE := hide hne
  clear hcb hrl g hnr hnt htl hne
  go_enter Tryz.func62, Tryz.ntmps62
  go_wp2
  refine wp_scope_at 0 (fun a' wr => ∃ N, TxJ code steps ac cc gr nr cr ta nt ct Br Bt w.heap.size r0 t0 w N a' wr) (fun a' wr => leastOf fun N => TxJ code steps ac cc gr nr cr ta nt ct Br Bt w.heap.size r0 t0 w N a' wr) rfl ?_ ?_
  · go_wp2
    exact ⟨steps.length, [], steps, 0, 0, 0, [], rfl, rfl, rfl, rfl, rfl, rfl, rfl, rfl, rfl, rfl, by omega, rfl, by omega, hchn.out, rfl, rfl, by omega,
      ⟨_, Blk.new w _ _, rfl, fun i v h => by simp at h⟩, hr.alloc _, ht.alloc _, Turned.ofBelow (Below.alloc (Below.refl _ _) (Nat.le_refl _) _)⟩
  · intro a' wr hJ
    obtain ⟨N0, hN0⟩ : ∃ N0, N0 = leastOf (fun N => TxJ code steps ac cc gr nr cr ta nt ct Br Bt w.heap.size r0 t0 w N a' wr) := ⟨_, rfl⟩
    have hs := (leastOf_spec hJ).1
    rw [← hN0] at hs
    obtain ⟨pre, rest, p, d, k, st, hdf, hsz, f0, f1, f2, f7, f8, f9, f10, hrN, hp, hk, hk8, hch, hst, hd, hd5, hL, hown, hownT, hT⟩ := hs
    obtain ⟨tm, df⟩ := a'
    simp only at hdf hsz f0 f1 f2 f7 f8 f9 f10
    obtain ⟨u, rfl⟩ := frame79 hsz f0 f1 f2 f7 f8 f9 f10
    subst hdf
    clear hsz f0 f1 f2 f7 f8 f9 f10
    have HN0 := hide hN0
    have HKK := hide hk
    have HST := hide hst
    have HD := hide hd
    have HCH := hide hch
    have hzT := hT.size
    have hXr : At wr ac code := hc.turned hT (fun hne q hq e => by
      obtain ⟨h1, h2⟩ := HCB.out hne q e
      simp only [List.mem_cons] at hq
      exact hq.elim h1 (fun h => h2 (blkL_mem.1 h)))
    have hLl := hL.lt
    clear hN0 hk hst hd hch hJ
    cases rest with
    | nil =>
      have e := HCH.out
      change (p, st) = (code.length, []) at e
      injection e with e1 e2
      subst e1
      have hU : wrs (pre.map (·.op)) = U := by rw [← HOPS.out, HST.out]; simp
      have hdU : d = U.length := by rw [HD.out, hU]
      have HUU := hide hU
      have HDU := hide hdU
      clear e2 hU hdU
      go_wp2
      simp only [Exit.jump]
      try rw [Exit.noGoto_ret]
      refine bodyPost_ret (results_tmp rfl _ _ _) rfl ⟨?_, ?_⟩
      · rw [← HDU.out]; rfl
      rw [← HUU.out]
      exact ⟨hown, hownT, hT⟩
    | cons x rest =>
      obtain ⟨e1, e2, e3⟩ := HCH.out
      injection e1 with e1a e1b
      subst e1a e1b
      have hplt : x.at' < code.length := (List.getElem?_eq_some_iff.1 e2).1
      have bp : ((x.at' : Int) == (code.length : Int)) = false := by simp; omega
      have hpU : wrs (pre.map (·.op)) ++ wrs ((x :: rest).map (·.op)) = U := by rw [← wrs_append, ← List.map_append, ← HST.out, HOPS.out]
      have hmem : x ∈ steps := by rw [HST.out]; simp
      obtain ⟨t1, t2, t3, t4, t5, t6, t7, t8, t9⟩ := HTK.out x hmem
      obtain ⟨b1, off1, hac, x0, x1, x2, x3, x4, x5⟩ := hXr.getIns (Below.refl _ _) e2
      subst hac
      simp only at x0 x1 x2 x3 x4 x5
      have KEEP : Hid (∀ W3, Turned [w.heap.size] wr W3 → Own W3 Br 50 (some ⟨gr, 0, none⟩) cr (runR (wrs (pre.map (·.op))) r0) ∧ Own W3 Bt 50 ta ct (tpR (wrs (pre.map (·.op))) r0 t0) ∧ Turned (gr :: blkL ta) w W3) := fun W3 hT3 =>
        ⟨hown.turned hT3 (fun q hq => by simp at hq; simp; omega), hownT.turned hT3 (fun q hq => by have := HTB.out q hq; simp; omega), hT.trans hT3 (fun q hq => by simp at hq; exact .inr (by omega))⟩
      have hmap : (pre ++ [x]).map (·.op) = pre.map (·.op) ++ [x.op] := by simp
      have hst2 : steps = (pre ++ [x]) ++ rest := by rw [HST.out]; simp
      have hsn := wrs_snoc' (pre.map (·.op)) x.op
      rw [← hmap] at hsn
      have HSN := hide hsn
      have HST2 := hide hst2
      have HE3 := hide e3
      have HPX := hide (HPOS.out x hmem)
      have HINX := hide (HIN.out x hmem)
      have HPU := hide hpU
      have hrdx : d < 1200000 := by
        have h1 := wrs_length' (pre.map (·.op))
        have h2 : (pre.map (·.op)).length + 1 ≤ steps.length := by rw [HST.out]; simp
        have := HD.out
        omega
      clear hmap hst2 hsn e2 e3 hmem hpU t5
      rcases kind_cases x.op with ⟨k7, b7, b0⟩ | ⟨k0, b7, b0⟩ | ⟨k7, k0, b7, b0⟩
      · have hnx : x.next = (x.at' + 1, x.st ++ [x.op.v]) := by unfold Tk.next; rw [if_pos k7]
        have hch2 := HE3.out
        rw [hnx] at hch2
        have HCH2 := hide hch2
        have hk7 := t3 k7
        rw [← HKK.out] at hk7
        have hws : wrs ((pre ++ [x]).map (·.op)) = wrs (pre.map (·.op)) := by rw [HSN.out, if_neg (fun h => h.1 k7)]
        have HWS := hide hws
        obtain ⟨v0, c0, c1⟩ := hL.room (i := k) (by omega)
        have hL3 := hL.push (by have := HKK.out; omega) x.op.v
        rw [← HKK.out] at hL3
        have HL3 := hide hL3
        clear hL3
        clear hnx hch2 k7 t3 t4 hws
        go_wp2
        go_step3
        refine ⟨rfl, ?_⟩
        suffices hnew : TxJ code steps (some ⟨b1, off1, none⟩) cc gr nr cr ta nt ct Br Bt w.heap.size r0 t0 w rest.length _ _ from ⟨⟨_, hnew⟩, TxJ.measure (J := TxJ code steps (some ⟨b1, off1, none⟩) cc gr nr cr ta nt ct Br Bt w.heap.size r0 t0 w) (by have := HN0.out; rw [← this, ← hrN]; rfl) hnew⟩
        refine ⟨pre ++ [x], rest, x.at' + 1, d, k + 1, x.st ++ [x.op.v], rfl, rfl, rfl, rfl, rfl, rfl, rfl, rfl, rfl, rfl, by omega, by rw [List.length_append, ← HKK.out]; rfl, by omega, HCH2.out, HST2.out, by rw [HWS.out]; exact HD.out, hd5,
          HL3.out.turned (Turned.ofBelow (F := []) (below2 _ _ _)) (by simp), ?_⟩
        rw [HWS.out]
        exact KEEP.out _ ((Turned.ofGrown (F := [w.heap.size]) (grown_setCell _ _ _ _) (fun q hq => .inl (by injection hq with hq; simp [hq]))).trans (Turned.ofBelow (F := []) (below2 _ _ _)) (fun q hq => by cases hq))
      · have hst0 := t4 k0
        obtain ⟨st', last, hst'⟩ : ∃ st' last, x.st = st' ++ [last] := ⟨x.st.dropLast, x.st.getLast hst0, (List.dropLast_concat_getLast hst0).symm⟩
        have hpos := HPX.out k0
        have hk' : k = st'.length + 1 := by rw [HKK.out, hst']; simp
        obtain ⟨k', rfl⟩ : ∃ k', k = k' + 1 := ⟨k - 1, by omega⟩
        have hk2 : k' = st'.length := by omega
        have hgl : x.st.getLast?.getD 0 = last := by rw [hst']; simp
        rw [hgl] at hpos
        have hub := last.toNat_lt
        have hlast : x.st[k']? = some last := by rw [hst', hk2]; simp
        have c0 := hL.cell hlast
        obtain ⟨v0, c0', c1⟩ := hL.room (i := k') (by omega)
        have hsub : ((last.toNat : Int) - 1) = ((last - 1).toNat : Int) := by rw [UInt64.toNat_sub]; simp; omega
        have hL1 : LeftAt wr w.heap.size (st' ++ [last]) := by rw [← hst']; exact hL
        have hL3 := hL1.turn (by omega) (last - 1)
        rw [← hsub, ← hk2] at hL3
        have HL3 := hide hL3
        have hws : wrs ((pre ++ [x]).map (·.op)) = wrs (pre.map (·.op)) := by rw [HSN.out, if_neg (fun h => h.2 k0)]
        have HWS := hide hws
        have HK2 := hide hk2
        have HS' := hide hst'
        have hkk8 : (k' : Int) < 8 := by omega
        clear c0' hL1 hL3
        by_cases hq : 1 < last.toNat
        · have hnx : x.next = (x.to.toNat, st' ++ [last - 1]) := by unfold Tk.next; rw [if_neg (by omega), if_pos k0, hgl, if_pos hq, hst']; simp
          have hch2 := HE3.out
          rw [hnx] at hch2
          have HCH2 := hide hch2
          have hdq : decide (0 < (last.toNat : Int) - 1) = true := by simp; omega
          clear hnx hch2 k0 t3 t4 hlast hgl hsub hst0 hst' hk2 hk' HPX hws
          go_wp2
          go_step3
          refine ⟨rfl, ?_⟩
          suffices hnew : TxJ code steps (some ⟨b1, off1, none⟩) cc gr nr cr ta nt ct Br Bt w.heap.size r0 t0 w rest.length _ _ from ⟨⟨_, hnew⟩, TxJ.measure (J := TxJ code steps (some ⟨b1, off1, none⟩) cc gr nr cr ta nt ct Br Bt w.heap.size r0 t0 w) (by have := HN0.out; rw [← this, ← hrN]; rfl) hnew⟩
          refine ⟨pre ++ [x], rest, x.to.toNat, d, k' + 1, st' ++ [last - 1], rfl, rfl, rfl, rfl, rfl, rfl, congrArg (Value.int .i64) (by omega), rfl, rfl, rfl, by omega, by rw [List.length_append, ← HK2.out]; rfl, by omega, HCH2.out, HST2.out, by rw [HWS.out]; exact HD.out, hd5,
            HL3.out.turned (Turned.ofBelow (F := []) (below2 _ _ _)) (by simp), ?_⟩
          rw [HWS.out]
          exact KEEP.out _ ((Turned.ofGrown (F := [w.heap.size]) (grown_setCell _ _ _ _) (fun q hq => .inl (by injection hq with hq; simp [hq]))).trans (Turned.ofBelow (F := []) (below2 _ _ _)) (fun q hq => by cases hq))
        · have hnx : x.next = (x.at' + 1, st') := by unfold Tk.next; rw [if_neg (by omega), if_pos k0, hgl, if_neg hq, hst']; simp
          have hch2 := HE3.out
          rw [hnx] at hch2
          have HCH2 := hide hch2
          have hdq : decide (0 < (last.toNat : Int) - 1) = false := by simp; omega
          clear hnx hch2 k0 t3 t4 hlast hgl hsub hst0 hst' hk2 hk' HPX hws
          go_wp2
          go_step3
          refine ⟨rfl, ?_⟩
          suffices hnew : TxJ code steps (some ⟨b1, off1, none⟩) cc gr nr cr ta nt ct Br Bt w.heap.size r0 t0 w rest.length _ _ from ⟨⟨_, hnew⟩, TxJ.measure (J := TxJ code steps (some ⟨b1, off1, none⟩) cc gr nr cr ta nt ct Br Bt w.heap.size r0 t0 w) (by have := HN0.out; rw [← this, ← hrN]; rfl) hnew⟩
          refine ⟨pre ++ [x], rest, x.at' + 1, d, k', st', rfl, rfl, rfl, rfl, rfl, rfl, rfl, rfl, rfl, rfl, by omega, HK2.out, by omega, HCH2.out, HST2.out, by rw [HWS.out]; exact HD.out, hd5,
            (HL3.out.pop).turned (Turned.ofBelow (F := []) (below2 _ _ _)) (by simp), ?_⟩
          rw [HWS.out]
          exact KEEP.out _ ((Turned.ofGrown (F := [w.heap.size]) (grown_setCell _ _ _ _) (fun q hq => .inl (by injection hq with hq; simp [hq]))).trans (Turned.ofBelow (F := []) (below2 _ _ _)) (fun q hq => by cases hq))
      · have hkk1 : 1 ≤ x.op.kind := by omega
        have hkk2 : x.op.kind ≤ 6 := by omega
        obtain ⟨⟨d1, d2⟩, ⟨a1, a2⟩, ⟨i1, i2⟩⟩ := HINX.out hkk1 hkk2
        have hlr : (runR (wrs (pre.map (·.op))) r0).length = nr := by rw [runR_length, HNR.out]
        have HLR := hide hlr
        have HRL2 := HRL.out
        rw [← HNR.out] at HRL2
        have hAn : x.op.a.toNat < nr := by omega
        have hEn : x.op.b.toNat < nr := by omega
        have hDn : x.op.d.toNat < nr := by omega
        have a3 : x.op.a < (nr : Int) := by omega
        have i3 : x.op.b < (nr : Int) := by omega
        have d3 : x.op.d < (nr : Int) := by omega
        -- the tape has room
        have hdU : d < U.length := by
          rw [← HPU.out, HD.out, List.length_append, List.map_cons]
          unfold wrs
          rw [List.filter_cons, if_pos (by simp [k7, k0])]
          simp
        have hdt : d < nt := by have := HTL.out; have := HNT.out; omega
        have hlt : (tpR (wrs (pre.map (·.op))) r0 t0).length = nt := by rw [tpR_length _ _ _ (by have := HD.out; have := HNT.out; omega), HNT.out]
        obtain ⟨gt, hta, hgt1, hgt2⟩ := hownT.some_ (by intro e; rw [e] at hlt; simp at hlt; omega)
        subst hta
        have hgg : gt ≠ gr := fun e => HNE.out (by rw [e]; rfl)
        have hstepT : (tpR (wrs (pre.map (·.op))) r0 t0).set d (getR (runR (wrs (pre.map (·.op))) r0) x.op.d) = tpR (wrs ((pre ++ [x]).map (·.op))) r0 t0 := by
          rw [HSN.out, if_pos ⟨k7, k0⟩, tpR_snoc _ _ _ _ (by have := HD.out; have := HNT.out; omega), HD.out]
        have HSTT := hide hstepT
        generalize hregs : runR (wrs (pre.map (·.op))) r0 = R at *
        generalize htape : tpR (wrs (pre.map (·.op))) r0 t0 = Tl at *
        obtain ⟨va, hva⟩ : ∃ va, R[x.op.a.toNat]? = some va := ⟨R[x.op.a.toNat]'(by omega), List.getElem?_eq_getElem _⟩
        obtain ⟨vb, hvb⟩ : ∃ vb, R[x.op.b.toNat]? = some vb := ⟨R[x.op.b.toNat]'(by omega), List.getElem?_eq_getElem _⟩
        obtain ⟨vd, hvd⟩ : ∃ vd, R[x.op.d.toNat]? = some vd := ⟨R[x.op.d.toNat]'(by omega), List.getElem?_eq_getElem _⟩
        obtain ⟨vt, hvt⟩ : ∃ vt, Tl[d]? = some vt := ⟨Tl[d]'(by omega), List.getElem?_eq_getElem _⟩
        have hgd : getR R x.op.d = vd := by unfold getR; rw [hvd]; rfl
        rw [hgd] at hstepT HSTT
        have ra : wr.cell? ⟨gr, x.op.a.toNat, none⟩ = some (.int .u64 (va.toNat : Int)) := by simpa [Flat.n] using hown.cellAt hva (f := 0) rfl
        have rb : wr.cell? ⟨gr, x.op.b.toNat, none⟩ = some (.int .u64 (vb.toNat : Int)) := by simpa [Flat.n] using hown.cellAt hvb (f := 0) rfl
        have rd : wr.cell? ⟨gr, x.op.d.toNat, none⟩ = some (.int .u64 (vd.toNat : Int)) := by simpa [Flat.n] using hown.cellAt hvd (f := 0) rfl
        have rt : wr.cell? ⟨gt, d, none⟩ = some (.int .u64 (vt.toNat : Int)) := by simpa [Flat.n] using hownT.cellAt hvt (f := 0) rfl
        have rf := hown.frozen x.op.d.toNat
        have tf := hownT.frozen d
        have hgl := (hown.blk gr rfl).2
        have HAP := hide (fun w => Apply_calls x.op va vb w)
        have HVA := hide hva
        have HVB := hide hvb
        have HVD := hide hvd
        have HRG := hide hregs
        have hT02 : Turned [gt] wr (((wr.setCell ⟨gt, d, none⟩ (.int .u64 (vd.toNat : Int))).alloc (.cells #[.int .i64 x.op.kind, .int .i64 x.op.d, .int .i64 x.op.a, .int .i64 x.op.b, .int .u64 (x.op.v.toNat : Int), .int .i64 x.to] 117)).alloc (.cells #[.int .i64 x.op.kind, .int .i64 x.op.d, .int .i64 x.op.a, .int .i64 x.op.b, .int .u64 (x.op.v.toNat : Int)] 71)) :=
          (Turned.ofGrown (F := [gt]) (grown_setCell _ _ _ _) (fun q hq => .inl (by injection hq with hq; simp [hq]))).trans (Turned.ofBelow (F := []) (below2 _ _ _)) (fun q hq => by cases hq)
        have hszs : (wr.setCell ⟨gt, d, none⟩ (.int .u64 (vd.toNat : Int))).heap.size = wr.heap.size := by simp [World.setCell]
        have hOb := Blk.new ((wr.setCell ⟨gt, d, none⟩ (.int .u64 (vd.toNat : Int))).alloc (.cells #[.int .i64 x.op.kind, .int .i64 x.op.d, .int .i64 x.op.a, .int .i64 x.op.b, .int .u64 (x.op.v.toNat : Int), .int .i64 x.to] 117)) 71 #[.int .i64 x.op.kind, .int .i64 x.op.d, .int .i64 x.op.a, .int .i64 x.op.b, .int .u64 (x.op.v.toNat : Int)]
        simp only [World.size_alloc, hszs] at hOb
        have hown2 := hown.turned hT02 (fun q hq => by simp at hq; simp; omega)
        have hownT2 := ((hownT.set1 d vd _ rfl).alloc (.cells #[.int .i64 x.op.kind, .int .i64 x.op.d, .int .i64 x.op.a, .int .i64 x.op.b, .int .u64 (x.op.v.toNat : Int), .int .i64 x.to] 117)).alloc (.cells #[.int .i64 x.op.kind, .int .i64 x.op.d, .int .i64 x.op.a, .int .i64 x.op.b, .int .u64 (x.op.v.toNat : Int)] 71)
        rw [hstepT] at hownT2
        clear hva hvb hvd hvt hregs htape hlr hlt t3 t4 HPX hkk1 hkk2 hgd hstepT hszs
        go_wp2_with fail
        generalize hW2 : ((wr.setCell ⟨gt, d, none⟩ (.int .u64 (vd.toNat : Int))).alloc (.cells #[.int .i64 x.op.kind, .int .i64 x.op.d, .int .i64 x.op.a, .int .i64 x.op.b, .int .u64 (x.op.v.toNat : Int), .int .i64 x.to] 117)).alloc (.cells #[.int .i64 x.op.kind, .int .i64 x.op.d, .int .i64 x.op.a, .int .i64 x.op.b, .int .u64 (x.op.v.toNat : Int)] 71) = W2 at *
        obtain ⟨y0, y1, y2, y3, y4, z0, z1, z2, z3, z4⟩ := hOb.c5
        have hz2 : W2.heap.size = wr.heap.size + 2 := by rw [← hW2]; simp [World.setCell]
        have ra2 : W2.cell? ⟨gr, x.op.a.toNat, none⟩ = some (.int .u64 (va.toNat : Int)) := by simpa [Flat.n] using hown2.cellAt HVA.out (f := 0) rfl
        have rb2 : W2.cell? ⟨gr, x.op.b.toNat, none⟩ = some (.int .u64 (vb.toNat : Int)) := by simpa [Flat.n] using hown2.cellAt HVB.out (f := 0) rfl
        have rd2 : W2.cell? ⟨gr, x.op.d.toNat, none⟩ = some (.int .u64 (vd.toNat : Int)) := by simpa [Flat.n] using hown2.cellAt HVD.out (f := 0) rfl
        have rf2 := hown2.frozen x.op.d.toNat
        have hgl2 : gr < W2.heap.size := by omega
        have hol2 : wr.heap.size + 1 < W2.heap.size := by omega
        have hgo : gr ≠ wr.heap.size + 1 := by omega
        clear ra rb rd rf rt tf hW2
        obtain ⟨S', hS'⟩ : ∃ S' : World → Prop, S' = fun w' => (w'.cell? ⟨wr.heap.size + 1, 0, none⟩ = some (.int .i64 x.op.kind) ∧ w'.cell? ⟨wr.heap.size + 1, 1, none⟩ = some (.int .i64 x.op.d) ∧ w'.cell? ⟨wr.heap.size + 1, 2, none⟩ = some (.int .i64 x.op.a) ∧ w'.cell? ⟨wr.heap.size + 1, 3, none⟩ = some (.int .i64 x.op.b) ∧ w'.cell? ⟨wr.heap.size + 1, 4, none⟩ = some (.int .u64 (x.op.v.toNat : Int))) ∧ w'.cell? ⟨gr, x.op.a.toNat, none⟩ = some (.int .u64 (va.toNat : Int)) ∧ w'.cell? ⟨gr, x.op.b.toNat, none⟩ = some (.int .u64 (vb.toNat : Int)) := ⟨_, rfl⟩
        have hSe : ∀ w', S' w' → (w'.cell? ⟨wr.heap.size + 1, 0, none⟩ = some (.int .i64 x.op.kind) ∧ w'.cell? ⟨wr.heap.size + 1, 1, none⟩ = some (.int .i64 x.op.d) ∧ w'.cell? ⟨wr.heap.size + 1, 2, none⟩ = some (.int .i64 x.op.a) ∧ w'.cell? ⟨wr.heap.size + 1, 3, none⟩ = some (.int .i64 x.op.b) ∧ w'.cell? ⟨wr.heap.size + 1, 4, none⟩ = some (.int .u64 (x.op.v.toNat : Int))) ∧ w'.cell? ⟨gr, x.op.a.toNat, none⟩ = some (.int .u64 (va.toNat : Int)) ∧ w'.cell? ⟨gr, x.op.b.toNat, none⟩ = some (.int .u64 (vb.toNat : Int)) := fun w' h => by rw [hS'] at h; exact h
        have HSE := hide hSe
        have HSI : Hid (S' W2.drew) := by show S' W2.drew; rw [hS']; exact ⟨⟨y0, y1, y2, y3, y4⟩, ra2, rb2⟩
        have HSI4 : Hid (∀ w4, Below W2.drew.heap.size W2.drew w4 → S' w4) := by
          show ∀ w4, _ → _
          intro w4 hb4
          obtain ⟨hc4, hf4⟩ := bcell hb4
          rw [hS']
          exact ⟨⟨(hc4 _ 0 hol2).trans y0, (hc4 _ 1 hol2).trans y1, (hc4 _ 2 hol2).trans y2, (hc4 _ 3 hol2).trans y3, (hc4 _ 4 hol2).trans y4⟩, (hc4 _ _ hgl2).trans ra2, (hc4 _ _ hgl2).trans rb2⟩
        clear hSe hS'
        refine wp_region_call 14 S' (by kernel_rfl) (by kernel_rfl) HSI.out ?_
        simp only [List.take_succ_cons, List.take_zero, List.drop_succ_cons, List.drop_zero]
        iterate 14
          apply headK_step (by rfl)
          · intro w' hw'
            obtain ⟨⟨s0, s1, s2, s3, s4⟩, s5, s6⟩ := HSE.out w' hw'
            go_simp
            rfl
          intro a' ha'
          simp only [Act.put, List.setIfInBounds_toArray, List.set_cons_succ, List.set_cons_zero] at ha'
          subst ha'
        refine headK_nil ?_
        intro o ho K0 hK0
        simp only [List.getElem?_cons_succ, List.getElem?_cons_zero, Option.some.injEq] at ho
        subst ho
        have HK0 := hide hK0
        clear hK0
        go_simp
        go_at_call 85
        refine (HAP.out _).mono ?_
        rintro e w4 ⟨rfl, hb4⟩
        refine HK0.out _ _ (HSI4.out w4 hb4) ?_
        obtain ⟨hc4, hf4⟩ := bcell hb4
        have q0 := (hc4 _ 0 hol2).trans y0
        have q1 := (hc4 _ 1 hol2).trans y1
        have q2 := (hc4 _ 2 hol2).trans y2
        have q3 := (hc4 _ 3 hol2).trans y3
        have q4 := (hc4 _ 4 hol2).trans y4
        have qd := (hc4 _ _ hgl2).trans rd2
        have qf := (hf4 _ x.op.d.toNat hgl2).trans rf2
        clear hc4 hf4 HK0
        go_wp2
        refine NoPanic.normal ?_
        have hb4' : Below W2.heap.size W2 w4 := ⟨hb4.os, hb4.tape, hb4.output, hb4.size, hb4.block⟩
        have hTb : Turned [gr, gt] wr w4 := (hT02.mono (fun q hq => .inl (by simp at hq; simp [hq]))).trans (Turned.ofBelow (F := []) hb4') (fun b hb => by cases hb)
        have hT5 : Turned [gr, gt] wr (w4.setCell ⟨gr, x.op.d.toNat, none⟩ (.int .u64 ((applyU x.op va vb).toNat : Int))) := hTb.trans (Turned.ofGrown (F := [gr]) (grown_setCell _ _ _ _) (fun q hq => .inl (by injection hq with hq; simp [hq]))) (fun b hb => .inl (by simp at hb; simp [hb]))
        have hown4 : Own w4 Br 50 (some ⟨gr, 0, none⟩) cr R := hown2.drew.belowN hb4
        have hown5 := hown4.set1 x.op.d.toNat (applyU x.op va vb) _ rfl
        have hownT4 := (hownT2.belowN hb4').turned (Turned.ofGrown (F := [gr]) (grown_setCell w4 gr x.op.d.toNat (.int .u64 ((applyU x.op va vb).toNat : Int))) (fun q hq => .inl (by injection hq with hq; simp [hq]))) (fun q hq => by simp at hq; simp; omega)
        have hstep : R.set x.op.d.toNat (applyU x.op va vb) = runR (wrs ((pre ++ [x]).map (·.op))) r0 := by
          rw [HSN.out, if_pos ⟨k7, k0⟩, runR_append, HRG.out]
          show _ = stepR R x.op
          unfold stepR getR
          rw [HVA.out, HVB.out]
          rfl
        rw [hstep] at hown5
        have hL5 := hL.turned hT5 (by simp; have := HTB.out gt rfl; omega)
        have hnx : x.next = (x.at' + 1, x.st) := by unfold Tk.next; rw [if_neg k7, if_neg k0]
        have hch2 := HE3.out
        rw [hnx] at hch2
        have HCH2 := hide hch2
        have HOWN := hide hown5
        have HOWNT := hide hownT4
        have HD2 : Hid (d + 1 = (wrs ((pre ++ [x]).map (·.op))).length) := by show d + 1 = _; rw [HSN.out, if_pos ⟨k7, k0⟩, List.length_append, ← HD.out]; rfl
        clear hnx hch2 hstep hown5 hown4 k7 k0 HSI4 HSI HSE hOb hown2 hownT2 hownT4
        go_wp2
        have hTT : Turned (gr :: blkL (some ⟨gt, 0, none⟩)) w (w4.setCell ⟨gr, x.op.d.toNat, none⟩ (.int .u64 ((applyU x.op va vb).toNat : Int))) := hT.trans hT5 (fun q hq => .inl (by simp at hq; simp [blkL]; omega))
        go_step3
        refine ⟨rfl, ?_⟩
        suffices hnew : TxJ code steps (some ⟨b1, off1, none⟩) cc gr nr cr (some ⟨gt, 0, none⟩) nt ct Br Bt w.heap.size r0 t0 w rest.length _ _ from ⟨⟨_, hnew⟩, TxJ.measure (J := TxJ code steps (some ⟨b1, off1, none⟩) cc gr nr cr (some ⟨gt, 0, none⟩) nt ct Br Bt w.heap.size r0 t0 w) (by have := HN0.out; rw [← this, ← hrN]; rfl) hnew⟩
        exact ⟨pre ++ [x], rest, x.at' + 1, d + 1, k, x.st, rfl, rfl, rfl, rfl, rfl, rfl, rfl, rfl, rfl, rfl, by omega, HKK.out, by omega, HCH2.out, HST2.out, HD2.out, by omega,
          hL5, HOWN.out, HOWNT.out, hTT⟩
end Go.Proofs.YtmmepffdjmpblaaGreat
