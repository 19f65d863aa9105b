/- Chapter 12: the steps, as an iterator. -/
import Derived.Deep.LoopGhost
import Derived.Test.YtoklehndfncmnaaEq
import Derived.Test.YtoklehndfncmnaaPi
import Derived.Test.YtoklehndfncmnaaTk
import Derived.Test.YtoklehndfncmnaaF12a
namespace Go.Proofs.Ytoklehndfncmnaa
set_option linter.unusedVariables false
set_option linter.unusedSimpArgs false
open Go.RowKit Go.Shelf

theorem At.getIns {w wr : World} {a : Option Addr} {l : List (OpD × Int)} (h : At w a l) (hb : Below w.heap.size w wr) {k : Nat} {x : OpD × Int} (hk : l[k]? = some x) :
    ∃ b off, a = some ⟨b, off, none⟩ ∧ wr.cell? ⟨b, off + k * 6, none⟩ = some (.int .i64 x.1.kind) ∧ wr.cell? ⟨b, off + k * 6 + 1, none⟩ = some (.int .i64 x.1.d) ∧
      wr.cell? ⟨b, off + k * 6 + 2, none⟩ = some (.int .i64 x.1.a) ∧ wr.cell? ⟨b, off + k * 6 + 3, none⟩ = some (.int .i64 x.1.b) ∧ wr.cell? ⟨b, off + k * 6 + 4, none⟩ = some (.int .u64 (x.1.v.toNat : Int)) ∧
      wr.cell? ⟨b, off + k * 6 + 5, none⟩ = some (.int .i64 x.2) := by
  obtain ⟨b, off, y, e, hy, hc⟩ := (h.belowN hb).get (List.getElem?_eq_some_iff.1 hk).1
  obtain rfl : x = y := by have := hk.symm.trans hy.out; simpa using this
  exact ⟨b, off, e, hc 0 _ rfl, hc 1 _ rfl, hc 2 _ rfl, hc 3 _ rfl, hc 4 _ rfl, hc 5 _ rfl⟩

/-- Where the iterator stands when `N` steps are to come. -/
def StI (code : List (OpD × Int)) (steps : List Tk) (J : List OpD → List Nat → World → Prop) (F0 : List Nat) (W : World) (N : Nat) (lv av : Value) (wr : World) : Prop :=
  ∃ (pre rest : List Tk) (p : Nat) (st : List UInt64) (al : Option Addr) (cl k : Nat) (G : List Nat), rest.length = N ∧ av = .int .i64 p ∧ lv = .slice al k cl ∧ k = st.length ∧ p ≤ code.length ∧ k ≤ 8 ∧ Chn code (p, st) rest (code.length, []) ∧ steps = pre ++ rest ∧
    Own wr W.heap.size 32 al cl st ∧ J (pre.map (·.op)) G wr ∧ (∀ g, al.map (·.block) = some g → g ∉ G) ∧ (∀ g ∈ G, g ∈ F0 ∨ W.heap.size ≤ g) ∧ Turned F0 W wr

theorem StI.measure {code : List (OpD × Int)} {steps : List Tk} {J : List OpD → List Nat → World → Prop} {F0 : List Nat} {W : World} {N : Nat} {lv av : Value} {wr : World} {lv' av' : Value} {wr' : World}
    (hN : N + 1 = leastOf (fun N => StI code steps J F0 W N lv av wr)) (h : StI code steps J F0 W N lv' av' wr') : leastOf (fun N => StI code steps J F0 W N lv' av' wr') < leastOf (fun N => StI code steps J F0 W N lv av wr) := by
  have := (leastOf_spec (p := fun N => StI code steps J F0 W N lv' av' wr') ⟨N, h⟩).2 N h
  omega
set_option maxRecDepth 100000 in
set_option maxHeartbeats 6400000 in
theorem steps1_seq (n : Nat) (hn : 1 ≤ n) (Bs : Nat) (ac : Option Addr) (cc : Nat) (regs : Int) (f : Fo) (g : Good regs f) (w : World) (z : Nat) (hBs : Blk w Bs 26 #[.slice ac (f.bare.code 0).length cc]) (hc : At w ac (f.bare.code 0)) (hz : f.bare.code 0 ≠ [] → ∀ g, ac.map (·.block) = some g → g < z) :
    SeqAll Fence.wide n Try.prog 53 #[.pointer (some ⟨Bs, 0, none⟩)] (fun x : OpD => #[.agg #[.int .i64 x.kind, .int .i64 x.d, .int .i64 x.a, .int .i64 x.b, .int .u64 (x.v.toNat : Int)]]) (f.steps.map (·.op)) (fun b => z ≤ b ∧ b ≠ Bs) w := fun l J F0 W hW hJ hF0 hY h0 => by
  have hlen := g.code_length
  have HTK := hide g.tk
  have HPOS := hide g.tk_pos
  have hchn := hide g.chn
  generalize f.bare.code 0 = code at *
  generalize f.steps = steps at *
  have HY := hide hY
  have HJ := hide hJ
  have HF0 := hide hF0
  have H0 := hide h0
  have HZ := hide hz
  have hBW := hBs.belowN hW
  have hcW := hc.belowN hW
  have hws := hW.size
  have hbl := hBW.lt
  have hB0 := hBs.lt
  clear hY hJ hF0 h0 hBs hz
  refine callsIn_of_wp Try.func53 rfl trivial ?_ rfl
  simp only [Try.ntmps53, List.size_toArray, List.length_cons, List.length_nil, Nat.reduceAdd, Nat.reduceSub, Array.replicate_succ, Array.replicate_zero, List.push_toArray, List.append_toArray, List.nil_append, List.cons_append]
  gi_wp2
  gi_loopw [3, 4] (fun lv av wr => ∃ N, StI code steps J F0 W N lv av wr) (fun lv av wr => leastOf fun N => StI code steps J F0 W N lv av wr)
  case atStart => exact ⟨_, [], steps, 0, [], none, 0, 0, F0, rfl, rfl, rfl, rfl, by omega, by omega, hchn.out, rfl, Own.none _ _ _, H0.out, fun g hg => by simp at hg, fun g hg => .inl hg, Turned.refl _ _⟩
  case round =>
    obtain ⟨N0, hN0⟩ : ∃ N0, N0 = leastOf (fun N => StI code steps J F0 W N u3 u4 wr) := ⟨_, rfl⟩
    have hs := (leastOf_spec hrel).1
    rw [← hN0] at hs
    obtain ⟨pre, rest, p, st, al, cl, k, G, hrN, hav, hlv, hk, hp, hk8, hch, hst, hown, hj, hdis, hG, hT⟩ := hs
    have HN0 := hide hN0
    have hXr : At wr ac code := hcW.turned hT (fun hne g hg e => by have h1 := HZ.out hne g e; have h2 := (HF0.out g hg).1; omega)
    obtain ⟨b0, b0f⟩ := (hBW.belowN (Below.refl _ _)).c1
    have hBr : Blk wr Bs 26 #[.slice ac code.length cc] := (hT.block Bs hbl (fun hm => (HF0.out _ hm).2 rfl)).trans hBW
    obtain ⟨q0, q1⟩ := hBr.c1
    clear b0 b0f
    have HCH := hide hch
    have HST := hide hst
    have HJ0 := hide hj
    have HDIS := hide hdis
    have HGG := hide hG
    have HK := hide hk
    clear hch hst hj hdis hG hk hrel hN0
    subst hav hlv
    cases rest with
    | nil =>
      have e := HCH.out
      change (p, st) = (code.length, []) at e
      injection e with e1 e2
      subst e1
      have e3 : steps = pre := by rw [HST.out]; simp
      have HE := hide e3
      clear e2 e3
      gi_wp2
      go_end0
      exact ⟨⟨_, rfl⟩, G, by rw [HE.out]; exact HJ0.out, hT, HGG.out⟩
    | cons x rest =>
      obtain ⟨e1, e2, e3⟩ := HCH.out
      injection e1 with e1a e1b
      subst e1a e1b
      have hmem : x ∈ steps := by rw [HST.out]; simp
      obtain ⟨t1, t2, t3, t4, t5, t6, t7, t8, t9⟩ := HTK.out x hmem
      obtain ⟨b1, off1, hac, x0, x1, x2, x3, x4, x5⟩ := hXr.getIns (Below.refl _ _) e2
      subst hac
      simp only at x0 x1 x2 x3 x4 x5
      have hlt := HJ.out.lt _ _ _ HJ0.out
      have hj1 : J (pre.map (·.op)) G (wr.alloc (.cells #[.int .i64 x.op.kind, .int .i64 x.op.d, .int .i64 x.op.a, .int .i64 x.op.b, .int .u64 (x.op.v.toNat : Int), .int .i64 x.to] 36)) := HJ.out.keep _ _ _ _ HJ0.out (by simp) (fun b hb => Below.heap_alloc _ _ _ (hlt b hb))
      have hT1 : Turned F0 W (wr.alloc (.cells #[.int .i64 x.op.kind, .int .i64 x.op.d, .int .i64 x.op.a, .int .i64 x.op.b, .int .u64 (x.op.v.toNat : Int), .int .i64 x.to] 36)) := hT.trans (Turned.ofBelow (F := F0) (Below.alloc (Below.refl _ _) (Nat.le_refl _) _)) (fun b hb => .inl hb)
      obtain ⟨fn, tmps, assign, body, hy, hR⟩ := HY.out (pre.map (·.op)) x.op G _ hj1 hT1 ⟨rest.map (·.op), by rw [HST.out]; simp⟩
      have hX := Blk.new wr 36 #[.int .i64 x.op.kind, .int .i64 x.op.d, .int .i64 x.op.a, .int .i64 x.op.b, .int .u64 (x.op.v.toNat : Int), .int .i64 x.to]
      have HLT := hide hlt
      have HE3 := hide e3
      have HPX := hide (HPOS.out x hmem)
      have hown1 := hown.alloc (.cells #[.int .i64 x.op.kind, .int .i64 x.op.d, .int .i64 x.op.a, .int .i64 x.op.b, .int .u64 (x.op.v.toNat : Int), .int .i64 x.to] 36)
      clear hj1 e2 e3 hmem t5 hlt HY
      try dsimp only at hy
      gi_wp2
      refine hR.mono ?_
      rintro e W3 ⟨rfl, G', hj3, hT3, hG3⟩
      have hz3 := hT3.size
      simp only [World.size_alloc] at hz3
      have hX3 : Blk W3 wr.heap.size 36 #[.int .i64 x.op.kind, .int .i64 x.op.d, .int .i64 x.op.a, .int .i64 x.op.b, .int .u64 (x.op.v.toNat : Int), .int .i64 x.to] := (hT3.block _ hX.lt (fun hm => by have := HLT.out _ hm; omega)).trans hX
      obtain ⟨v0, v1, v2, v3, v4, v5, f0, f1, f2, f3, f4, f5⟩ := hX3.c6
      have hown3 := hown1.turned hT3 HDIS.out
      have HJ3 := hide hj3
      have hsz := hT.size
      have hT13 : Turned F0 W W3 := hT1.trans hT3 (fun b hb => HGG.out b hb)
      have hG3' : ∀ b ∈ G', b ∈ F0 ∨ W.heap.size ≤ b := fun b hb => (hG3 b hb).elim (HGG.out b) (fun h => .inr (by simp at h; omega))
      have hdis3 : ∀ g, al.map (·.block) = some g → g ∉ G' := fun g hg hm => (hG3 g hm).elim (HDIS.out g hg) (fun h => by have := (hown.blk g hg).2; simp at h; omega)
      have HG3 := hide hG3'
      have HD3 := hide hdis3
      have hst2 : steps = (pre ++ [x]) ++ rest := by rw [HST.out]; simp
      have HST2 := hide hst2
      have hmap : (pre ++ [x]).map (·.op) = pre.map (·.op) ++ [x.op] := by simp
      rw [← hmap] at HJ3
      have HOBL := hide (fun q (hq : al.map (·.block) = some q) => (hown.blk q hq).2)
      clear hj3 hG3 hG3' hdis3 hst2 hmap hR x0 x1 x2 x3 x4 x5 hown hown1 hX hX3 hT1 hT3 hy
      rcases kind_cases x.op with ⟨k7, b7, b0⟩ | ⟨k0, b7, b0⟩ | ⟨k7, k0, b7, b0⟩
      · have hnx : x.next = (x.at' + 1, x.st ++ [x.op.v]) := by unfold Tk.next; rw [if_pos k7]
        have hch2 := HE3.out
        rw [hnx] at hch2
        have HCH2 := hide hch2
        have hk7 := t3 k7
        rw [← HK.out] at hk7
        clear hnx hch2 k7 t3 t4
        gi_wp2_with (gi_at_builtin; refine wpListIn_push tyU hown3 x.op.v rfl rfl rfl rfl rfl rfl HK.out (by omega) (by omega) ?_; intro a4 c4 w4 hown4 hg4 hm4)
        have hlt3 := HJ.out.lt _ _ _ HJ3.out
        have hne4 : ∀ g, a4.map (·.block) = some g → g ∉ G' := by
          intro g hg hm
          rcases hm4 with e | ⟨g', e, hle⟩
          · exact HD3.out g (by rw [← e]; exact hg) hm
          · have := hlt3 g hm; rw [e] at hg; injection hg with hg; omega
        have hnew : StI code steps J F0 W rest.length (.slice a4 (k + 1) c4) (.int .i64 ((x.at' : Int) + 1)) w4 :=
          ⟨pre ++ [x], rest, x.at' + 1, x.st ++ [x.op.v], a4, c4, k + 1, G', rfl, by go_num, rfl, by rw [HK.out]; simp, by omega, by omega, HCH2.out, HST2.out, hown4,
            HJ.out.keep _ _ _ _ HJ3.out hg4.size (fun b hb => hg4.block b (hlt3 b hb) (fun e => HD3.out b e.symm hb)), hne4, HG3.out,
            hT13.trans (Turned.ofGrown (F := (al.map (·.block)).toList) hg4 (fun b hb => .inl (by rw [hb]; simp))) (fun b hb => .inr (hown3.blk b (by simpa using hb)).1)⟩
        go_roundw
        case rel => exact ⟨_, hnew⟩
        case measure => exact StI.measure (by have := HN0.out; rw [← this, ← hrN]; rfl) hnew
      ·
        have hst0 := t4 k0
        obtain ⟨gs, hgs, hgs1, hgs2⟩ := hown3.some_ hst0
        subst hgs
        obtain ⟨st', last, hst'⟩ : ∃ st' last, x.st = st' ++ [last] := ⟨x.st.dropLast, x.st.getLast hst0, (List.dropLast_concat_getLast hst0).symm⟩
        have hpos := HPX.out k0
        have hk' : k = st'.length + 1 := by rw [HK.out, hst']; simp
        obtain ⟨k', rfl⟩ : ∃ k', k = k' + 1 := ⟨k - 1, by omega⟩
        have hk2 : k' = st'.length := by omega
        have hlast : x.st[k']? = some last := by rw [hst', hk2]; simp
        have hgl : x.st.getLast?.getD 0 = last := by rw [hst']; simp
        rw [hgl] at hpos
        have hub := last.toNat_lt
        have tl : W3.cell? ⟨gs, k', none⟩ = some (.int .u64 (last.toNat : Int)) := by simpa [Flat.n] using hown3.cellAt hlast (f := 0) rfl
        have tlf := hown3.frozen k'
        have hcap : k' + 1 ≤ cl := by have := hown3.cap.1; rw [hst'] at this; simp at this; omega
        have hlt3 := HJ.out.lt _ _ _ HJ3.out
        have hsub : ((last.toNat : Int) - 1) = ((last - 1).toNat : Int) := by rw [UInt64.toNat_sub]; simp; omega
        have hset : Own (W3.setCell ⟨gs, k', none⟩ (.int .u64 ((last.toNat : Int) - 1))) W.heap.size 32 (some ⟨gs, 0, none⟩) cl (x.st.set k' (last - 1)) := hown3.set1 k' (last - 1) _ (by rw [hsub]; rfl)
        have hsetl : x.st.set k' (last - 1) = st' ++ [last - 1] := by rw [hst', hk2]; simp
        rw [hsetl] at hset
        have hJ4 : J ((pre ++ [x]).map (·.op)) G' (W3.setCell ⟨gs, k', none⟩ (.int .u64 ((last.toNat : Int) - 1))) := HJ.out.keep _ _ _ _ HJ3.out (by simp) (fun b hb => Below.heap_setCell _ _ _ _ (fun e => HD3.out gs rfl (by have e' : b = gs := e; rw [← e']; exact hb)))
        have hT4 : Turned F0 W (W3.setCell ⟨gs, k', none⟩ (.int .u64 ((last.toNat : Int) - 1))) := hT13.trans (Turned.ofGrown (F := [gs]) (grown_setCell W3 gs k' _) (fun b hb => .inl (by injection hb with hb; simp [hb]))) (fun b hb => .inr (by simp at hb; omega))
        have HJ4 := hide hJ4
        have HS' := hide hst'
        have HK2 := hide hk2
        have hgn : gs ≠ wr.heap.size := by have := HOBL.out gs rfl; omega
        by_cases hq : 1 < last.toNat
        · have hnx : x.next = (x.to.toNat, st' ++ [last - 1]) := by unfold Tk.next; rw [if_neg (by omega), if_pos k0, hgl, if_pos hq, HS'.out]; simp
          have hch2 := HE3.out
          rw [hnx] at hch2
          have HCH2 := hide hch2
          have hdq : decide (0 < (last.toNat : Int) - 1) = true := by simp; omega
          clear hnx hch2 k0 t3 t4 hlast hgl hsub hsetl hJ4 hst0 hst' hk2 hk' HPX
          gi_wp2
          have hnew : StI code steps J F0 W rest.length (.slice (some ⟨gs, 0, none⟩) (k' + 1) cl) (.int .i64 x.to) (W3.setCell ⟨gs, k', none⟩ (.int .u64 ((last.toNat : Int) - 1))) :=
            ⟨pre ++ [x], rest, x.to.toNat, st' ++ [last - 1], some ⟨gs, 0, none⟩, cl, k' + 1, G', rfl, by congr 1; omega, rfl, by rw [HK2.out]; simp, by omega, by omega, HCH2.out, HST2.out, hset, HJ4.out, HD3.out, HG3.out, hT4⟩
          go_roundw
          case rel => exact ⟨_, hnew⟩
          case measure => exact StI.measure (by have := HN0.out; rw [← this, ← hrN]; rfl) hnew
        · have hnx : x.next = (x.at' + 1, st') := by unfold Tk.next; rw [if_neg (by omega), if_pos k0, hgl, if_neg hq, HS'.out]; simp
          have hch2 := HE3.out
          rw [hnx] at hch2
          have HCH2 := hide hch2
          have hdq : decide (0 < (last.toNat : Int) - 1) = false := by simp; omega
          have hpop := hset.pop (by simp)
          rw [List.dropLast_concat] at hpop
          clear hnx hch2 k0 t3 t4 hlast hgl hsub hsetl hJ4 hst0 hst' hk2 hk' HPX
          gi_wp2
          have hnew : StI code steps J F0 W rest.length (.slice (some ⟨gs, 0, none⟩) k' cl) (.int .i64 ((x.at' : Int) + 1)) (W3.setCell ⟨gs, k', none⟩ (.int .u64 ((last.toNat : Int) - 1))) :=
            ⟨pre ++ [x], rest, x.at' + 1, st', some ⟨gs, 0, none⟩, cl, k', G', rfl, by go_num, rfl, HK2.out, by omega, by omega, HCH2.out, HST2.out, hpop, HJ4.out, HD3.out, HG3.out, hT4⟩
          go_roundw
          case rel => exact ⟨_, hnew⟩
          case measure => exact StI.measure (by have := HN0.out; rw [← this, ← hrN]; rfl) hnew
      ·
        have hnx : x.next = (x.at' + 1, x.st) := by unfold Tk.next; rw [if_neg k7, if_neg k0]
        have hch2 := HE3.out
        rw [hnx] at hch2
        have HCH2 := hide hch2
        clear hnx hch2 k7 k0 t3 t4
        gi_wp2
        have hnew : StI code steps J F0 W rest.length (.slice al k cl) (.int .i64 ((x.at' : Int) + 1)) W3 :=
          ⟨pre ++ [x], rest, x.at' + 1, x.st, al, cl, k, G', rfl, by go_num, rfl, HK.out, by omega, by omega, HCH2.out, HST2.out, hown3, HJ3.out, HD3.out, HG3.out, hT13⟩
        go_roundw
        case rel => exact ⟨_, hnew⟩
        case measure => exact StI.measure (by have := HN0.out; rw [← this, ← hrN]; rfl) hnew
end Go.Proofs.Ytoklehndfncmnaa
