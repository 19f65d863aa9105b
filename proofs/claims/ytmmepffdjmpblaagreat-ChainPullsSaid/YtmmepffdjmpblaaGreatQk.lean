/- Several texts of mine in one file: E13, E13b, E13c, E13d. -/
import Derived.ScopeJumps
import Derived.Scope
import Derived.WalkMore
import Derived.Deep.AppendLies
import Derived.Deep.RegionHeld3
import Derived.Test.YtmmepffdjmpblaaGreatQi
import Derived.Test.YtmmepffdjmpblaaGreatQc
import Derived.Test.YtmmepffdjmpblaaGreatQa
import Derived.Laws.CopyOwn
import Derived.Deep.DeepMust
/- Chapter 13: the machine that runs. -/
namespace Go.Proofs.YtmmepffdjmpblaaGreat
set_option linter.unusedVariables false
set_option linter.unusedSimpArgs false
open Go.RowKit

def uptoL (U : List OpD) (m : Int) : List OpD := if m < 0 then U else U.take m.toNat
/-- the counts of the open blocks, in an array of 8 -/
def LeftAt (w : World) (b : Nat) (st : List UInt64) : Prop := ∃ cs : Array Value, Blk w b 150 cs ∧ cs.size = 8 ∧ ∀ (i : Nat) (v : UInt64), st[i]? = some v → cs[i]? = some (.int .u64 (v.toNat : Int))
theorem LeftAt.room {w : World} {b : Nat} {st : List UInt64} (h : LeftAt w b st) {i : Nat} (hi : i < 8) : ∃ v, w.cell? ⟨b, i, none⟩ = some v ∧ w.frozen? ⟨b, i, none⟩ = false := by
  obtain ⟨cs, h1, h2, h3⟩ := h
  exact ⟨cs[i]'(by omega), h1.cell_ (Array.getElem?_eq_getElem _), h1.frozen i⟩
theorem LeftAt.cell {w : World} {b : Nat} {st : List UInt64} (h : LeftAt w b st) {i : Nat} {v : UInt64} (hv : st[i]? = some v) : w.cell? ⟨b, i, none⟩ = some (.int .u64 (v.toNat : Int)) := by
  obtain ⟨cs, h1, h2, h3⟩ := h
  exact h1.cell_ (h3 i v hv)
theorem LeftAt.push {w : World} {b : Nat} {st : List UInt64} (h : LeftAt w b st) (hs : st.length < 8) (v : UInt64) : LeftAt (w.setCell ⟨b, st.length, none⟩ (.int .u64 (v.toNat : Int))) b (st ++ [v]) := by
  obtain ⟨cs, h1, h2, h3⟩ := h
  refine ⟨_, h1.set_ st.length _, by simp [h2], fun i u hu => ?_⟩
  rw [Array.getElem?_setIfInBounds]
  by_cases hi : st.length = i
  · subst hi
    simp at hu
    subst hu
    rw [if_pos rfl, if_pos (by omega)]
  · rw [if_neg hi]
    refine h3 i u ?_
    rw [List.getElem?_append] at hu
    split at hu
    · exact hu
    · have := (List.getElem?_eq_some_iff.1 hu).1; simp at this; omega
theorem LeftAt.turn {w : World} {b : Nat} {st : List UInt64} {v : UInt64} (h : LeftAt w b (st ++ [v])) (hs : st.length < 8) (u : UInt64) : LeftAt (w.setCell ⟨b, st.length, none⟩ (.int .u64 (u.toNat : Int))) b (st ++ [u]) := by
  obtain ⟨cs, h1, h2, h3⟩ := h
  have h' : LeftAt w b st := ⟨cs, h1, h2, fun i x hx => h3 i x (by rw [List.getElem?_append_left (List.getElem?_eq_some_iff.1 hx).1]; exact hx)⟩
  exact h'.push hs u
theorem LeftAt.pop {w : World} {b : Nat} {st : List UInt64} {v : UInt64} (h : LeftAt w b (st ++ [v])) : LeftAt w b st := by
  obtain ⟨cs, h1, h2, h3⟩ := h
  exact ⟨cs, h1, h2, fun i x hx => h3 i x (by rw [List.getElem?_append_left (List.getElem?_eq_some_iff.1 hx).1]; exact hx)⟩
theorem LeftAt.turned {F : List Nat} {w w' : World} {b : Nat} {st : List UInt64} (h : LeftAt w b st) (hT : Turned F w w') (hb : b ∉ F) : LeftAt w' b st := by
  obtain ⟨cs, h1, h2, h3⟩ := h
  exact ⟨cs, (hT.block b h1.lt hb).trans h1, h2, h3⟩
theorem LeftAt.far {w : World} {b : Nat} {st : List UInt64} (h : LeftAt w b st) {p : Addr} (hp : b ≠ p.block) (u : Value) : LeftAt (w.setCell p u) b st := by
  obtain ⟨cs, h1, h2, h3⟩ := h
  exact ⟨cs, h1.far hp u, h2, h3⟩
theorem LeftAt.lt {w : World} {b : Nat} {st : List UInt64} (h : LeftAt w b st) : b < w.heap.size := by
  obtain ⟨cs, h1, h2, h3⟩ := h
  exact h1.lt
theorem Good.tk_in {regs : Int} {f : Fo} (g : Good regs f) : ∀ x ∈ f.steps, 1 ≤ x.op.kind → x.op.kind ≤ 6 → InR regs x.op := fun x hx h1 h2 => g.inF x.op (f.bare_mem _ (g.tk x hx).2.2.2.2.1) h1 h2
theorem wrs_snoc' (l : List OpD) (x : OpD) : wrs (l ++ [x]) = if x.kind ≠ 7 ∧ x.kind ≠ 0 then wrs l ++ [x] else wrs l := by
  rw [wrs_append]
  by_cases h : x.kind ≠ 7 ∧ x.kind ≠ 0
  · rw [if_pos h]; unfold wrs; rw [List.filter_cons, if_pos (by simp [h.1, h.2])]; rfl
  · rw [if_neg h]; have : wrs [x] = [] := by unfold wrs; rw [List.filter_cons, if_neg (by simp; intro h1; exact Classical.byContradiction fun h2 => h ⟨h1, h2⟩)]; rfl
    rw [this, List.append_nil]

section
variable {P : Program} {a : Act} {w : World} {Q : Exit → Act → World → Prop}
/-- A scope: two statements, a label, and what jumps back to it. -/
theorem wp_scope_at {X Y rest : Code} (l : Nat) (J : Act → World → Prop) (μ : Act → World → Nat) (hf : findLabel (X.seq (Y.seq ((Code.label l).seq rest))) l = some (Code.skip.seq rest))
    (first : X.wp P (Exit.then (fun a w => Y.wp P (Exit.then J (fun _ _ _ => False)) a w) (fun _ _ _ => False)) a w)
    (pass : ∀ a w, J a w → rest.wp P (Exit.jump l (fun a' w' => J a' w' ∧ μ a' w' < μ a w) Q) a w) : (Code.scope (X.seq (Y.seq ((Code.label l).seq rest)))).wp P Q a w := by
  refine wp_scope_jumps l J μ hf ?_ (fun a w hJ => wp_seq (wp_skip (pass a w hJ)))
  refine wp_seq (wp_mono first fun e a1 w1 h => ?_)
  cases e with
  | normal =>
    refine wp_seq (wp_mono h fun e a2 w2 h2 => ?_)
    cases e with
    | normal =>
      refine wp_seq (wp_label (wp_mono (pass a2 w2 h2) fun e a3 w3 h3 => ?_))
      cases e with
      | goto l' => exact ⟨h3.1, h3.2.1⟩
      | _ => exact h3
    | _ => exact h2.elim
  | _ => exact h.elim
end

theorem below2 (W : World) (o1 o2 : Obj) : Below W.heap.size W ((W.alloc o1).alloc o2) := Below.alloc (Below.alloc (Below.refl _ _) (Nat.le_refl _) _) (by simp) _
theorem wrs_length' (l : List OpD) : (wrs l).length ≤ l.length := List.length_filter_le _ _
theorem arr_of_size (t : Array Value) (n : Nat) (h : t.size = n) : t = ((List.range n).map fun i => t.getD i undef).toArray := by
  subst h
  apply Array.ext
  · simp
  · intro i h1 h2
    simp [h1]
theorem arr80 (t : Array Value) (h : t.size = 80) : t = #[t.getD 0 undef, t.getD 1 undef, t.getD 2 undef, t.getD 3 undef, t.getD 4 undef, t.getD 5 undef, t.getD 6 undef, t.getD 7 undef, t.getD 8 undef, t.getD 9 undef, t.getD 10 undef, t.getD 11 undef, t.getD 12 undef, t.getD 13 undef, t.getD 14 undef, t.getD 15 undef, t.getD 16 undef, t.getD 17 undef, t.getD 18 undef, t.getD 19 undef, t.getD 20 undef, t.getD 21 undef, t.getD 22 undef, t.getD 23 undef, t.getD 24 undef, t.getD 25 undef, t.getD 26 undef, t.getD 27 undef, t.getD 28 undef, t.getD 29 undef, t.getD 30 undef, t.getD 31 undef, t.getD 32 undef, t.getD 33 undef, t.getD 34 undef, t.getD 35 undef, t.getD 36 undef, t.getD 37 undef, t.getD 38 undef, t.getD 39 undef, t.getD 40 undef, t.getD 41 undef, t.getD 42 undef, t.getD 43 undef, t.getD 44 undef, t.getD 45 undef, t.getD 46 undef, t.getD 47 undef, t.getD 48 undef, t.getD 49 undef, t.getD 50 undef, t.getD 51 undef, t.getD 52 undef, t.getD 53 undef, t.getD 54 undef, t.getD 55 undef, t.getD 56 undef, t.getD 57 undef, t.getD 58 undef, t.getD 59 undef, t.getD 60 undef, t.getD 61 undef, t.getD 62 undef, t.getD 63 undef, t.getD 64 undef, t.getD 65 undef, t.getD 66 undef, t.getD 67 undef, t.getD 68 undef, t.getD 69 undef, t.getD 70 undef, t.getD 71 undef, t.getD 72 undef, t.getD 73 undef, t.getD 74 undef, t.getD 75 undef, t.getD 76 undef, t.getD 77 undef, t.getD 78 undef, t.getD 79 undef] := arr_of_size t 80 h
theorem frame80 {t : Array Value} (h : t.size = 80) {s0 s1 s2 s3 s8 s9 s10 s11 : Value} (h0 : t.getD 0 undef = s0) (h1 : t.getD 1 undef = s1) (h2 : t.getD 2 undef = s2) (h3 : t.getD 3 undef = s3) (h8 : t.getD 8 undef = s8) (h9 : t.getD 9 undef = s9) (h10 : t.getD 10 undef = s10) (h11 : t.getD 11 undef = s11) :
    ∃ u : Nat → Value, t = #[s0, s1, s2, s3, u 4, u 5, u 6, u 7, s8, s9, s10, s11, u 12, u 13, u 14, u 15, u 16, u 17, u 18, u 19, u 20, u 21, u 22, u 23, u 24, u 25, u 26, u 27, u 28, u 29, u 30, u 31, u 32, u 33, u 34, u 35, u 36, u 37, u 38, u 39, u 40, u 41, u 42, u 43, u 44, u 45, u 46, u 47, u 48, u 49, u 50, u 51, u 52, u 53, u 54, u 55, u 56, u 57, u 58, u 59, u 60, u 61, u 62, u 63, u 64, u 65, u 66, u 67, u 68, u 69, u 70, u 71, u 72, u 73, u 74, u 75, u 76, u 77, u 78, u 79] :=
  ⟨fun i => t.getD i undef, by subst h0 h1 h2 h3 h8 h9 h10 h11; exact arr80 t h⟩

/-- Where the machine stands when `N` steps are to come. -/
def ExJ (code : List (OpD × Int)) (steps : List Tk) (S : Nat → World → Prop) (G0 : List Nat) (ac : Option Addr) (cc gr nr cr B Bl : Nat) (most : Int) (see : Value) (r0 : List UInt64) (W : World) (N : Nat) (a' : Act) (wr : World) : Prop :=
  ∃ (pre rest : List Tk) (p d k : Nat) (st : List UInt64), a'.defers = [] ∧ a'.tmps.size = 80 ∧
    a'.tmps.getD 0 undef = .slice ac code.length cc ∧ a'.tmps.getD 1 undef = .slice (some ⟨gr, 0, none⟩) nr cr ∧ a'.tmps.getD 2 undef = .int .i64 most ∧ a'.tmps.getD 3 undef = see ∧ a'.tmps.getD 8 undef = .pointer (some ⟨Bl, 0, none⟩) ∧
    a'.tmps.getD 9 undef = .int .i64 (p : Int) ∧ a'.tmps.getD 10 undef = .int .i64 (k : Int) ∧ a'.tmps.getD 11 undef = .int .i64 (d : Int) ∧
    rest.length = N ∧ p ≤ code.length ∧ k = st.length ∧ k ≤ 8 ∧ Chn code (p, st) rest (code.length, []) ∧ steps = pre ++ rest ∧ d = (wrs (pre.map (·.op))).length ∧ d ≤ 1200000 ∧ (most < 0 ∨ (d : Int) ≤ most) ∧
    LeftAt wr Bl st ∧ Own wr B 50 (some ⟨gr, 0, none⟩) cr (runR (wrs (pre.map (·.op))) r0) ∧ S d wr ∧ Turned (gr :: G0) W wr
theorem ExJ.measure {J : Nat → Act → World → Prop} {N : Nat} {a a' : Act} {w w' : World} (hN : N + 1 = leastOf (fun N => J N a w)) (h : J N a' w') : leastOf (fun N => J N a' w') < leastOf (fun N => J N a w) := by
  have := (leastOf_spec (p := fun N => J N a' w') ⟨N, h⟩).2 N h
  omega

set_option maxRecDepth 100000 in
set_option maxHeartbeats 6400000 in
theorem execRun_calls  (S : Nat → World → Prop) (G0 : List Nat) (regs : Int) (f : Fo) (g : Good regs f) (ac : Option Addr) (cc gr cr B : Nat) (most : Int) (r0 : List UInt64) (w : World)
    (hc : At w ac (f.bare.code 0)) (hcb : f.bare.code 0 ≠ [] → ∀ q, ac.map (·.block) = some q → q ≠ gr ∧ q ∉ G0)
    (hr : Own w B 50 (some ⟨gr, 0, none⟩) cr r0) (hrl : (r0.length : Int) = regs)
    (hS : S 0 w) (hK : ∀ i W W', S i W → W.heap.size ≤ W'.heap.size → (∀ b ∈ G0, W'.heap[b]? = W.heap[b]?) → S i W')
    (hG : ∀ b ∈ G0, b < w.heap.size ∧ b ≠ gr)
    (hsee : ∀ (i : Nat) (x : OpD) (W : World), f.unroll[i]? = some x → S i W → Calls Tryz.prog 76 #[.int .i64 (i : Int), .agg #[.int .i64 x.kind, .int .i64 x.d, .int .i64 x.a, .int .i64 x.b, .int .u64 (x.v.toNat : Int)]] W fun e W' => e = .returned (.tuple #[]) ∧ S (i + 1) W' ∧ Turned G0 W W') :
    Calls Tryz.prog 75 #[.slice ac (f.bare.code 0).length cc, .slice (some ⟨gr, 0, none⟩) r0.length cr, .int .i64 most, .func (.func 76) #[] #[]] w fun e w' => e = .returned (.tuple #[]) ∧ Own w' B 50 (some ⟨gr, 0, none⟩) cr (runR (uptoL f.unroll most) r0) ∧ S (uptoL f.unroll most).length w' ∧ Turned (gr :: G0) w w' := by
  have hlen := g.code_length
  have HTK := hide g.tk
  have HPOS := hide g.tk_pos
  have hchn := hide g.chn
  have HIN := hide g.tk_in
  have HOPS := hide g.steps_ops
  have hgl := g.gone_le
  rw [← steps_length] at hgl
  obtain ⟨r1, r2⟩ : 1 ≤ regs ∧ regs ≤ 64 := ⟨g.r1, g.r2⟩
  generalize f.bare.code 0 = code at *
  generalize f.steps = steps at *
  generalize f.unroll = U at *
  have HCB := hide hcb
  have HK := hide hK
  have HG := hide hG
  have HSEE := hide hsee
  have HRL := hide hrl
  have hgr := (hr.blk gr rfl)
  obtain ⟨nr, hnr⟩ : ∃ nr, nr = r0.length := ⟨_, rfl⟩
  have hnr64 : nr ≤ 64 := by omega
  have HNR := hide hnr
  rw [← hnr]
  clear hcb hK hG hsee hrl g hnr
  go_enter Tryz.func75, Tryz.ntmps75
  go_wp2
  refine wp_scope_at 0 (fun a' wr => ∃ N, ExJ code steps S G0 ac cc gr nr cr B w.heap.size most (.func (.func 76) #[] #[]) r0 w N a' wr) (fun a' wr => leastOf fun N => ExJ code steps S G0 ac cc gr nr cr B w.heap.size most (.func (.func 76) #[] #[]) r0 w N a' wr) rfl ?_ ?_
  · go_wp2
    exact ⟨steps.length, [], steps, 0, 0, 0, [], rfl, rfl, rfl, rfl, rfl, rfl, rfl, rfl, rfl, rfl, rfl, by omega, rfl, by omega, hchn.out, rfl, rfl, by omega, by omega,
      ⟨_, Blk.new w _ _, rfl, fun i v h => by simp at h⟩, hr.alloc _, HK.out _ _ _ hS (by simp) (fun b hb => Below.heap_alloc _ _ _ (HG.out b hb).1), Turned.ofBelow (Below.alloc (Below.refl _ _) (Nat.le_refl _) _)⟩
  · intro a' wr hJ
    obtain ⟨N0, hN0⟩ : ∃ N0, N0 = leastOf (fun N => ExJ code steps S G0 ac cc gr nr cr B w.heap.size most (.func (.func 76) #[] #[]) r0 w N a' wr) := ⟨_, rfl⟩
    have hs := (leastOf_spec hJ).1
    rw [← hN0] at hs
    obtain ⟨pre, rest, p, d, k, st, hdf, hsz, f0, f1, f2, f3, f8, f9, f10, f11, hrN, hp, hk, hk8, hch, hst, hd, hd5, hdm, hL, hown, hSd, hT⟩ := hs
    obtain ⟨tm, df⟩ := a'
    simp only at hdf hsz f0 f1 f2 f3 f8 f9 f10 f11
    obtain ⟨u, rfl⟩ := frame80 hsz f0 f1 f2 f3 f8 f9 f10 f11
    subst hdf
    clear hsz f0 f1 f2 f3 f8 f9 f10 f11
    have HN0 := hide hN0
    have HKK := hide hk
    have HST := hide hst
    have HD := hide hd
    have HCH := hide hch
    have hzT := hT.size
    have hG0 : ∀ b ∈ gr :: G0, b < w.heap.size := fun b hb => by
      simp only [List.mem_cons] at hb
      rcases hb with rfl | hb
      · exact hgr.2
      · exact (HG.out b hb).1
    have hXr : At wr ac code := hc.turned hT (fun hne q hq e => by
      obtain ⟨h1, h2⟩ := HCB.out hne q e
      simp only [List.mem_cons] at hq
      exact hq.elim h1 h2)
    have hLl := hL.lt
    have HG0 := hide hG0
    clear hN0 hk hst hd hch hJ hG0
    cases rest with
    | nil =>
      have e := HCH.out
      change (p, st) = (code.length, []) at e
      injection e with e1 e2
      subst e1
      have hU : wrs (pre.map (·.op)) = U := by rw [← HOPS.out, HST.out]; simp
      have hup : uptoL U most = wrs (pre.map (·.op)) := by
        unfold uptoL
        rw [hU]
        rcases hdm with h | h
        · rw [if_pos h]
        · rw [if_neg (by omega), List.take_of_length_le (by rw [← hU, ← HD.out]; omega)]
      have HUP := hide hup
      clear e2 hU hup
      go_wp2
      simp only [Exit.jump]
      try rw [Exit.noGoto_ret]
      refine bodyPost_ret (results_none rfl _ _ _) rfl ⟨rfl, ?_⟩
      rw [HUP.out, ← HD.out]
      exact ⟨hown, hSd, hT⟩
    | cons x rest =>
      obtain ⟨e1, e2, e3⟩ := HCH.out
      injection e1 with e1a e1b
      subst e1a e1b
      have hplt : x.at' < code.length := (List.getElem?_eq_some_iff.1 e2).1
      have bp : ((x.at' : Int) == (code.length : Int)) = false := by simp; omega
      have hpU : wrs (pre.map (·.op)) ++ wrs ((x :: rest).map (·.op)) = U := by rw [← wrs_append, ← List.map_append, ← HST.out, HOPS.out]
      by_cases hdq : (d : Int) = most
      · have bd : ((d : Int) == most) = true := by simpa using hdq
        have hup : uptoL U most = wrs (pre.map (·.op)) := by
          unfold uptoL
          rw [if_neg (by omega), ← hpU, ← hdq, Int.toNat_natCast, HD.out, List.take_left]
        have HUP := hide hup
        clear hpU hup hdq e2 e3
        go_wp2
        simp only [Exit.jump]
        try rw [Exit.noGoto_ret]
        refine bodyPost_ret (results_none rfl _ _ _) rfl ⟨rfl, ?_⟩
        rw [HUP.out, ← HD.out]
        exact ⟨hown, hSd, hT⟩
      have bd : ((d : Int) == most) = false := by simpa using hdq
      have hmem : x ∈ steps := by rw [HST.out]; simp
      obtain ⟨t1, t2, t3, t4, t5, t6, t7, t8, t9⟩ := HTK.out x hmem
      obtain ⟨b1, off1, hac, x0, x1, x2, x3, x4, x5⟩ := hXr.getIns (Below.refl _ _) e2
      subst hac
      simp only at x0 x1 x2 x3 x4 x5
      have KEEP : Hid (∀ W3, Turned [w.heap.size] wr W3 → Own W3 B 50 (some ⟨gr, 0, none⟩) cr (runR (wrs (pre.map (·.op))) r0) ∧ S d W3 ∧ Turned (gr :: G0) w W3) := fun W3 hT3 =>
        ⟨hown.turned hT3 (fun q hq => by simp at hq; simp; omega), HK.out _ _ _ hSd hT3.size (fun b hb => hT3.block b (by have := (HG.out b hb).1; omega) (by have := (HG.out b hb).1; simp; omega)), hT.trans hT3 (fun q hq => by simp at hq; exact .inr (by omega))⟩
      have hmap : (pre ++ [x]).map (·.op) = pre.map (·.op) ++ [x.op] := by simp
      have hst2 : steps = (pre ++ [x]) ++ rest := by rw [HST.out]; simp
      have hsn := wrs_snoc' (pre.map (·.op)) x.op
      rw [← hmap] at hsn
      have HSN := hide hsn
      have HST2 := hide hst2
      have HE3 := hide e3
      have HPX := hide (HPOS.out x hmem)
      have HINX := hide (HIN.out x hmem)
      have HPU := hide hpU
      have hrdx : d < 1200000 := by
        have h1 := wrs_length' (pre.map (·.op))
        have h2 : (pre.map (·.op)).length + 1 ≤ steps.length := by rw [HST.out]; simp
        have := HD.out
        omega
      have hmost : most < 0 ∨ (d : Int) + 1 ≤ most := by omega
      clear hmap hst2 hsn e2 e3 hmem hpU hdq t5
      rcases kind_cases x.op with ⟨k7, b7, b0⟩ | ⟨k0, b7, b0⟩ | ⟨k7, k0, b7, b0⟩
      · have hnx : x.next = (x.at' + 1, x.st ++ [x.op.v]) := by unfold Tk.next; rw [if_pos k7]
        have hch2 := HE3.out
        rw [hnx] at hch2
        have HCH2 := hide hch2
        have hk7 := t3 k7
        rw [← HKK.out] at hk7
        have hws : wrs ((pre ++ [x]).map (·.op)) = wrs (pre.map (·.op)) := by rw [HSN.out, if_neg (fun h => h.1 k7)]
        have HWS := hide hws
        obtain ⟨v0, c0, c1⟩ := hL.room (i := k) (by omega)
        have hL3 := hL.push (by have := HKK.out; omega) x.op.v
        rw [← HKK.out] at hL3
        have HL3 := hide hL3
        clear hL3
        clear hnx hch2 k7 t3 t4 hws
        go_wp2
        go_step3
        refine ⟨rfl, ?_⟩
        suffices hnew : ExJ code steps S G0 (some ⟨b1, off1, none⟩) cc gr nr cr B w.heap.size most (.func (.func 76) #[] #[]) r0 w rest.length _ _ from ⟨⟨_, hnew⟩, ExJ.measure (J := ExJ code steps S G0 (some ⟨b1, off1, none⟩) cc gr nr cr B w.heap.size most (.func (.func 76) #[] #[]) r0 w) (by have := HN0.out; rw [← this, ← hrN]; rfl) hnew⟩
        refine ⟨pre ++ [x], rest, x.at' + 1, d, k + 1, x.st ++ [x.op.v], rfl, rfl, rfl, rfl, rfl, rfl, rfl, rfl, rfl, rfl, rfl, by omega, by rw [List.length_append, ← HKK.out]; rfl, by omega, HCH2.out, HST2.out, by rw [HWS.out]; exact HD.out, hd5, hdm,
          HL3.out.turned (Turned.ofBelow (F := []) (below2 _ _ _)) (by simp), ?_⟩
        rw [HWS.out]
        exact KEEP.out _ ((Turned.ofGrown (F := [w.heap.size]) (grown_setCell _ _ _ _) (fun q hq => .inl (by injection hq with hq; simp [hq]))).trans (Turned.ofBelow (F := []) (below2 _ _ _)) (fun q hq => by cases hq))
      · have hst0 := t4 k0
        obtain ⟨st', last, hst'⟩ : ∃ st' last, x.st = st' ++ [last] := ⟨x.st.dropLast, x.st.getLast hst0, (List.dropLast_concat_getLast hst0).symm⟩
        have hpos := HPX.out k0
        have hk' : k = st'.length + 1 := by rw [HKK.out, hst']; simp
        obtain ⟨k', rfl⟩ : ∃ k', k = k' + 1 := ⟨k - 1, by omega⟩
        have hk2 : k' = st'.length := by omega
        have hgl : x.st.getLast?.getD 0 = last := by rw [hst']; simp
        rw [hgl] at hpos
        have hub := last.toNat_lt
        have hlast : x.st[k']? = some last := by rw [hst', hk2]; simp
        have c0 := hL.cell hlast
        obtain ⟨v0, c0', c1⟩ := hL.room (i := k') (by omega)
        have hsub : ((last.toNat : Int) - 1) = ((last - 1).toNat : Int) := by rw [UInt64.toNat_sub]; simp; omega
        have hL1 : LeftAt wr w.heap.size (st' ++ [last]) := by rw [← hst']; exact hL
        have hL3 := hL1.turn (by omega) (last - 1)
        rw [← hsub, ← hk2] at hL3
        have HL3 := hide hL3
        have hws : wrs ((pre ++ [x]).map (·.op)) = wrs (pre.map (·.op)) := by rw [HSN.out, if_neg (fun h => h.2 k0)]
        have HWS := hide hws
        have HK2 := hide hk2
        have HS' := hide hst'
        have hkk8 : (k' : Int) < 8 := by omega
        clear c0' hL1 hL3
        by_cases hq : 1 < last.toNat
        · have hnx : x.next = (x.to.toNat, st' ++ [last - 1]) := by unfold Tk.next; rw [if_neg (by omega), if_pos k0, hgl, if_pos hq, hst']; simp
          have hch2 := HE3.out
          rw [hnx] at hch2
          have HCH2 := hide hch2
          have hdq : decide (0 < (last.toNat : Int) - 1) = true := by simp; omega
          clear hnx hch2 k0 t3 t4 hlast hgl hsub hst0 hst' hk2 hk' HPX hws
          go_wp2
          go_step3
          refine ⟨rfl, ?_⟩
          suffices hnew : ExJ code steps S G0 (some ⟨b1, off1, none⟩) cc gr nr cr B w.heap.size most (.func (.func 76) #[] #[]) r0 w rest.length _ _ from ⟨⟨_, hnew⟩, ExJ.measure (J := ExJ code steps S G0 (some ⟨b1, off1, none⟩) cc gr nr cr B w.heap.size most (.func (.func 76) #[] #[]) r0 w) (by have := HN0.out; rw [← this, ← hrN]; rfl) hnew⟩
          refine ⟨pre ++ [x], rest, x.to.toNat, d, k' + 1, st' ++ [last - 1], rfl, rfl, rfl, rfl, rfl, rfl, rfl, congrArg (Value.int .i64) (by omega), rfl, rfl, rfl, by omega, by rw [List.length_append, ← HK2.out]; rfl, by omega, HCH2.out, HST2.out, by rw [HWS.out]; exact HD.out, hd5, hdm,
            HL3.out.turned (Turned.ofBelow (F := []) (below2 _ _ _)) (by simp), ?_⟩
          rw [HWS.out]
          exact KEEP.out _ ((Turned.ofGrown (F := [w.heap.size]) (grown_setCell _ _ _ _) (fun q hq => .inl (by injection hq with hq; simp [hq]))).trans (Turned.ofBelow (F := []) (below2 _ _ _)) (fun q hq => by cases hq))
        · have hnx : x.next = (x.at' + 1, st') := by unfold Tk.next; rw [if_neg (by omega), if_pos k0, hgl, if_neg hq, hst']; simp
          have hch2 := HE3.out
          rw [hnx] at hch2
          have HCH2 := hide hch2
          have hdq : decide (0 < (last.toNat : Int) - 1) = false := by simp; omega
          clear hnx hch2 k0 t3 t4 hlast hgl hsub hst0 hst' hk2 hk' HPX hws
          go_wp2
          go_step3
          refine ⟨rfl, ?_⟩
          suffices hnew : ExJ code steps S G0 (some ⟨b1, off1, none⟩) cc gr nr cr B w.heap.size most (.func (.func 76) #[] #[]) r0 w rest.length _ _ from ⟨⟨_, hnew⟩, ExJ.measure (J := ExJ code steps S G0 (some ⟨b1, off1, none⟩) cc gr nr cr B w.heap.size most (.func (.func 76) #[] #[]) r0 w) (by have := HN0.out; rw [← this, ← hrN]; rfl) hnew⟩
          refine ⟨pre ++ [x], rest, x.at' + 1, d, k', st', rfl, rfl, rfl, rfl, rfl, rfl, rfl, rfl, rfl, rfl, rfl, by omega, HK2.out, by omega, HCH2.out, HST2.out, by rw [HWS.out]; exact HD.out, hd5, hdm,
            (HL3.out.pop).turned (Turned.ofBelow (F := []) (below2 _ _ _)) (by simp), ?_⟩
          rw [HWS.out]
          exact KEEP.out _ ((Turned.ofGrown (F := [w.heap.size]) (grown_setCell _ _ _ _) (fun q hq => .inl (by injection hq with hq; simp [hq]))).trans (Turned.ofBelow (F := []) (below2 _ _ _)) (fun q hq => by cases hq))
      · have hkk1 : 1 ≤ x.op.kind := by omega
        have hkk2 : x.op.kind ≤ 6 := by omega
        obtain ⟨⟨d1, d2⟩, ⟨a1, a2⟩, ⟨i1, i2⟩⟩ := HINX.out hkk1 hkk2
        have hlr : (runR (wrs (pre.map (·.op))) r0).length = nr := by rw [runR_length, HNR.out]
        have HLR := hide hlr
        have HRL2 := HRL.out
        rw [← HNR.out] at HRL2
        have hAn : x.op.a.toNat < nr := by omega
        have hEn : x.op.b.toNat < nr := by omega
        have hDn : x.op.d.toNat < nr := by omega
        have a3 : x.op.a < (nr : Int) := by omega
        have i3 : x.op.b < (nr : Int) := by omega
        have d3 : x.op.d < (nr : Int) := by omega
        generalize hregs : runR (wrs (pre.map (·.op))) r0 = R at *
        obtain ⟨va, hva⟩ : ∃ va, R[x.op.a.toNat]? = some va := ⟨R[x.op.a.toNat]'(by omega), List.getElem?_eq_getElem _⟩
        obtain ⟨vb, hvb⟩ : ∃ vb, R[x.op.b.toNat]? = some vb := ⟨R[x.op.b.toNat]'(by omega), List.getElem?_eq_getElem _⟩
        obtain ⟨vd, hvd⟩ : ∃ vd, R[x.op.d.toNat]? = some vd := ⟨R[x.op.d.toNat]'(by omega), List.getElem?_eq_getElem _⟩
        have ra : wr.cell? ⟨gr, x.op.a.toNat, none⟩ = some (.int .u64 (va.toNat : Int)) := by simpa [Flat.n] using hown.cellAt hva (f := 0) rfl
        have rb : wr.cell? ⟨gr, x.op.b.toNat, none⟩ = some (.int .u64 (vb.toNat : Int)) := by simpa [Flat.n] using hown.cellAt hvb (f := 0) rfl
        have rd : wr.cell? ⟨gr, x.op.d.toNat, none⟩ = some (.int .u64 (vd.toNat : Int)) := by simpa [Flat.n] using hown.cellAt hvd (f := 0) rfl
        have rf := hown.frozen x.op.d.toNat
        have hgl := (hown.blk gr rfl).2
        have HAP := hide (fun w => Apply_calls x.op va vb w)
        have HVA := hide hva
        have HVB := hide hvb
        have HVD := hide hvd
        have HRG := hide hregs
        have hOb := Blk.new (wr.alloc (.cells #[.int .i64 x.op.kind, .int .i64 x.op.d, .int .i64 x.op.a, .int .i64 x.op.b, .int .u64 (x.op.v.toNat : Int), .int .i64 x.to] 117)) 71 #[.int .i64 x.op.kind, .int .i64 x.op.d, .int .i64 x.op.a, .int .i64 x.op.b, .int .u64 (x.op.v.toNat : Int)]
        simp only [World.size_alloc] at hOb
        have hown2 := hown.belowN (below2 wr (.cells #[.int .i64 x.op.kind, .int .i64 x.op.d, .int .i64 x.op.a, .int .i64 x.op.b, .int .u64 (x.op.v.toNat : Int), .int .i64 x.to] 117) (.cells #[.int .i64 x.op.kind, .int .i64 x.op.d, .int .i64 x.op.a, .int .i64 x.op.b, .int .u64 (x.op.v.toNat : Int)] 71))
        clear hva hvb hvd hregs hlr t3 t4 HPX hkk1 hkk2
        go_wp2_with fail
        have hB02 := below2 wr (.cells #[.int .i64 x.op.kind, .int .i64 x.op.d, .int .i64 x.op.a, .int .i64 x.op.b, .int .u64 (x.op.v.toNat : Int), .int .i64 x.to] 117) (.cells #[.int .i64 x.op.kind, .int .i64 x.op.d, .int .i64 x.op.a, .int .i64 x.op.b, .int .u64 (x.op.v.toNat : Int)] 71)
        generalize hW2 : (wr.alloc (.cells #[.int .i64 x.op.kind, .int .i64 x.op.d, .int .i64 x.op.a, .int .i64 x.op.b, .int .u64 (x.op.v.toNat : Int), .int .i64 x.to] 117)).alloc (.cells #[.int .i64 x.op.kind, .int .i64 x.op.d, .int .i64 x.op.a, .int .i64 x.op.b, .int .u64 (x.op.v.toNat : Int)] 71) = W2 at *
        obtain ⟨y0, y1, y2, y3, y4, z0, z1, z2, z3, z4⟩ := hOb.c5
        have hz2 : W2.heap.size = wr.heap.size + 2 := by rw [← hW2]; simp
        have ra2 : W2.cell? ⟨gr, x.op.a.toNat, none⟩ = some (.int .u64 (va.toNat : Int)) := by simpa [Flat.n] using hown2.cellAt HVA.out (f := 0) rfl
        have rb2 : W2.cell? ⟨gr, x.op.b.toNat, none⟩ = some (.int .u64 (vb.toNat : Int)) := by simpa [Flat.n] using hown2.cellAt HVB.out (f := 0) rfl
        have rd2 : W2.cell? ⟨gr, x.op.d.toNat, none⟩ = some (.int .u64 (vd.toNat : Int)) := by simpa [Flat.n] using hown2.cellAt HVD.out (f := 0) rfl
        have rf2 := hown2.frozen x.op.d.toNat
        have hgl2 : gr < W2.heap.size := by omega
        have hol2 : wr.heap.size + 1 < W2.heap.size := by omega
        have hgo : gr ≠ wr.heap.size + 1 := by omega
        clear ra rb rd rf hW2
        obtain ⟨S', hS'⟩ : ∃ S' : World → Prop, S' = fun w' => (w'.cell? ⟨wr.heap.size + 1, 0, none⟩ = some (.int .i64 x.op.kind) ∧ w'.cell? ⟨wr.heap.size + 1, 1, none⟩ = some (.int .i64 x.op.d) ∧ w'.cell? ⟨wr.heap.size + 1, 2, none⟩ = some (.int .i64 x.op.a) ∧ w'.cell? ⟨wr.heap.size + 1, 3, none⟩ = some (.int .i64 x.op.b) ∧ w'.cell? ⟨wr.heap.size + 1, 4, none⟩ = some (.int .u64 (x.op.v.toNat : Int))) ∧ w'.cell? ⟨gr, x.op.a.toNat, none⟩ = some (.int .u64 (va.toNat : Int)) ∧ w'.cell? ⟨gr, x.op.b.toNat, none⟩ = some (.int .u64 (vb.toNat : Int)) := ⟨_, rfl⟩
        have hSe : ∀ w', S' w' → (w'.cell? ⟨wr.heap.size + 1, 0, none⟩ = some (.int .i64 x.op.kind) ∧ w'.cell? ⟨wr.heap.size + 1, 1, none⟩ = some (.int .i64 x.op.d) ∧ w'.cell? ⟨wr.heap.size + 1, 2, none⟩ = some (.int .i64 x.op.a) ∧ w'.cell? ⟨wr.heap.size + 1, 3, none⟩ = some (.int .i64 x.op.b) ∧ w'.cell? ⟨wr.heap.size + 1, 4, none⟩ = some (.int .u64 (x.op.v.toNat : Int))) ∧ w'.cell? ⟨gr, x.op.a.toNat, none⟩ = some (.int .u64 (va.toNat : Int)) ∧ w'.cell? ⟨gr, x.op.b.toNat, none⟩ = some (.int .u64 (vb.toNat : Int)) := fun w' h => by rw [hS'] at h; exact h
        have HSE := hide hSe
        have HSI : Hid (S' W2.drew) := by show S' W2.drew; rw [hS']; exact ⟨⟨y0, y1, y2, y3, y4⟩, ra2, rb2⟩
        have HSI4 : Hid (∀ w4, Below W2.drew.heap.size W2.drew w4 → S' w4) := by
          show ∀ w4, _ → _
          intro w4 hb4
          obtain ⟨hc4, hf4⟩ := bcell hb4
          rw [hS']
          exact ⟨⟨(hc4 _ 0 hol2).trans y0, (hc4 _ 1 hol2).trans y1, (hc4 _ 2 hol2).trans y2, (hc4 _ 3 hol2).trans y3, (hc4 _ 4 hol2).trans y4⟩, (hc4 _ _ hgl2).trans ra2, (hc4 _ _ hgl2).trans rb2⟩
        clear hSe hS'
        refine wp_region_call 14 S' (by kernel_rfl) (by kernel_rfl) HSI.out ?_
        simp only [List.take_succ_cons, List.take_zero, List.drop_succ_cons, List.drop_zero]
        iterate 14
          apply headK_step (by rfl)
          · intro w' hw'
            obtain ⟨⟨s0, s1, s2, s3, s4⟩, s5, s6⟩ := HSE.out w' hw'
            go_simp
            rfl
          intro a' ha'
          simp only [Act.put, List.setIfInBounds_toArray, List.set_cons_succ, List.set_cons_zero] at ha'
          subst ha'
        refine headK_nil ?_
        intro o ho K0 hK0
        simp only [List.getElem?_cons_succ, List.getElem?_cons_zero, Option.some.injEq] at ho
        subst ho
        have HK0 := hide hK0
        clear hK0
        go_simp
        go_at_call 85
        refine (HAP.out _).mono ?_
        rintro e w4 ⟨rfl, hb4⟩
        refine HK0.out _ _ (HSI4.out w4 hb4) ?_
        obtain ⟨hc4, hf4⟩ := bcell hb4
        have q0 := (hc4 _ 0 hol2).trans y0
        have q1 := (hc4 _ 1 hol2).trans y1
        have q2 := (hc4 _ 2 hol2).trans y2
        have q3 := (hc4 _ 3 hol2).trans y3
        have q4 := (hc4 _ 4 hol2).trans y4
        have qd := (hc4 _ _ hgl2).trans rd2
        have qf := (hf4 _ x.op.d.toNat hgl2).trans rf2
        clear hc4 hf4 HK0
        go_wp2
        refine NoPanic.normal ?_
        have hb4' : Below W2.heap.size W2 w4 := ⟨hb4.os, hb4.tape, hb4.output, hb4.size, hb4.block⟩
        have hTb : Turned [gr] wr w4 := (Turned.ofBelow (F := [gr]) hB02).trans (Turned.ofBelow (F := []) hb4') (fun b hb => by cases hb)
        have hT5 : Turned [gr] wr (w4.setCell ⟨gr, x.op.d.toNat, none⟩ (.int .u64 ((applyU x.op va vb).toNat : Int))) := hTb.trans (Turned.ofGrown (F := [gr]) (grown_setCell _ _ _ _) (fun q hq => .inl (by injection hq with hq; simp [hq]))) (fun b hb => .inl hb)
        have hown4 : Own w4 B 50 (some ⟨gr, 0, none⟩) cr R := hown2.drew.belowN hb4
        have hown5 := hown4.set1 x.op.d.toNat (applyU x.op va vb) _ rfl
        have hstep : R.set x.op.d.toNat (applyU x.op va vb) = runR (wrs ((pre ++ [x]).map (·.op))) r0 := by
          rw [HSN.out, if_pos ⟨k7, k0⟩, runR_append, HRG.out]
          show _ = stepR R x.op
          unfold stepR getR
          rw [HVA.out, HVB.out]
          rfl
        rw [hstep] at hown5
        have hS5 := HK.out _ _ _ hSd hT5.size (fun b hb => hT5.block b (by have := (HG.out b hb).1; omega) (by have := (HG.out b hb).2; simpa using this))
        have hL5 := hL.turned hT5 (by simp; omega)
        have hUd : U[d]? = some x.op := by
          rw [← HPU.out, HD.out, List.getElem?_append_right (Nat.le_refl _), Nat.sub_self, List.map_cons]
          unfold wrs
          rw [List.filter_cons, if_pos (by simp [k7, k0])]
          rfl
        have HC := hide (HSEE.out d x.op _ hUd hS5)
        have hnx : x.next = (x.at' + 1, x.st) := by unfold Tk.next; rw [if_neg k7, if_neg k0]
        have hch2 := HE3.out
        rw [hnx] at hch2
        have HCH2 := hide hch2
        have HOWN := hide hown5
        have HD2 : Hid (d + 1 = (wrs ((pre ++ [x]).map (·.op))).length) := by show d + 1 = _; rw [HSN.out, if_pos ⟨k7, k0⟩, List.length_append, ← HD.out]; rfl
        have hl4 : gr < w4.heap.size := by have := hb4.size; simp at this; omega
        clear hnx hch2 hUd hS5 hstep hown5 hown4 k7 k0 HSI4 HSI HSE hOb hown2
        go_wp2_with (go_at_call 76; ((with_reducible refine (HC.out).mono ?_); rintro e w6 ⟨rfl, hS6, hT6⟩))
        have hTT : Turned (gr :: G0) w w6 := (hT.trans hT5 (fun q hq => .inl (by simp at hq; simp [hq]))).trans hT6 (fun q hq => .inl (by simp [hq]))
        go_step3
        refine ⟨rfl, ?_⟩
        suffices hnew : ExJ code steps S G0 (some ⟨b1, off1, none⟩) cc gr nr cr B w.heap.size most (.func (.func 76) #[] #[]) r0 w rest.length _ _ from ⟨⟨_, hnew⟩, ExJ.measure (J := ExJ code steps S G0 (some ⟨b1, off1, none⟩) cc gr nr cr B w.heap.size most (.func (.func 76) #[] #[]) r0 w) (by have := HN0.out; rw [← this, ← hrN]; rfl) hnew⟩
        exact ⟨pre ++ [x], rest, x.at' + 1, d + 1, k, x.st, rfl, rfl, rfl, rfl, rfl, rfl, rfl, rfl, rfl, rfl, rfl, by omega, HKK.out, by omega, HCH2.out, HST2.out, HD2.out, by omega, by omega,
          hL5.turned hT6 (fun hm => by have := (HG.out _ hm).1; omega), HOWN.out.turned hT6 (fun q hq hm => by simp at hq; subst hq; exact (HG.out _ hm).2 rfl), hS6, hTT⟩
end Go.Proofs.YtmmepffdjmpblaaGreat

/- Chapter 13: begin, Run, Upto, Last. -/
namespace Go.Proofs.YtmmepffdjmpblaaGreat
set_option linter.unusedVariables false
set_option linter.unusedSimpArgs false
open Go.RowKit

/-- may registers be handed in? -/
def dimsS (regs : Int) (l : List OpD) (n : Nat) : Int := if checkS regs l ≠ 0 then checkS regs l else if regs < (n : Int) then 10 else 0
theorem dims_good {regs : Int} {l : List OpD} {n : Nat} (h : dimsS regs l n = 0) : ∃ f : Fo, l = f.flat ∧ Good regs f ∧ (n : Int) ≤ regs := by
  unfold dimsS at h
  by_cases hc : checkS regs l = 0
  · rw [if_neg (by simpa using hc)] at h
    obtain ⟨f, rfl, g⟩ := good_of_check hc
    by_cases hn : regs < (n : Int)
    · rw [if_pos hn] at h; cases h
    · exact ⟨f, rfl, g, by omega⟩
  · rw [if_pos hc] at h; exact absurd h hc
theorem dims_of_good {regs : Int} {f : Fo} (g : Good regs f) {n : Nat} (hn : (n : Int) ≤ regs) : dimsS regs f.flat n = 0 := by
  unfold dimsS
  rw [if_neg (by simpa using g.check), if_neg (by omega)]
noncomputable def uptoS (regs : Int) (l : List OpD) (r : List UInt64) (m : Int) : List UInt64 := if dimsS regs l r.length = 0 then runR (uptoL (unrS regs l) m) (startR regs.toNat r) else []
theorem uptoS_good {regs : Int} {f : Fo} (g : Good regs f) {r : List UInt64} (hn : (r.length : Int) ≤ regs) (m : Int) : uptoS regs f.flat r m = runR (uptoL f.unroll m) (startR regs.toNat r) := by
  unfold uptoS
  rw [if_pos (dims_of_good g hn), unrS_good g]
theorem uptoS_bad {regs : Int} {l : List OpD} {r : List UInt64} (h : dimsS regs l r.length ≠ 0) (m : Int) : uptoS regs l r m = [] := by unfold uptoS; rw [if_neg h]

theorem tyU0 : TyZ Tryz.prog 25 50 (0 : UInt64) (.int .u64 0) := TyZ.of (bytes := 8) Tryz.underlying25 (by kernel_rfl) (by decide) rfl rfl
theorem enc_map (l : List UInt64) : l.flatMap Flat.enc = l.map fun x => Value.int .u64 (x.toNat : Int) := by
  induction l with
  | nil => rfl
  | cons x r ih => rw [List.flatMap_cons, ih]; rfl
theorem wpList_copyIn {P : Program} {w : World} {ops : Array Oper} {rest : List Oper} {o : Oper} {act : Act} {Q : Exit → Act → World → Prop} {T E : TypeId} (hu : P.underlying T = some (.slice E)) (hsz : (P.info? E).map (·.size) = some 1)
    {d s : Operand} (hgd : o.guard = none) (ho : o.op = .call { callee := .builtin .copy, args := #[d, s], argTypes := #[T, T] }) {B g dLen dCap sLen sCap : Nat} {sp : Option Addr} {l l2 : List UInt64}
    (hd : act.eval d = .slice (some ⟨g, 0, none⟩) dLen dCap) (hs : act.eval s = .slice sp sLen sCap) (hdl : dLen = l.length) (hsl : sLen = l2.length) (hle : l2.length ≤ l.length) (own : Own w B E (some ⟨g, 0, none⟩) dCap l) (src : At w sp l2)
    (h : ∀ w', Own w' B E (some ⟨g, 0, none⟩) dCap (l2 ++ l.drop l2.length) → w.grownBy w' (some g) → wpList P ops Q rest (act.put o.dst (goInt l2.length)) w') : wpList P ops Q (o :: rest) act w := by
  subst hdl hsl
  by_cases h0 : l2 = []
  · subst h0
    refine wpList_copy_nothing hgd d s T T ho E hu hsz _ _ _ _ _ _ hd hs (by simp) ?_
    exact h w (by simpa using own) (grown_drewN w 0 _)
  · obtain ⟨b, off, hsp, hlt⟩ := src.lt h0
    subst hsp
    rcases own.2 with ⟨hv, _⟩ | ⟨g', cap, cur, hv, hB, hg, hc1, hc2, hc3, hc4⟩
    · injection hv with h1 _ _; cases h1
    injection hv with e1 e2 e3
    subst e3
    injection e1 with e1
    injection e1 with e1 _ _
    subst e1
    rw [enc_map] at hc4
    have hn1 : Flat.n UInt64 = 1 := rfl
    rw [hn1, Nat.mul_one] at hc3 hc4
    have hcl : (l2.map fun x => Value.int .u64 (x.toNat : Int)).length = l2.length := by simp
    refine wpList_copy_own hgd d s T T ho E hu hsz g 0 _ _ ⟨b, off, none⟩ _ _ hd hs cur E hg (l2.map fun x => Value.int .u64 (x.toNat : Int)) (by rw [hcl]; exact (Nat.min_eq_left hle).symm) ?_ (by rw [hcl]; omega) (by intro v hv; obtain ⟨x, _, rfl⟩ := List.mem_map.1 hv; rfl) ?_
    · intro j v hv
      rw [List.getElem?_map] at hv
      cases hx : l2[j]? with
      | none => rw [hx] at hv; cases hv
      | some x =>
        rw [hx] at hv
        injection hv with hv
        obtain ⟨b', off', e, h2⟩ := src j x hx
        injection e with e
        injection e with e1 e2 _
        subst e1 e2
        have := h2 0 _ rfl
        rw [addr_add, ← hv]
        simpa [hn1] using this
    · rw [hcl]
      refine h _ ⟨enc_length _, .inr ⟨g, dCap, _, ?_, hB, setRow_heap w g _ _ _ _ hg, ?_, hc2, ?_, ?_⟩⟩ ⟨rfl, rfl, rfl, by simp [World.setRow], fun k hk hne => setRow_other w g k _ (fun e => hne (by rw [e]))⟩
      · rw [List.length_append, List.length_drop]
      · rw [List.length_append, List.length_drop]; omega
      · simp [hn1, hc3]; omega
      · rw [enc_map, hn1, Nat.mul_one, List.length_append, List.length_drop]
        have e1 : l2.length + (l.length - l2.length) = l.length := by omega
        rw [e1, List.toList_toArray, List.take_zero, List.nil_append, Nat.zero_add, List.map_append, List.map_drop, ← hc4, List.take_append, hcl, List.take_of_length_le (by rw [hcl]; omega), List.drop_take]

set_option maxHeartbeats 800000 in
theorem begin_bad (regs : Int) (a : Option Addr) (c : Nat) (l : List OpD) (ra : Option Addr) (rc : Nat) (r : List UInt64) (w : World) (h : At w a l) (hl : l.length ≤ 1000000) (hc : checkS regs l ≠ 0) :
    Calls Tryz.prog 74 #[.agg #[.int .i64 regs, .slice a l.length c], .slice ra r.length rc] w fun e w' => e = .returned (.tuple #[.slice none 0 0, .slice none 0 0, .int .i64 (checkS regs l)]) ∧ Below w.heap.size w w' := by
  have h1 := h.belowN (below_new12 w (.cells #[.int .i64 regs, .slice a l.length c] 24))
  have hb0 := below_new12 w (.cells #[.int .i64 regs, .slice a l.length c] 24)
  have HP := hide (Code_calls regs a c l _ h1 hl)
  obtain ⟨E, hE⟩ : ∃ E, E = checkS regs l := ⟨_, rfl⟩
  unfold CodePost at HP
  rw [← hE] at HP hc ⊢
  have e1 : (E == 0) = false := by simpa using hc
  have e2 : (E != 0) = true := by simpa using hc
  clear hE hc
  go_enter Tryz.func74, Tryz.ntmps74
  go_wp2_with (go_at_call 41; ((with_reducible refine (HP.out).mono ?_); rintro e w1 ⟨a1, c1, rfl, hown1, hb1⟩))
  go_ret3
  exact ⟨rfl, hb0.trans (hb1.mono hb0.size)⟩
set_option maxHeartbeats 800000 in
theorem begin_dims (regs : Int) (a : Option Addr) (c : Nat) (f : Fo) (g : Good regs f) (ra : Option Addr) (rc : Nat) (r : List UInt64) (w : World) (h : At w a f.flat) (hn : regs < (r.length : Int)) :
    Calls Tryz.prog 74 #[.agg #[.int .i64 regs, .slice a f.flat.length c], .slice ra r.length rc] w fun e w' => e = .returned (.tuple #[.slice none 0 0, .slice none 0 0, .int .i64 10]) ∧ Below w.heap.size w w' := by
  have hl : f.flat.length ≤ 4096 := g.len
  have h1 := h.belowN (below_new12 w (.cells #[.int .i64 regs, .slice a f.flat.length c] 24))
  have hb0 := below_new12 w (.cells #[.int .i64 regs, .slice a f.flat.length c] 24)
  have HP := hide (Code_calls regs a c f.flat _ h1 (by omega))
  unfold CodePost at HP
  rw [g.check, codeS_good g] at HP
  clear g
  go_enter Tryz.func74, Tryz.ntmps74
  go_wp2_with (go_at_call 41; ((with_reducible refine (HP.out).mono ?_); rintro e w1 ⟨a1, c1, rfl, hown1, hb1⟩; have hbx := (Blk.new w 24 #[.int .i64 regs, .slice a f.flat.length c]).belowN hb1; obtain ⟨p0, p1, p2, p3⟩ := hbx.c2))
  go_ret3
  exact ⟨rfl, hb0.trans (hb1.mono hb0.size)⟩
def BegPost (regs : Int) (f : Fo) (r : List UInt64) (w : World) (e : Ending) (w' : World) : Prop :=
  ∃ ac cc gr cr, e = .returned (.tuple #[.slice ac (f.bare.code 0).length cc, .slice (some ⟨gr, 0, none⟩) (startR regs.toNat r).length cr, .int .i64 0]) ∧ Own w' w.heap.size 117 ac cc (f.bare.code 0) ∧ Own w' w.heap.size 50 (some ⟨gr, 0, none⟩) cr (startR regs.toNat r) ∧ ac.map (·.block) ≠ some gr ∧ Below w.heap.size w w'
set_option maxRecDepth 100000 in
set_option maxHeartbeats 1600000 in
theorem begin_good (regs : Int) (a : Option Addr) (c : Nat) (f : Fo) (g : Good regs f) (ra : Option Addr) (rc : Nat) (r : List UInt64) (w : World) (h : At w a f.flat) (hr : At w ra r) (hn : (r.length : Int) ≤ regs) :
    Calls Tryz.prog 74 #[.agg #[.int .i64 regs, .slice a f.flat.length c], .slice ra r.length rc] w (BegPost regs f r w) := by
  have hl : f.flat.length ≤ 4096 := g.len
  obtain ⟨nr, rfl⟩ : ∃ nr : Nat, regs = nr := ⟨regs.toNat, by have := g.r1; omega⟩
  have hr64 : nr ≤ 64 := by have := g.r2; omega
  have h1 := h.belowN (below_new12 w (.cells #[.int .i64 nr, .slice a f.flat.length c] 24))
  have hr1 := hr.belowN (below_new12 w (.cells #[.int .i64 nr, .slice a f.flat.length c] 24))
  have hb0 := below_new12 w (.cells #[.int .i64 nr, .slice a f.flat.length c] 24)
  have HP := hide (Code_calls nr a c f.flat _ h1 (by omega))
  have hrl : r.length ≤ nr := by omega
  have hnn : ¬ nr < r.length := by omega
  have HSL := hide (startR_length nr r hrl)
  unfold CodePost at HP
  rw [g.check, codeS_good g] at HP
  clear g
  go_enter Tryz.func74, Tryz.ntmps74
  go_wp2_with (first
    | (go_at_call 41; ((with_reducible refine (HP.out).mono ?_); rintro e w1 ⟨a1, c1, rfl, hown1, hb1⟩; have hbx := (Blk.new w 24 #[.int .i64 nr, .slice a f.flat.length c]).belowN hb1; obtain ⟨p0, p1, p2, p3⟩ := hbx.c2))
    | (at_make; refine wpList_mk tyU0 (B := w.heap.size) (n := nr) rfl rfl rfl rfl rfl rfl (by have := hb1.size; simp at this; omega) (by omega) ?_; intro w2 hown2 hg2)
    | (refine wpList_copyIn Tryz.underlying25 (by kernel_rfl) rfl rfl rfl rfl (by simp) rfl (by simpa using hrl) hown2 ((hr1.belowN hb1).grown hg2 (fun _ => .inr rfl)) ?_; intro w3 hown3 hg3))
  go_ret3
  have hs1 := hb1.size
  simp only [World.size_alloc] at hs1
  unfold BegPost
  have hst : startR nr r = r ++ (List.replicate nr (0 : UInt64)).drop r.length := by unfold startR; rw [List.drop_replicate]
  refine ⟨a1, c1, w1.heap.size, nr, ?_, ((hown1.mono (by simp)).belowN (below_of_grown hg2)).grown hg3 ?_, ?_, ?_, ?_⟩
  · rw [Int.toNat_natCast, HSL.out]; rfl
  · refine .inr fun e => ?_
    have := (hown1.blk _ e).2
    omega
  · rw [Int.toNat_natCast, hst]; exact hown3
  · intro e
    have := (hown1.blk _ e).2
    omega
  · exact Below.grown (Below.grown (hb0.trans (hb1.mono hb0.size)) hg2 (by omega) (fun k hk => by cases hk)) hg3 (by have := hg2.size; omega) (fun k hk => by injection hk with hk; omega)
theorem begin_err (regs : Int) (a : Option Addr) (c : Nat) (l : List OpD) (ra : Option Addr) (rc : Nat) (r : List UInt64) (w : World) (h : At w a l) (hl : l.length ≤ 1000000) (hc : dimsS regs l r.length ≠ 0) :
    Calls Tryz.prog 74 #[.agg #[.int .i64 regs, .slice a l.length c], .slice ra r.length rc] w fun e w' => e = .returned (.tuple #[.slice none 0 0, .slice none 0 0, .int .i64 (dimsS regs l r.length)]) ∧ Below w.heap.size w w' := by
  by_cases h0 : checkS regs l = 0
  · obtain ⟨f, rfl, g⟩ := good_of_check h0
    have hn : regs < (r.length : Int) := by
      rcases Int.lt_or_le regs r.length with h1 | h1
      · exact h1
      · exact absurd (dims_of_good g h1) hc
    have e : dimsS regs f.flat r.length = 10 := by unfold dimsS; rw [if_neg (by simpa using h0), if_pos hn]
    rw [e]
    exact begin_dims regs a c f g ra rc r w h hn
  · have e : dimsS regs l r.length = checkS regs l := by unfold dimsS; rw [if_pos h0]
    rw [e]
    exact begin_bad regs a c l ra rc r w h hl h0
end Go.Proofs.YtmmepffdjmpblaaGreat

/- Chapter 13: Run, Upto, Last. -/
namespace Go.Proofs.YtmmepffdjmpblaaGreat
set_option linter.unusedVariables false
set_option linter.unusedSimpArgs false
open Go.RowKit

def RunPost (regs : Int) (l : List OpD) (r : List UInt64) (m : Int) (w : World) (e : Ending) (w' : World) : Prop :=
  ∃ a c, e = .returned (.tuple #[.slice a (uptoS regs l r m).length c, .int .i64 (dimsS regs l r.length)]) ∧ Own w' w.heap.size 50 a c (uptoS regs l r m) ∧ Below w.heap.size w w'
theorem below_turned {F : List Nat} {w w1 w' : World} {B : Nat} (hb : Below B w w1) (hT : Turned F w1 w') (hF : ∀ b ∈ F, B ≤ b) (hB : B ≤ w1.heap.size) : Below B w w' :=
  hb.trans ⟨hT.os, hT.tape, hT.output, hT.size, fun k hk => hT.block k (by omega) (fun hm => by have := hF k hm; omega)⟩

theorem Run1_calls (i : Nat) (x : OpD) (w : World) : Calls Tryz.prog 76 #[.int .i64 (i : Int), .agg #[.int .i64 x.kind, .int .i64 x.d, .int .i64 x.a, .int .i64 x.b, .int .u64 (x.v.toNat : Int)]] w fun e w' => e = .returned (.tuple #[]) ∧ True ∧ Turned [] w w' := by
  go_enter Tryz.func76, Tryz.ntmps76
  go_wp2
  go_end0
  exact ⟨rfl, trivial, Turned.ofBelow (below_new12 _ _)⟩
set_option maxRecDepth 100000 in
set_option maxHeartbeats 1600000 in
theorem Run_calls (regs : Int) (a : Option Addr) (c : Nat) (l : List OpD) (ra : Option Addr) (rc : Nat) (r : List UInt64) (w : World) (h : At w a l) (hl : l.length ≤ 1000000) (hr : At w ra r) :
    Calls Tryz.prog 55 #[.agg #[.int .i64 regs, .slice a l.length c], .slice ra r.length rc] w (RunPost regs l r (-1) w) := by
  have hb0 := below_new12 w (.cells #[.int .i64 regs, .slice a l.length c] 24)
  have h1 := h.belowN hb0
  have hr1 := hr.belowN hb0
  by_cases hc : dimsS regs l r.length = 0
  · obtain ⟨f, rfl, g, hn⟩ := dims_good hc
    have HU := hide (uptoS_good g hn (-1))
    have HC := hide hc
    have HSL := hide (show ((startR regs.toNat r).length : Int) = regs by rw [startR_length _ _ (by omega)]; have := g.r1; omega)
    have HB := hide (begin_good regs a c f g ra rc r _ h1 hr1 hn)
    have HX := hide fun ac cc gr cr B w2 hc2 hcb hr2 hrl => execRun_calls (fun _ _ => True) [] regs f g ac cc gr cr B (-1) (startR regs.toNat r) w2 hc2 hcb hr2 hrl trivial (fun _ _ _ _ _ _ => trivial) (fun b hb => by cases hb) (fun i x W _ _ => Run1_calls i x W)
    unfold BegPost at HB
    clear hc
    go_enter Tryz.func55, Tryz.ntmps55
    go_wp2_with (first
      | (go_at_call 74; ((with_reducible refine (HB.out).mono ?_); rintro e w1 ⟨a1, c1, g1, cr1, rfl, hown1, hown2, hne1, hb1⟩))
      | (go_at_call 75; go_must ((with_reducible refine (HX.out _ _ _ _ _ _ hown1.at_ (fun _ q hq => ⟨fun e => absurd (by rw [hq, e]) hne1, by simp⟩) hown2 HSL.out).mono ?_); rintro e w2 ⟨rfl, hown3, _, hT⟩)))
    go_ret2
    have hs1 := hb1.size
    simp only [World.size_alloc] at hs1
    unfold RunPost
    rw [HU.out, HC.out]
    refine ⟨some ⟨g1, 0, none⟩, cr1, ?_, hown3.mono (by simp), below_turned (hb0.trans (hb1.mono hb0.size)) hT (fun b hb => by simp at hb; subst hb; have := (hown2.blk _ rfl).1; simp at this; omega) (by omega)⟩
    rw [runR_length]; rfl
  · have HU := hide (uptoS_bad hc (-1))
    have HB := hide (begin_err regs a c l ra rc r _ h1 hl hc)
    obtain ⟨E, hE⟩ : ∃ E, E = dimsS regs l r.length := ⟨_, rfl⟩
    unfold RunPost
    rw [← hE] at HB hc ⊢
    have e1 : (E == 0) = false := by simpa using hc
    have e2 : (E != 0) = true := by simpa using hc
    clear hE hc
    go_enter Tryz.func55, Tryz.ntmps55
    go_wp2_with (go_at_call 74; ((with_reducible refine (HB.out).mono ?_); rintro e w1 ⟨rfl, hb1⟩))
    go_ret2
    rw [HU.out]
    exact ⟨none, 0, rfl, Own.none _ _ _, hb0.trans (hb1.mono hb0.size)⟩
end Go.Proofs.YtmmepffdjmpblaaGreat

/- Chapter 13: Last. -/
namespace Go.Proofs.YtmmepffdjmpblaaGreat
set_option linter.unusedVariables false
set_option linter.unusedSimpArgs false
open Go.RowKit

/-- the last operation that sets a register -/
def lastF (k : Int) : List OpD → Nat → Int → Int
  | [], _, acc => acc
  | x :: r, n, acc => lastF k r (n + 1) (if x.d = k then (n : Int) else acc)
def lastI (l : List OpD) (k : Int) : Int := lastF k l 0 (-1)
theorem lastF_snoc (k : Int) (x : OpD) (l : List OpD) : ∀ n acc, lastF k (l ++ [x]) n acc = if x.d = k then ((n + l.length : Nat) : Int) else lastF k l n acc := by
  induction l with
  | nil => intro n acc; simp [lastF]
  | cons y r ih => intro n acc; show lastF k (r ++ [x]) (n + 1) _ = _; rw [ih]; simp only [lastF, List.length_cons]; congr 2; omega
theorem lastI_take {l : List OpD} {k : Int} {i : Nat} {x : OpD} (h : l[i]? = some x) : lastI (l.take (i + 1)) k = if x.d = k then (i : Int) else lastI (l.take i) k := by
  have hi := (List.getElem?_eq_some_iff.1 h).1
  unfold lastI
  rw [List.take_add_one, h]
  show lastF k (l.take i ++ [x]) 0 (-1) = _
  rw [lastF_snoc, List.length_take]
  have : 0 + min i l.length = i := by omega
  rw [this]
def lastE (regs : Int) (l : List OpD) (n : Nat) (k : Int) : Int := if dimsS regs l n ≠ 0 then dimsS regs l n else if k < 0 ∨ regs ≤ k then 2 else 0
noncomputable def lastN (regs : Int) (l : List OpD) (n : Nat) (k : Int) : Int := if lastE regs l n k = 0 then lastI (unrS regs l) k else 0
noncomputable def lastV (regs : Int) (l : List OpD) (r : List UInt64) (k : Int) : UInt64 := if lastE regs l r.length k = 0 then getR (uptoS regs l r (-1)) k else 0
def LastPost (regs : Int) (l : List OpD) (r : List UInt64) (k : Int) (w : World) (e : Ending) (w' : World) : Prop :=
  e = .returned (.tuple #[.int .i64 (lastN regs l r.length k), .int .u64 ((lastV regs l r k).toNat : Int), .int .i64 (lastE regs l r.length k)]) ∧ Below w.heap.size w w'

def LastS (bk bl : Nat) (k : Int) (U : List OpD) (n : Nat) (W : World) : Prop := Blk W bk 3 #[.int .i64 k] ∧ Blk W bl 3 #[.int .i64 (lastI (U.take n) k)]
end Go.Proofs.YtmmepffdjmpblaaGreat
