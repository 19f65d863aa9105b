/- Chapter 23: a step and a loss. -/
import Derived.Test.YtjfpnbnkfcgjcaaC23c
import Derived.Test.YtjfpnbnkfcgjcaaQn
namespace Go.Proofs.Ytjfpnbnkfcgjcaa
set_option linter.unusedVariables false
set_option linter.unusedSimpArgs false
open Go.RowKit
/-- lists in the cells of a block -/
theorem AtL.ofBlk {w : World} {g : Nat} {T : TypeId} {cs : Array Value} (hs : List Hd) (ls : List (List UInt64)) (h : Blk w g T cs) (hcs : cs.toList = hs.flatMap Flat.enc) (hl : hs.length = ls.length)
    (hh : ∀ (i : Nat) (h : Hd) (l : List UInt64), hs[i]? = some h → ls[i]? = some l → h.n = l.length ∧ l.length ≤ h.c ∧ At w h.a l) : AtL w (some ⟨g, 0, none⟩) ls := ⟨hs, At.ofBlk h hs hcs, hl, hh⟩
/-- what a call hands back that is its own, cut behind -/
def Fresh (B : Nat) (w : World) (a : Option Addr) : Prop := ∀ g, a.map (·.block) = some g → B ≤ g ∧ g < w.heap.size
theorem StepBad_calls (g : Nat) (c : ChD) (t : Int) (a : Option Addr) (n k : Nat) (w : World) (h : ChAt w g c) (hn : n ≤ 1000000) (E : Int) (hE : c.may t n = E) (h0 : E ≠ 0) :
    Calls Try.prog 34 #[.pointer (some ⟨g, 0, none⟩), .int .i64 t, .slice a n k] w fun e w' => e = .returned (.tuple #[.slice none 0 0, .int .i64 E]) ∧ w = w' := by
  have HM := hide (May_calls g c t a n k w h hn E hE)
  have e1 : (E == 0) = false := by simpa using h0
  have e2 : (E != 0) = true := by simpa using h0
  clear h0 hE
  go_enter Try.func34, Try.ntmps34
  go_wp2_with (go_at_call 69; go_must ((with_reducible refine (HM.out).mono ?_); rintro e w1 ⟨rfl, rfl⟩))
  go_ret2
  exact ⟨rfl, rfl⟩
set_option maxRecDepth 100000 in
set_option maxHeartbeats 1600000 in
theorem StepGood_calls (g : Nat) (c : ChD) (hc : c.Ok) (v : UInt64) (a : Option Addr) (n k : Nat) (xs : List UInt64) (w : World) (h : ChAt w g c) (hat : At w a xs) (hn : n = xs.length) (hnk : n ≤ k) (hx : (n : Int) = c.x) (hv : v.toNat < 65536) (R : List UInt64) (hR : c.step (v.toNat : Int) xs = R) :
    Calls Try.prog 34 #[.pointer (some ⟨g, 0, none⟩), .int .i64 (v.toNat : Int), .slice a n k] w fun e w' => ∃ a' k', e = .returned (.tuple #[.slice a' n k', .int .i64 0]) ∧ n ≤ k' ∧ At w' a' R ∧ Fresh w.heap.size w' a' ∧ Below w.heap.size w w' := by
  have hmay : c.may (v.toNat : Int) n = 0 := by unfold ChD.may; rw [if_neg (by omega), if_neg (by simpa using hx)]
  have hx2 := hc.x2
  have hx1 := hc.x1
  have ht2 := hc.t2
  have hr1 := hc.r1
  have HM := hide (May_calls g c (v.toNat : Int) a n k w h (by omega) 0 hmay)
  obtain ⟨d1, d2⟩ := c.step_run hc (t := (v.toNat : Int)) (xs := xs) (by rw [← hn]; exact hx)
  obtain ⟨X, hX⟩ : ∃ X, uptoS c.p.regs c.p.l (c.beg (v.toNat : Int) xs) (-1) = X := ⟨_, rfl⟩
  have hb : c.beg (v.toNat : Int) xs = [xs, c.th, [v]].flatten := by
    unfold ChD.beg
    rw [Int.toNat_natCast, UInt64.ofNat_toNat]
    simp
  rw [hX] at d2
  rw [hb] at d1 hX
  unfold ChD.step at hR
  rw [hb, hX] at hR
  have hXl : n ≤ X.length := by omega
  have hxn : c.x.toNat = n := by omega
  rw [hxn] at hR
  obtain ⟨pa, qa, ta, pc, qc, tc, h0, h1, h2, h3, h4⟩ := h
  have hpl : c.p.l.length ≤ 1000000 := by
    obtain ⟨f, hf, g⟩ := hc.hp
    rw [hf]; have := g.len; unfold Fo.size at this; omega
  obtain ⟨pl, hpln⟩ : ∃ pl, c.p.l.length = pl := ⟨_, rfl⟩
  obtain ⟨tn, htn⟩ : ∃ tn, c.th.length = tn := ⟨_, rfl⟩
  have hwr : IntKind.u64.wrap (v.toNat : Int) = (v.toNat : Int) := IntWalk.u64_in _ (by omega)
  have hpl2 : pl ≤ 1000000 := by rw [← hpln]; exact hpl
  have htn64 : tn ≤ 64 := by rw [← htn]; exact ht2
  have hn64 : n ≤ 64 := by omega
  have hfl : ([xs, c.th, [v]].flatten : List UInt64).length = n + tn + 1 := by simp; omega
  obtain ⟨L, hL⟩ : ∃ L, L = ([xs, c.th, [v]].flatten : List UInt64) := ⟨_, rfl⟩
  rw [← hL] at d1 hX hfl
  have HL := hide hL
  have HX := hide hX
  have HD := hide d1
  have HPL := hide hpln.symm
  have HFL := hide hfl.symm
  have HR := hide hR
  have hN1 : Below w.heap.size w (w.alloc (.cells #[.int .u64 (v.toNat : Int)] 37)) := (Below.refl _ _).alloc (Nat.le_refl _) _
  have hN : Below w.heap.size w ((w.alloc (.cells #[.int .u64 (v.toNat : Int)] 37)).alloc (.cells #[.slice a n k, .slice ta tn tc, .slice (some ⟨w.heap.size, 0, none⟩) 1 1] 25)).drew := (hN1.alloc (by simp) _).drew
  have hBk := Blk.new (w.alloc (.cells #[.int .u64 (v.toNat : Int)] 37)) 25 #[.slice a n k, .slice ta tn tc, .slice (some ⟨w.heap.size, 0, none⟩) 1 1]
  have hv1 : At ((w.alloc (.cells #[.int .u64 (v.toNat : Int)] 37)).alloc (.cells #[.slice a n k, .slice ta tn tc, .slice (some ⟨w.heap.size, 0, none⟩) 1 1] 25)).drew (some ⟨w.heap.size, 0, none⟩) [v] :=
    At.ofBlk (((Blk.new w 37 #[.int .u64 (v.toNat : Int)]).alloc _).belowN (Below.drew (Below.refl _ _))) [v] rfl
  have hAL : AtL ((w.alloc (.cells #[.int .u64 (v.toNat : Int)] 37)).alloc (.cells #[.slice a n k, .slice ta tn tc, .slice (some ⟨w.heap.size, 0, none⟩) 1 1] 25)).drew (some ⟨w.heap.size + 1, 0, none⟩) [xs, c.th, [v]] := by
    have hBk2 : Blk ((w.alloc (.cells #[.int .u64 (v.toNat : Int)] 37)).alloc (.cells #[.slice a n k, .slice ta tn tc, .slice (some ⟨w.heap.size, 0, none⟩) 1 1] 25)).drew (w.heap.size + 1) 25 #[.slice a n k, .slice ta tn tc, .slice (some ⟨w.heap.size, 0, none⟩) 1 1] := by have := hBk.belowN (Below.drew (Below.refl _ _)); simpa using this
    refine AtL.ofBlk [⟨a, n, k⟩, ⟨ta, tn, tc⟩, ⟨some ⟨w.heap.size, 0, none⟩, 1, 1⟩] _ hBk2 rfl rfl fun i hd l e1 e2 => ?_
    match i, e1, e2 with
    | 0, e1, e2 => simp at e1 e2; subst e1 e2; exact ⟨hn, by show xs.length ≤ k; omega, hat.belowN hN⟩
    | 1, e1, e2 => simp at e1 e2; subst e1 e2; exact ⟨htn.symm, by show c.th.length ≤ tc; omega, h3.belowN hN⟩
    | 2, e1, e2 => simp at e1 e2; subst e1 e2; exact ⟨rfl, by show 1 ≤ 1; omega, hv1⟩
    | j + 3, e1, e2 => simp at e1
  rw [htn, hpln] at h0
  have f0 := h0.cell_ (i := 0) (v := .int .i64 c.p.regs) rfl
  have f1 := h0.cell_ (i := 1) (v := .slice pa pl pc) rfl
  have f4 := h0.cell_ (i := 4) (v := .int .i64 c.x) rfl
  have f5 := h0.cell_ (i := 5) (v := .slice ta tn tc) rfl
  have HX2 := hide (show c.x = (n : Int) from hx.symm)
  rw [← hx] at f4
  have hgl := h0.lt
  clear hn hR hX d1 hb hL hmay hN1 hBk hv1 hpln htn hfl d2
  go_enter Try.func34, Try.ntmps34
  go_wp2_with (go_at_call 69; go_must ((with_reducible refine (HM.out).mono ?_); rintro e w1 ⟨rfl, rfl⟩))
  go_region_held3 (fun w' => w'.cell? ⟨g, 0, none⟩ = some (.int .i64 c.p.regs) ∧ w'.cell? ⟨g, 1, none⟩ = some (.slice pa pl pc) ∧ w'.cell? ⟨g, 5, none⟩ = some (.slice ta tn tc)) (go_keep)
    (first
      | (go_at_call 70; (try simp only [hwr]); go_must (refine (Concat_calls _ _ 3 [xs, c.th, [v]] _ rfl hAL (by omega) (by rw [← HL.out, ← HFL.out]; omega) (n + tn + 1) (by rw [← HL.out, ← HFL.out])).mono ?_; rw [← HL.out]; rintro e w3 ⟨a3, c3, rfl, hown3, hb3⟩; have hB3 := hN.trans (hb3.mono hN.size); have hz3 := hB3.size; have hg3 := h0.belowN hB3; have m0 := hg3.cell_ (i := 0) (v := .int .i64 c.p.regs) rfl; have m1 := hg3.cell_ (i := 1) (v := .slice pa pl pc) rfl; have m5 := hg3.cell_ (i := 5) (v := .slice ta tn tc) rfl))
      | (go_at_call 33; go_must (refine (RunN c.p.regs pa pc pl c.p.l a3 c3 (n + tn + 1) L w3 X 0 HPL.out HFL.out HX.out HD.out (h1.belowN hB3) hpl2 hown3.at_ (by omega)).mono ?_; rintro e w4 ⟨a4, c4, rfl, hown4, hb4⟩; have hB4 := hB3.trans (hb4.mono hz3); have hz4 := hB4.size; have hg4 := h0.belowN hB4; have l0 := hg4.cell_ (i := 0) (v := .int .i64 c.p.regs) rfl; have l1 := hg4.cell_ (i := 1) (v := .slice pa pl pc) rfl; have l5 := hg4.cell_ (i := 5) (v := .slice ta tn tc) rfl)))
  have l4 : w4.cell? ⟨g, 4, none⟩ = some (.int .i64 (n : Int)) := by rw [hx]; exact hg4.cell_ (i := 4) (v := .int .i64 c.x) rfl
  have hcap := hown4.cap
  have c1' : n ≤ c4 := by omega
  have c2' : X.length ≤ c4 := hcap.1
  have c3' : c4 ≤ 9223372036854775807 := Nat.le_trans hcap.2 (by decide)
  go_wp2
  go_quiet (fail)
  go_wp2
  go_ret2
  have hdr := below_drawn w4 w4.heap.size nq
  have hat4 := (hown4.at_.take n).belowN hdr
  rw [HR.out] at hat4
  exact ⟨a4, n, rfl, Nat.le_refl _, hat4, fun q hq => ⟨Nat.le_trans hz3 (hown4.blk q hq).1, (hown4.blk q hq).2⟩, hB4.trans (hdr.mono hz4)⟩
theorem LossBad_calls (g : Nat) (c : ChD) (a : Option Addr) (n k : Nat) (w : World) (h : ChAt w g c) (hn : n ≤ 1000000) (E : Int) (hE : c.may 0 n = E) (h0 : E ≠ 0) :
    Calls Try.prog 35 #[.pointer (some ⟨g, 0, none⟩), .slice a n k] w fun e w' => e = .returned (.tuple #[.int .u64 0, .int .i64 E]) ∧ w = w' := by
  have HM := hide (May_calls g c 0 a n k w h hn E hE)
  have e1 : (E == 0) = false := by simpa using h0
  have e2 : (E != 0) = true := by simpa using h0
  clear h0 hE
  go_enter Try.func35, Try.ntmps35
  go_wp2_with (go_at_call 69; go_must ((with_reducible refine (HM.out).mono ?_); rintro e w1 ⟨rfl, rfl⟩))
  go_ret2
  exact ⟨rfl, rfl⟩
set_option maxRecDepth 100000 in
set_option maxHeartbeats 1600000 in
theorem LossGood_calls (g : Nat) (c : ChD) (hc : c.Ok) (a : Option Addr) (n k : Nat) (xs : List UInt64) (w : World) (h : ChAt w g c) (hat : At w a xs) (hn : n = xs.length) (hnk : n ≤ k) (hx : (n : Int) = c.x) (R : UInt64) (hR : c.loss xs = R) :
    Calls Try.prog 35 #[.pointer (some ⟨g, 0, none⟩), .slice a n k] w fun e w' => e = .returned (.tuple #[.int .u64 (R.toNat : Int), .int .i64 0]) ∧ Below w.heap.size w w' := by
  have hmay : c.may 0 n = 0 := by unfold ChD.may; rw [if_neg (by omega), if_neg (by simpa using hx)]
  have hx2 := hc.x2
  have hx1 := hc.x1
  have ht2 := hc.t2
  have hr1 := hc.r2
  have HM := hide (May_calls g c 0 a n k w h (by omega) 0 hmay)
  obtain ⟨d1, d2⟩ := c.loss_run hc (xs := xs) (by rw [← hn]; exact hx)
  obtain ⟨X, hX⟩ : ∃ X, uptoS c.q.regs c.q.l (xs ++ c.th) (-1) = X := ⟨_, rfl⟩
  have hb : xs ++ c.th = [xs, c.th].flatten := by simp
  rw [hX] at d2
  rw [hb] at d1 hX
  unfold ChD.loss at hR
  rw [hb, hX] at hR
  have hXl : 0 < X.length := by omega
  have hX0 : X[0]? = some R := by
    rw [List.getD_eq_getElem?_getD, List.getElem?_eq_getElem hXl] at hR
    rw [List.getElem?_eq_getElem hXl, ← hR]; rfl
  obtain ⟨pa, qa, ta, pc, qc, tc, h0, h1, h2, h3, h4⟩ := h
  have hpl : c.q.l.length ≤ 1000000 := by
    obtain ⟨f, hf, g⟩ := hc.hq
    rw [hf]; have := g.len; unfold Fo.size at this; omega
  obtain ⟨pl, hpln⟩ : ∃ pl, c.q.l.length = pl := ⟨_, rfl⟩
  obtain ⟨tn, htn⟩ : ∃ tn, c.th.length = tn := ⟨_, rfl⟩
  have hpl2 : pl ≤ 1000000 := by rw [← hpln]; exact hpl
  have htn64 : tn ≤ 64 := by rw [← htn]; exact ht2
  have hn64 : n ≤ 64 := by omega
  have hfl : ([xs, c.th].flatten : List UInt64).length = n + tn := by simp; omega
  obtain ⟨L, hL⟩ : ∃ L, L = ([xs, c.th].flatten : List UInt64) := ⟨_, rfl⟩
  rw [← hL] at d1 hX hfl
  have HL := hide hL
  have HX := hide hX
  have HD := hide d1
  have HPL := hide hpln.symm
  have HFL := hide hfl.symm
  have HX0 := hide hX0
  have hN : Below w.heap.size w (w.alloc (.cells #[.slice a n k, .slice ta tn tc] 25)).drew := ((Below.refl _ _).alloc (Nat.le_refl _) _).drew
  have hBk := Blk.new w 25 #[.slice a n k, .slice ta tn tc]
  have hAL : AtL (w.alloc (.cells #[.slice a n k, .slice ta tn tc] 25)).drew (some ⟨w.heap.size, 0, none⟩) [xs, c.th] := by
    have hBk2 := hBk.belowN (Below.drew (Below.refl _ _))
    refine AtL.ofBlk [⟨a, n, k⟩, ⟨ta, tn, tc⟩] _ hBk2 rfl rfl fun i hd l e1 e2 => ?_
    match i, e1, e2 with
    | 0, e1, e2 => simp at e1 e2; subst e1 e2; exact ⟨hn, by show xs.length ≤ k; omega, hat.belowN hN⟩
    | 1, e1, e2 => simp at e1 e2; subst e1 e2; exact ⟨htn.symm, by show c.th.length ≤ tc; omega, h3.belowN hN⟩
    | j + 2, e1, e2 => simp at e1
  rw [htn, hpln] at h0
  have f0 := h0.cell_ (i := 2) (v := .int .i64 c.q.regs) rfl
  have f1 := h0.cell_ (i := 3) (v := .slice qa pl qc) rfl
  have f5 := h0.cell_ (i := 5) (v := .slice ta tn tc) rfl
  have hgl := h0.lt
  clear hn hR hX d1 hb hL hmay hBk hpln htn hfl d2 hX0
  go_enter Try.func35, Try.ntmps35
  go_wp2_with (go_at_call 69; go_must ((with_reducible refine (HM.out).mono ?_); rintro e w1 ⟨rfl, rfl⟩))
  go_region_held3 (fun w' => w'.cell? ⟨g, 2, none⟩ = some (.int .i64 c.q.regs) ∧ w'.cell? ⟨g, 3, none⟩ = some (.slice qa pl qc) ∧ w'.cell? ⟨g, 5, none⟩ = some (.slice ta tn tc)) (go_keep)
    (first
      | (go_at_call 70; go_must (refine (Concat_calls _ _ 2 [xs, c.th] _ rfl hAL (by omega) (by rw [← HL.out, ← HFL.out]; omega) (n + tn) (by rw [← HL.out, ← HFL.out])).mono ?_; rw [← HL.out]; rintro e w3 ⟨a3, c3, rfl, hown3, hb3⟩; have hB3 := hN.trans (hb3.mono hN.size); have hz3 := hB3.size; have hg3 := h0.belowN hB3; have m0 := hg3.cell_ (i := 2) (v := .int .i64 c.q.regs) rfl; have m1 := hg3.cell_ (i := 3) (v := .slice qa pl qc) rfl; have m5 := hg3.cell_ (i := 5) (v := .slice ta tn tc) rfl))
      | (go_at_call 33; go_must (refine (RunN c.q.regs qa qc pl c.q.l a3 c3 (n + tn) L w3 X 0 HPL.out HFL.out HX.out HD.out (h2.belowN hB3) hpl2 hown3.at_ (by omega)).mono ?_; rintro e w4 ⟨a4, c4, rfl, hown4, hb4⟩; have hB4 := hB3.trans (hb4.mono hz3); have hz4 := hB4.size; have hg4 := h0.belowN hB4; have l0 := hg4.cell_ (i := 2) (v := .int .i64 c.q.regs) rfl; have l1 := hg4.cell_ (i := 3) (v := .slice qa pl qc) rfl; have l5 := hg4.cell_ (i := 5) (v := .slice ta tn tc) rfl)))
  obtain ⟨b9, off9, x9, hba, hx9, u0⟩ := hown4.at_.getU (Below.refl _ _) hXl
  obtain rfl : R = x9 := by have := HX0.out.symm.trans hx9.out; simpa using this
  subst hba
  clear hx9
  rw [Nat.add_zero] at u0
  go_wp2
  go_ret2
  exact ⟨rfl, hB4⟩
end Go.Proofs.Ytjfpnbnkfcgjcaa
