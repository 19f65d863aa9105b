/- Several texts of mine in one file. -/
import Derived.Test.YtcamcnahkdiefaaGreatYMNag
import Derived.Test.YtcamcnahkdiefaaGreatYMNai
import Derived.Test.YtcamcnahkdiefaaGreatYMNaj
import Derived.Shelf.Sort.Plain
import Derived.Shelf.Slices.ReverseS
import Derived.Test.YtcamcnahkdiefaaGreatProg
/- Chapter 23: adjoints of a step and of a loss: parts, PullStep, PullLoss. -/
namespace Go.Proofs.YtcamcnahkdiefaaGreat
set_option linter.unusedVariables false
set_option linter.unusedSimpArgs false
open Go.RowKit
noncomputable def ChD.pstep (c : ChD) (t : Int) (xs adj : List UInt64) : List UInt64 := pullA c.p.regs c.p.l (c.beg t xs) adj
noncomputable def ChD.ploss (c : ChD) (xs : List UInt64) : List UInt64 := pullA c.q.regs c.q.l (xs ++ c.th) [1]
theorem ChD.pstep_run {c : ChD} (hc : c.Ok) {t : Int} {xs adj : List UInt64} (hx : (xs.length : Int) = c.x) (ha : (adj.length : Int) = c.x) : pullE c.p.regs c.p.l (c.beg t xs).length adj.length = 0 ∧ (c.pstep t xs adj).length = c.p.regs.toNat := by
  obtain ⟨f, hf, g⟩ := hc.hp
  have h1 := hc.r1
  have h2 := hc.x1
  have hl : ((c.beg t xs).length : Int) ≤ c.p.regs := by unfold ChD.beg; simp; omega
  have hl2 : (adj.length : Int) ≤ c.p.regs := by omega
  unfold ChD.pstep
  rw [hf]
  refine ⟨pull_of_good g hl hl2, ?_⟩
  rw [pullA_good g hl hl2, backA_length, startR_length _ _ (by omega)]
theorem ChD.ploss_run {c : ChD} (hc : c.Ok) {xs : List UInt64} (hx : (xs.length : Int) = c.x) : pullE c.q.regs c.q.l (xs ++ c.th).length 1 = 0 ∧ (c.ploss xs).length = c.q.regs.toNat := by
  obtain ⟨f, hf, g⟩ := hc.hq
  have h1 := hc.r2
  have h2 := hc.x1
  have hl : ((xs ++ c.th).length : Int) ≤ c.q.regs := by simp; omega
  have hl2 : (([1] : List UInt64).length : Int) ≤ c.q.regs := by simp; omega
  unfold ChD.ploss
  rw [hf]
  refine ⟨pull_of_good g hl hl2, ?_⟩
  rw [pullA_good g hl hl2, backA_length, startR_length _ _ (by omega)]
def PartsOut (R : List UInt64) (n tn : Nat) (E : Int) (w : World) (e : Ending) (w' : World) : Prop :=
  ∃ a1 k1 a2 k2, e = .returned (.tuple #[.slice a1 n k1, .slice a2 tn k2, .int .i64 E]) ∧ At w' a1 (R.take n) ∧ At w' a2 ((R.drop n).take tn) ∧ Below w.heap.size w w'
set_option maxRecDepth 100000 in
set_option maxHeartbeats 3200000 in
theorem parts_calls (g : Nat) (c : ChD) (n tn : Nat) (hx : (n : Int) = c.x) (htn : tn = c.th.length) (a : Option Addr) (rn rc : Nat) (R : List UInt64) (hrn : rn = R.length) (hrc : rn ≤ rc) (hrc2 : rc ≤ 9223372036854775807) (hle : n + tn ≤ rn) (hp : 0 < n) (hrl : rn ≤ 1000000) (w : World) (h : ChAt w g c) (hat : At w a R) :
    Calls Tryz.prog 83 #[.pointer (some ⟨g, 0, none⟩), .slice a rn rc] w fun e w' => ∃ a1 k1 a2 k2, e = .returned (.tuple #[.slice a1 n k1, .slice a2 tn k2]) ∧ At w' a1 (R.take n) ∧ At w' a2 ((R.drop n).take tn) ∧ Below w.heap.size w w' := by
  obtain ⟨pa, qa, ta, pc, qc, tc, h0, h1, h2, h3, h4⟩ := h
  rw [← htn, ← hx] at h0
  have f4 := h0.cell_ (i := 4) (v := .int .i64 (n : Int)) rfl
  have f5 := h0.cell_ (i := 5) (v := .slice ta tn tc) rfl
  obtain ⟨b, off, y, rfl, hy, y0⟩ := hat.getU (Below.refl _ _) (k := 0) (by omega)
  have HT := hide (show n = (R.take n).length by rw [List.length_take]; omega)
  have HD := hide (show tn = ((R.drop n).take tn).length by rw [List.length_take, List.length_drop]; omega)
  have hatT := hat.take n
  have hatD : At w (cutA (some ⟨b, off, none⟩) n rc 1) ((R.drop n).take tn) := (hat.cut (k := n) (c := rc) (by omega)).take tn
  have i1 : (0 : Int) ≤ (n : Int) := by omega
  have i2 : (n : Int) ≤ (rc : Int) := by omega
  have i3 : (n : Int) ≤ (n : Int) + (tn : Int) := by omega
  have i4 : (n : Int) + (tn : Int) ≤ (rc : Int) := by omega
  have i5 : (0 : Int) ≤ (n : Int) + (tn : Int) := by omega
  have i6 : IntKind.i64.wrap ((n : Int) + (tn : Int)) = (n : Int) + (tn : Int) := IntWalk.i64_in _ (by omega)
  have i7 : ((n : Int) + (tn : Int)).toNat - n = tn := by omega
  clear hy y0 hx htn hrn
  go_enter Tryz.func83, Tryz.ntmps83
  go_wp2
  go_quiet (fail)
  go_wp2
  have hw9 : Below w.heap.size w (w.drewN nq) := below_drawn _ _ _
  have hB : Below (w.drewN nq).heap.size (w.drewN nq) (w.drewN (nq + 1)) := Below.drew (Below.refl (w.drewN nq).heap.size (w.drewN nq))
  have HC1 := hide (fun (W : World) (hb : Below (w.drewN nq).heap.size (w.drewN nq) W) => CloneU_calls (some ⟨b, off, none⟩) n rc (R.take n) W HT.out ((hatT.belowN hw9).belowN hb) (by omega))
  have HC2 := hide (fun (W : World) (hb : Below (w.drewN nq).heap.size (w.drewN nq) W) => CloneU_calls (cutA (some ⟨b, off, none⟩) n rc 1) tn (rc - n) ((R.drop n).take tn) W HD.out ((hatD.belowN hw9).belowN hb) (by omega))
  have h9 := h0.belowN hw9
  go_region_held3 (fun w' => w'.cell? ⟨g, 4, none⟩ = some (.int .i64 (n : Int))) (go_keep)
    (first
      | (go_at_call 79; (with_reducible refine (HC1.out _ hB).mono ?_); rintro e wx ⟨a3, c3, rfl, hoX, hb⟩; have hB := hB.trans (hb.mono hB.size); (try have hoT := hoT.belowN hb); have m4 := (h9.belowN hB).cell_ (i := 4) (v := .int .i64 (n : Int)) rfl)
      | (go_at_call 79; go_must ((with_reducible refine (HC2.out _ hB).mono ?_); rintro e wx ⟨a4, c4, rfl, hoT, hb⟩; have hB := hB.trans (hb.mono hB.size); (try have hoX := hoX.belowN hb); have m4 := (h9.belowN hB).cell_ (i := 4) (v := .int .i64 (n : Int)) rfl)))
  have hB4 := hw9.trans (hB.mono hw9.size)
  go_wp2
  go_ret2
  exact ⟨a3, c3, a4, c4, rfl, hoX.at_, hoT.at_, hB4⟩
set_option maxRecDepth 100000 in
set_option maxHeartbeats 3200000 in
theorem PullStepGood_calls (g : Nat) (c : ChD) (hc : c.Ok) (v : UInt64) (a : Option Addr) (n k : Nat) (xs : List UInt64) (aa : Option Addr) (m ka : Nat) (adj : List UInt64) (w : World) (h : ChAt w g c) (hat : At w a xs) (hn : n = xs.length) (hnk : n ≤ k) (hx : (n : Int) = c.x) (hata : At w aa adj) (hm : m = adj.length) (hmx : (m : Int) = c.x) (hv : v.toNat < 65536) (R : List UInt64) (hR : c.pstep (v.toNat : Int) xs adj = R) (tn : Nat) (htn : tn = c.th.length) :
    Calls Tryz.prog 40 #[.pointer (some ⟨g, 0, none⟩), .int .i64 (v.toNat : Int), .slice a n k, .slice aa m ka] w (PartsOut R n tn 0 w) := by
  have hmay : c.may (v.toNat : Int) n = 0 := by unfold ChD.may; rw [if_neg (by omega), if_neg (by simpa using hx)]
  have hx2 := hc.x2
  have hx1 := hc.x1
  have ht2 := hc.t2
  have hr1 := hc.r1
  have hch := h
  have HM := hide (May_calls g c (v.toNat : Int) a n k w h (by omega) 0 hmay)
  obtain ⟨d1, d2⟩ := ChD.pstep_run hc (t := (v.toNat : Int)) (xs := xs) (adj := adj) (by rw [← hn]; exact hx) (by rw [← hm]; exact hmx)
  have hb : c.beg (v.toNat : Int) xs = [xs, c.th, [v]].flatten := by
    unfold ChD.beg
    rw [Int.toNat_natCast, UInt64.ofNat_toNat]
    simp
  rw [hR] at d2
  unfold ChD.pstep at hR
  rw [hb] at d1 hR
  obtain ⟨pa, qa, ta, pc, qc, tc, h0, h1, h2, h3, h4⟩ := h
  have hpl : c.p.l.length ≤ 1000000 := by
    obtain ⟨f, hf, g⟩ := hc.hp
    rw [hf]; have := g.len; unfold Fo.size at this; omega
  have hreg : c.p.regs ≤ 64 := by obtain ⟨f, hf, g⟩ := hc.hp; exact g.r2
  obtain ⟨pl, hpln⟩ : ∃ pl, c.p.l.length = pl := ⟨_, rfl⟩
  have hwr : IntKind.u64.wrap (v.toNat : Int) = (v.toNat : Int) := IntWalk.u64_in _ (by omega)
  have hpl2 : pl ≤ 1000000 := by rw [← hpln]; exact hpl
  have htn64 : tn ≤ 64 := by rw [htn]; exact ht2
  have hn64 : n ≤ 64 := by omega
  have hm64 : m ≤ 64 := by omega
  have hfl : ([xs, c.th, [v]].flatten : List UInt64).length = n + tn + 1 := by simp; omega
  obtain ⟨L, hL⟩ : ∃ L, L = ([xs, c.th, [v]].flatten : List UInt64) := ⟨_, rfl⟩
  rw [← hL] at d1 hR hfl
  rw [hfl] at d1
  rw [← hm] at d1
  have hRl : n + tn ≤ R.length := by omega
  have HL := hide hL
  have HPL := hide hpln.symm
  have HFL := hide hfl.symm
  have HR := hide hR
  have HD := hide d1
  have HMM := hide hm
  have hN1 : Below w.heap.size w (w.alloc (.cells #[.int .u64 (v.toNat : Int)] 50)) := (Below.refl _ _).alloc (Nat.le_refl _) _
  have hN : Below w.heap.size w ((w.alloc (.cells #[.int .u64 (v.toNat : Int)] 50)).alloc (.cells #[.slice a n k, .slice ta tn tc, .slice (some ⟨w.heap.size, 0, none⟩) 1 1] 46)).drew := (hN1.alloc (by simp) _).drew
  have hBk := Blk.new (w.alloc (.cells #[.int .u64 (v.toNat : Int)] 50)) 46 #[.slice a n k, .slice ta tn tc, .slice (some ⟨w.heap.size, 0, none⟩) 1 1]
  have hv1 : At ((w.alloc (.cells #[.int .u64 (v.toNat : Int)] 50)).alloc (.cells #[.slice a n k, .slice ta tn tc, .slice (some ⟨w.heap.size, 0, none⟩) 1 1] 46)).drew (some ⟨w.heap.size, 0, none⟩) [v] :=
    At.ofBlk (((Blk.new w 50 #[.int .u64 (v.toNat : Int)]).alloc _).belowN (Below.drew (Below.refl _ _))) [v] rfl
  have hAL : AtL ((w.alloc (.cells #[.int .u64 (v.toNat : Int)] 50)).alloc (.cells #[.slice a n k, .slice ta tn tc, .slice (some ⟨w.heap.size, 0, none⟩) 1 1] 46)).drew (some ⟨w.heap.size + 1, 0, none⟩) [xs, c.th, [v]] := by
    have hBk2 : Blk ((w.alloc (.cells #[.int .u64 (v.toNat : Int)] 50)).alloc (.cells #[.slice a n k, .slice ta tn tc, .slice (some ⟨w.heap.size, 0, none⟩) 1 1] 46)).drew (w.heap.size + 1) 46 #[.slice a n k, .slice ta tn tc, .slice (some ⟨w.heap.size, 0, none⟩) 1 1] := by have := hBk.belowN (Below.drew (Below.refl _ _)); simpa using this
    refine AtL.ofBlk [⟨a, n, k⟩, ⟨ta, tn, tc⟩, ⟨some ⟨w.heap.size, 0, none⟩, 1, 1⟩] _ hBk2 rfl rfl fun i hd l e1 e2 => ?_
    match i, e1, e2 with
    | 0, e1, e2 => simp at e1 e2; subst e1 e2; exact ⟨hn, by show xs.length ≤ k; omega, hat.belowN hN⟩
    | 1, e1, e2 => simp at e1 e2; subst e1 e2; exact ⟨htn, by show c.th.length ≤ tc; omega, h3.belowN hN⟩
    | 2, e1, e2 => simp at e1 e2; subst e1 e2; exact ⟨rfl, by show 1 ≤ 1; omega, hv1⟩
    | j + 3, e1, e2 => simp at e1
  rw [← htn, hpln] at h0
  have f0 := h0.cell_ (i := 0) (v := .int .i64 c.p.regs) rfl
  have f1 := h0.cell_ (i := 1) (v := .slice pa pl pc) rfl
  have f4 := h0.cell_ (i := 4) (v := .int .i64 c.x) rfl
  have f5 := h0.cell_ (i := 5) (v := .slice ta tn tc) rfl
  have e1 : ((m : Int) == c.x) = true := by simpa using hmx
  have e2 : ((m : Int) != c.x) = false := by simpa using hmx
  have hgl := h0.lt
  have HPP := hide (fun (p : Option Addr) (rn rc : Nat) (hrn : rn = R.length) (h1 : rn ≤ rc) (h2 : rc ≤ 9223372036854775807) (h3 : n + tn ≤ rn) (h4 : rn ≤ 1000000) (W : World) (k1 : ChAt W g c) (k2 : At W p R) => parts_calls g c n tn hx htn p rn rc R hrn h1 h2 h3 (by omega) h4 W k1 k2)
  have hRl64 : R.length ≤ 64 := by omega
  clear hn hR hb hL hmay hN1 hBk hv1 hpln hfl d1 d2 hm hmx hx htn
  go_enter Tryz.func40, Tryz.ntmps40
  go_wp2_with (go_at_call 80; go_must ((with_reducible refine (HM.out).mono ?_); rintro e w1 ⟨rfl, rfl⟩))
  go_region_held3 (fun w' => w'.cell? ⟨g, 0, none⟩ = some (.int .i64 c.p.regs) ∧ w'.cell? ⟨g, 1, none⟩ = some (.slice pa pl pc) ∧ w'.cell? ⟨g, 5, none⟩ = some (.slice ta tn tc)) (go_keep)
    (first
      | (go_at_call 82; (try simp only [hwr]); go_must (refine (Concat_calls _ _ 3 [xs, c.th, [v]] _ rfl hAL (by omega) (by rw [← HL.out, ← HFL.out]; omega) (n + tn + 1) (by rw [← HL.out, ← HFL.out])).mono ?_; rw [← HL.out]; rintro e w3 ⟨a3, c3, rfl, hown3, hb3⟩; have hB3 := hN.trans (hb3.mono hN.size); have hz3 := hB3.size; have hg3 := h0.belowN hB3; have m0 := hg3.cell_ (i := 0) (v := .int .i64 c.p.regs) rfl; have m1 := hg3.cell_ (i := 1) (v := .slice pa pl pc) rfl; have m5 := hg3.cell_ (i := 5) (v := .slice ta tn tc) rfl))
      | (go_at_call 81; go_must (refine (Pull_calls c.p.regs pa pc pl c.p.l HPL.out a3 (n + tn + 1) c3 L HFL.out aa m ka adj HMM.out R 0 HR.out HD.out w3 (h1.belowN hB3) hpl2 hown3.at_ (hata.belowN hB3) (by omega) (by omega)).mono ?_; rintro e w4 ⟨a4, c4, rfl, hown4, hb4⟩; have hB4 := hB3.trans (hb4.mono hz3); have hz4 := hB4.size; have hg4 := h0.belowN hB4; have l0 := hg4.cell_ (i := 0) (v := .int .i64 c.p.regs) rfl; have l1 := hg4.cell_ (i := 1) (v := .slice pa pl pc) rfl; have l5 := hg4.cell_ (i := 5) (v := .slice ta tn tc) rfl)))
  have hcap := hown4.cap
  have c3' : c4 ≤ 9223372036854775807 := Nat.le_trans hcap.2 (by decide)
  go_wp2_with (go_at_call 83; go_must ((with_reducible refine (HPP.out a4 _ c4 rfl hcap.1 c3' hRl (by omega) _ (hch.belowN hB4) hown4.at_).mono ?_); rintro e w5 ⟨a5, k5, a6, k6, rfl, hA5, hA6, hb5⟩; have hB5 := hB4.trans (hb5.mono hz4)))
  go_ret3
  exact ⟨a5, k5, a6, k6, rfl, hA5, hA6, hB5⟩
set_option maxRecDepth 100000 in
set_option maxHeartbeats 3200000 in
theorem PullLossGood_calls (g : Nat) (c : ChD) (hc : c.Ok) (a : Option Addr) (n k : Nat) (xs : List UInt64) (w : World) (h : ChAt w g c) (hat : At w a xs) (hn : n = xs.length) (hnk : n ≤ k) (hx : (n : Int) = c.x) (R : List UInt64) (hR : c.ploss xs = R) (tn : Nat) (htn : tn = c.th.length) :
    Calls Tryz.prog 37 #[.pointer (some ⟨g, 0, none⟩), .slice a n k] w (PartsOut R n tn 0 w) := by
  have hmay : c.may 0 n = 0 := by unfold ChD.may; rw [if_neg (by omega), if_neg (by simpa using hx)]
  have hx2 := hc.x2
  have hx1 := hc.x1
  have ht2 := hc.t2
  have hr1 := hc.r2
  have hch := h
  have HM := hide (May_calls g c 0 a n k w h (by omega) 0 hmay)
  obtain ⟨d1, d2⟩ := ChD.ploss_run hc (xs := xs) (by rw [← hn]; exact hx)
  have hb : xs ++ c.th = [xs, c.th].flatten := by simp
  rw [hR] at d2
  unfold ChD.ploss at hR
  rw [hb] at d1 hR
  obtain ⟨pa, qa, ta, pc, qc, tc, h0, h1, h2, h3, h4⟩ := h
  have hpl : c.q.l.length ≤ 1000000 := by
    obtain ⟨f, hf, g⟩ := hc.hq
    rw [hf]; have := g.len; unfold Fo.size at this; omega
  have hreg : c.q.regs ≤ 64 := by obtain ⟨f, hf, g⟩ := hc.hq; exact g.r2
  obtain ⟨pl, hpln⟩ : ∃ pl, c.q.l.length = pl := ⟨_, rfl⟩
  have hpl2 : pl ≤ 1000000 := by rw [← hpln]; exact hpl
  have htn64 : tn ≤ 64 := by rw [htn]; exact ht2
  have hn64 : n ≤ 64 := by omega
  have hfl : ([xs, c.th].flatten : List UInt64).length = n + tn := by simp; omega
  obtain ⟨L, hL⟩ : ∃ L, L = ([xs, c.th].flatten : List UInt64) := ⟨_, rfl⟩
  rw [← hL] at d1 hR hfl
  rw [hfl] at d1
  have hRl : n + tn ≤ R.length := by omega
  have HL := hide hL
  have HPL := hide hpln.symm
  have HFL := hide hfl.symm
  have HR := hide hR
  have HD := hide d1
  have hN : Below w.heap.size w (w.alloc (.cells #[.slice a n k, .slice ta tn tc] 46)).drew := ((Below.refl _ _).alloc (Nat.le_refl _) _).drew
  have hBk := Blk.new w 46 #[.slice a n k, .slice ta tn tc]
  have hAL : AtL (w.alloc (.cells #[.slice a n k, .slice ta tn tc] 46)).drew (some ⟨w.heap.size, 0, none⟩) [xs, c.th] := by
    have hBk2 := hBk.belowN (Below.drew (Below.refl _ _))
    refine AtL.ofBlk [⟨a, n, k⟩, ⟨ta, tn, tc⟩] _ hBk2 rfl rfl fun i hd l e1 e2 => ?_
    match i, e1, e2 with
    | 0, e1, e2 => simp at e1 e2; subst e1 e2; exact ⟨hn, by show xs.length ≤ k; omega, hat.belowN hN⟩
    | 1, e1, e2 => simp at e1 e2; subst e1 e2; exact ⟨htn, by show c.th.length ≤ tc; omega, h3.belowN hN⟩
    | j + 2, e1, e2 => simp at e1
  -- the box of the weight comes first
  have hM : Below w.heap.size w ((w.alloc (.cells #[.int .u64 1] 50)).alloc (.cells #[.slice a n k, .slice ta tn tc] 46)).drew := (((Below.refl _ _).alloc (Nat.le_refl _) _).alloc (by simp) _).drew
  have hM2 : Below w.heap.size w ((w.alloc (.cells #[.slice a n k, .slice ta tn tc] 46)).alloc (.cells #[.int .u64 1] 50)).drew := (((Below.refl _ _).alloc (Nat.le_refl _) _).alloc (by simp) _).drew
  have hAM : AtL ((w.alloc (.cells #[.int .u64 1] 50)).alloc (.cells #[.slice a n k, .slice ta tn tc] 46)).drew (some ⟨w.heap.size + 1, 0, none⟩) [xs, c.th] := by
    have hBk2 : Blk ((w.alloc (.cells #[.int .u64 1] 50)).alloc (.cells #[.slice a n k, .slice ta tn tc] 46)).drew (w.heap.size + 1) 46 #[.slice a n k, .slice ta tn tc] := by
      have := (Blk.new (w.alloc (.cells #[.int .u64 1] 50)) 46 #[.slice a n k, .slice ta tn tc]).belowN (Below.drew (Below.refl _ _)); simpa using this
    refine AtL.ofBlk [⟨a, n, k⟩, ⟨ta, tn, tc⟩] _ hBk2 rfl rfl fun i hd l e1 e2 => ?_
    match i, e1, e2 with
    | 0, e1, e2 => simp at e1 e2; subst e1 e2; exact ⟨hn, by show xs.length ≤ k; omega, hat.belowN hM⟩
    | 1, e1, e2 => simp at e1 e2; subst e1 e2; exact ⟨htn, by show c.th.length ≤ tc; omega, h3.belowN hM⟩
    | j + 2, e1, e2 => simp at e1
  have hAM2 : AtL ((w.alloc (.cells #[.slice a n k, .slice ta tn tc] 46)).alloc (.cells #[.int .u64 1] 50)).drew (some ⟨w.heap.size, 0, none⟩) [xs, c.th] := by
    have hBk2 : Blk ((w.alloc (.cells #[.slice a n k, .slice ta tn tc] 46)).alloc (.cells #[.int .u64 1] 50)).drew w.heap.size 46 #[.slice a n k, .slice ta tn tc] := (hBk.alloc _).belowN (Below.drew (Below.refl _ _))
    refine AtL.ofBlk [⟨a, n, k⟩, ⟨ta, tn, tc⟩] _ hBk2 rfl rfl fun i hd l e1 e2 => ?_
    match i, e1, e2 with
    | 0, e1, e2 => simp at e1 e2; subst e1 e2; exact ⟨hn, by show xs.length ≤ k; omega, hat.belowN hM2⟩
    | 1, e1, e2 => simp at e1 e2; subst e1 e2; exact ⟨htn, by show c.th.length ≤ tc; omega, h3.belowN hM2⟩
    | j + 2, e1, e2 => simp at e1
  rw [← htn, hpln] at h0
  have f0 := h0.cell_ (i := 2) (v := .int .i64 c.q.regs) rfl
  have f1 := h0.cell_ (i := 3) (v := .slice qa pl qc) rfl
  have f5 := h0.cell_ (i := 5) (v := .slice ta tn tc) rfl
  have hgl := h0.lt
  have HPP := hide (fun (p : Option Addr) (rn rc : Nat) (hrn : rn = R.length) (h1 : rn ≤ rc) (h2 : rc ≤ 9223372036854775807) (h3 : n + tn ≤ rn) (h4 : rn ≤ 1000000) (W : World) (k1 : ChAt W g c) (k2 : At W p R) => parts_calls g c n tn hx htn p rn rc R hrn h1 h2 h3 (by omega) h4 W k1 k2)
  have hRl64 : R.length ≤ 64 := by omega
  have hW1a : At ((w.alloc (.cells #[.int .u64 1] 50)).alloc (.cells #[.slice a n k, .slice ta tn tc] 46)).drew (some ⟨w.heap.size, 0, none⟩) [(1 : UInt64)] := At.ofBlk (((Blk.new w 50 #[.int .u64 1]).alloc _).belowN (Below.drew (Below.refl _ _))) [(1 : UInt64)] rfl
  have hW1b : At ((w.alloc (.cells #[.slice a n k, .slice ta tn tc] 46)).alloc (.cells #[.int .u64 1] 50)).drew (some ⟨w.heap.size + 1, 0, none⟩) [(1 : UInt64)] := by
    have h9 := At.ofBlk ((Blk.new (w.alloc (.cells #[.slice a n k, .slice ta tn tc] 46)) 50 #[.int .u64 1]).belowN (Below.drew (Below.refl _ _))) [(1 : UInt64)] rfl
    simpa using h9
  have HW1 := hide (show ∀ W : World, At (W.alloc (.cells #[.int .u64 1] 50)) (some ⟨W.heap.size, 0, none⟩) [(1 : UInt64)] from fun W => At.ofBlk (Blk.new W _ #[.int .u64 1]) [(1 : UInt64)] rfl)
  clear hn hR hb hL hmay hBk hpln hfl d1 d2 hx htn
  go_enter Tryz.func37, Tryz.ntmps37
  go_wp2_with (go_at_call 80; go_must ((with_reducible refine (HM.out).mono ?_); rintro e w1 ⟨rfl, rfl⟩))
  go_region_law (first
    | (go_simp; go_at_call 82; go_must ((refine (Concat_calls _ _ 2 [xs, c.th] _ rfl (by first | exact hAL | exact hAM | exact hAM2) (by omega) (by rw [← HL.out, ← HFL.out]; omega) (n + tn) (by rw [← HL.out, ← HFL.out])).mono ?_); rw [← HL.out]; rintro e w3 ⟨a3, c3, rfl, hown3, hb3⟩; have hB3 : Below _ _ w3 := (by first | exact hN.trans (hb3.mono hN.size) | exact hM.trans (hb3.mono hM.size) | exact hM2.trans (hb3.mono hM2.size)); have hB3Z := hB3.trans ((below_new12 w3 (.cells #[.int .u64 1] 50)).mono hB3.size); have hg3 := h0.belowN hB3; have m0 := hg3.cell_ (i := 2) (v := .int .i64 c.q.regs) rfl; have m1 := hg3.cell_ (i := 3) (v := .slice qa pl qc) rfl; have m5 := hg3.cell_ (i := 5) (v := .slice ta tn tc) rfl; have hg3Z := h0.belowN hB3Z; have n0 := hg3Z.cell_ (i := 2) (v := .int .i64 c.q.regs) rfl; have n1 := hg3Z.cell_ (i := 3) (v := .slice qa pl qc) rfl; have n5 := hg3Z.cell_ (i := 5) (v := .slice ta tn tc) rfl))
    | (go_simp; go_at_call 81; go_must (first
        | ((refine (Pull_calls c.q.regs qa qc pl c.q.l HPL.out a3 (n + tn) c3 L HFL.out _ 1 _ [(1 : UInt64)] rfl R 0 HR.out HD.out w3 (h2.belowN hB3) hpl2 hown3.at_ (by first | exact hW1a.belowN hb3 | exact hW1b.belowN hb3) (by omega) (by omega)).mono ?_); rintro e w4 ⟨a4, c4, rfl, hown4, hb4⟩; have hB4 : Below _ _ w4 := hB3.trans (hb4.mono hB3.size))
        | ((refine (Pull_calls c.q.regs qa qc pl c.q.l HPL.out a3 (n + tn) c3 L HFL.out _ 1 _ [(1 : UInt64)] rfl R 0 HR.out HD.out _ (h2.belowN hB3Z) hpl2 (hown3.alloc (.cells #[.int .u64 1] 50)).at_ (HW1.out w3) (by omega) (by omega)).mono ?_); rintro e w4 ⟨a4, c4, rfl, hown4, hb4⟩; have hB4 : Below _ _ w4 := hB3Z.trans (hb4.mono hB3Z.size)))))
  all_goals
    have hcap := hown4.cap
    have c3' : c4 ≤ 9223372036854775807 := Nat.le_trans hcap.2 (by decide)
    have hz4 := hB4.size
    go_wp2_with (go_at_call 83; go_must ((with_reducible refine (HPP.out a4 _ c4 rfl hcap.1 c3' hRl (by omega) _ (hch.belowN hB4) hown4.at_).mono ?_); rintro e w5 ⟨a5, k5, a6, k6, rfl, hA5, hA6, hb5⟩; have hB5 := hB4.trans (hb5.mono hz4)))
    go_ret3
    exact ⟨a5, k5, a6, k6, rfl, hA5, hA6, hB5⟩
end Go.Proofs.YtcamcnahkdiefaaGreat

/- Plain: the adjoints of a chain, taken back from its end, are the derivatives that passes of duals tell. -/
namespace Go.Proofs.YtcamcnahkdiefaaGreat
set_option linter.unusedVariables false
set_option linter.unusedSimpArgs false
open Go.RowKit
theorem dot_app : ∀ (a b c d : List UInt64), a.length = c.length → dotU (a ++ b) (c ++ d) = dotU a c + dotU b d
  | [], b, [], d, _ => by simp [dotU]
  | x :: a, b, y :: c, d, h => by
    simp only [List.cons_append, dotU]
    rw [dot_app a b c d (by simpa using h)]
    grind
theorem dot_zero_left (n : Nat) (b : List UInt64) : dotU (List.replicate n 0) b = 0 := by rw [dot_comm]; exact dot_zero b n
theorem dot_startR (n : Nat) (w t : List UInt64) (hw : w.length ≤ n) (ht : t.length = n) : dotU (startR n w) t = dotU w (t.take w.length) := by
  unfold startR
  have h := dot_app w (List.replicate (n - w.length) 0) (t.take w.length) (t.drop w.length) (by rw [List.length_take]; omega)
  rw [List.take_append_drop] at h
  rw [h, dot_zero_left]
  simp
theorem dot_startR_r (n : Nat) (w t : List UInt64) (hw : w.length = n) (ht : t.length ≤ n) : dotU w (startR n t) = dotU (w.take t.length) t := by
  rw [dot_comm, dot_startR n t w ht hw, dot_comm]
theorem zip_app {a b a' b' : List UInt64} (h : a.length = b.length) : zipD (a ++ a') (b ++ b') = zipD a b ++ zipD a' b' := by
  unfold zipD
  exact List.zipWith_append h
theorem zip_take (a b : List UInt64) (k : Nat) : (zipD a b).take k = zipD (a.take k) (b.take k) := by
  unfold zipD
  exact List.take_zipWith
theorem zip_startD (n : Nat) (r t : List UInt64) (h : r.length = t.length) : startD n (zipD r t) = zipD (startR n r) (startR n t) := by
  unfold startD startR
  rw [zip_app h, zipD_length r t h, ← h]
  congr 1
  unfold zipD
  rw [List.zipWith_replicate]
  simp
theorem getD_zip (a b : List UInt64) (h : a.length = b.length) : (zipD a b).getD 0 ⟨0, 0⟩ = ⟨a.getD 0 0, b.getD 0 0⟩ := by
  cases a with
  | nil => cases b with
    | nil => rfl
    | cons y b => simp at h
  | cons x a => cases b with
    | nil => simp at h
    | cons y b => rfl
theorem ChD.dstep_zip (c : ChD) (hc : c.Ok) {xs dx dth : List UInt64} (hx : (xs.length : Int) = c.x) (hdx : dx.length = xs.length) (hdt : dth.length = c.th.length) (t : Nat) :
    ∃ dy : List UInt64, dy.length = xs.length ∧ c.dstep t (zipD xs dx) (zipD c.th dth) = zipD (c.step (t : Int) xs) dy ∧
      ∀ adj : List UInt64, adj.length = xs.length → dotU adj dy = dotU ((c.pstep (t : Int) xs adj).take xs.length) dx + dotU (((c.pstep (t : Int) xs adj).drop xs.length).take c.th.length) dth := by
  obtain ⟨f, hf, g⟩ := hc.hp
  have hr := hc.r1
  have hB : ((c.beg (t : Int) xs).length : Int) ≤ c.p.regs := by unfold ChD.beg; simp; omega
  have hBl : (c.beg (t : Int) xs).length = (dx ++ dth ++ [0]).length := by unfold ChD.beg; simp; omega
  have hz : zipD xs dx ++ zipD c.th dth ++ [(⟨UInt64.ofNat t, 0⟩ : DuD)] = zipD (c.beg (t : Int) xs) (dx ++ dth ++ [0]) := by
    unfold ChD.beg
    rw [zip_app (by simp; omega), zip_app hdx.symm, Int.toNat_natCast]
    rfl
  obtain ⟨N, hN⟩ : ∃ N, c.p.regs.toNat = N := ⟨_, rfl⟩
  have hR0 : (startR N (c.beg (t : Int) xs)).length = N := startR_length _ _ (by omega)
  have hT0 : (startR N (dx ++ dth ++ [0])).length = N := startR_length _ _ (by omega)
  have hk : ∀ x ∈ f.unroll, 1 ≤ x.kind ∧ x.kind ≤ 6 := fun x hx => (f.unroll_mem g.ok x hx).2
  have hin : ∀ x ∈ f.unroll, InR c.p.regs x := g.inR
  refine ⟨(runT f.unroll (startR N (c.beg (t : Int) xs)) (startR N (dx ++ dth ++ [0]))).take xs.length, ?_, ?_, ?_⟩
  · rw [List.length_take, runT_length, hT0]; omega
  · unfold ChD.dstep ChD.step
    rw [hz, hf, dualR_good g (by rw [zipD_length _ _ hBl]; exact hB), hN, zip_startD _ _ _ hBl, runD_zip _ hk _ _ (by rw [hR0, hT0]), uptoS_good g hB, hN, zipD_length _ _ hdx.symm, zip_take, ← hx, Int.toNat_natCast]
    have hu : uptoL f.unroll (-1) = f.unroll := by unfold uptoL; rw [if_pos (by omega)]
    rw [hu]
  · intro adj ha
    have hA : ((adj.length : Nat) : Int) ≤ c.p.regs := by omega
    unfold ChD.pstep
    rw [hf, pullA_good g hB hA, hN]
    have h1 := dot_startR N adj (runT f.unroll (startR N (c.beg (t : Int) xs)) (startR N (dx ++ dth ++ [0]))) (by omega) (by rw [runT_length, hT0])
    rw [ha] at h1
    rw [← h1, ← dot_back f.unroll c.p.regs hin _ _ _ (by rw [startR_length _ _ (by omega)]; omega) (by rw [startR_length _ _ (by omega), hT0])]
    obtain ⟨P, hP⟩ : ∃ P, backA f.unroll (startR N (c.beg (t : Int) xs)) (startR N adj) = P := ⟨_, rfl⟩
    have hPl : P.length = N := by rw [← hP, backA_length, startR_length _ _ (by omega)]
    rw [hP, dot_startR_r N P _ hPl (by rw [← hBl]; omega)]
    have hs : P.take (dx ++ dth ++ [0]).length = P.take xs.length ++ (P.drop xs.length).take c.th.length ++ ((P.drop xs.length).drop c.th.length).take 1 := by
      rw [List.drop_drop, ← List.take_add, ← List.take_add]
      congr 1
      simp
      omega
    rw [hs, dot_app _ _ (dx ++ dth) [0] (by simp; omega), dot_app _ _ dx dth (by simp; omega)]
    have hz0 : ∀ l : List UInt64, dotU l [0] = 0 := fun l => dot_zero l 1
    rw [hz0]
    simp
theorem ChD.dloss_zip (c : ChD) (hc : c.Ok) {xs dx dth : List UInt64} (hx : (xs.length : Int) = c.x) (hdx : dx.length = xs.length) (hdt : dth.length = c.th.length) :
    c.dloss (zipD xs dx) (zipD c.th dth) = ⟨c.loss xs, dotU ((c.ploss xs).take xs.length) dx + dotU (((c.ploss xs).drop xs.length).take c.th.length) dth⟩ := by
  obtain ⟨f, hf, g⟩ := hc.hq
  have hr := hc.r2
  have hx1 := hc.x1
  have hB : ((xs ++ c.th).length : Int) ≤ c.q.regs := by simp; omega
  have hBl : (xs ++ c.th).length = (dx ++ dth).length := by simp; omega
  obtain ⟨N, hN⟩ : ∃ N, c.q.regs.toNat = N := ⟨_, rfl⟩
  have hR0 : (startR N (xs ++ c.th)).length = N := startR_length _ _ (by omega)
  have hT0 : (startR N (dx ++ dth)).length = N := startR_length _ _ (by omega)
  have hk : ∀ x ∈ f.unroll, 1 ≤ x.kind ∧ x.kind ≤ 6 := fun x hx => (f.unroll_mem g.ok x hx).2
  have hin : ∀ x ∈ f.unroll, InR c.q.regs x := g.inR
  have h1l : (([1] : List UInt64).length : Int) ≤ c.q.regs := by simp; omega
  unfold ChD.dloss ChD.loss ChD.ploss
  rw [← zip_app hdx.symm, hf, dualR_good g (by rw [zipD_length _ _ hBl]; exact hB), hN, zip_startD _ _ _ hBl, runD_zip _ hk _ _ (by rw [hR0, hT0]), uptoS_good g hB, hN, pullA_good g hB h1l, hN]
  rw [getD_zip _ _ (by rw [runR_length, runT_length, hR0, hT0])]
  obtain ⟨P, hP⟩ : ∃ P, backA f.unroll (startR N (xs ++ c.th)) (startR N [1]) = P := ⟨_, rfl⟩
  have hPl : P.length = N := by rw [← hP, backA_length, startR_length _ _ (by simp; omega)]
  have h2 := dot_startR N [1] (runT f.unroll (startR N (xs ++ c.th)) (startR N (dx ++ dth))) (by simp; omega) (by rw [runT_length, hT0])
  rw [← dot_back f.unroll c.q.regs hin _ _ _ (by rw [startR_length _ _ (by simp; omega)]; omega) (by rw [startR_length _ _ (by simp; omega), hT0]), hP, dot_startR_r N P _ hPl (by rw [← hBl]; omega)] at h2
  have hs : P.take (dx ++ dth).length = P.take xs.length ++ (P.drop xs.length).take c.th.length := by
    rw [← List.take_add]
    congr 1
    simp
    omega
  rw [hs, dot_app _ _ dx dth (by simp; omega)] at h2
  rw [hP, h2]
  congr 1
  obtain ⟨T, hT⟩ : ∃ T, runT f.unroll (startR N (xs ++ c.th)) (startR N (dx ++ dth)) = T := ⟨_, rfl⟩
  rw [hT]
  cases T with
  | nil => rfl
  | cons y T => simp [dotU]
def addL (a b : List UInt64) : List UInt64 := List.zipWith (· + ·) a b
theorem addL_length (a b : List UInt64) (h : a.length = b.length) : (addL a b).length = a.length := by unfold addL; simp [h]
theorem dot_addL : ∀ (a b d : List UInt64), a.length = b.length → dotU (addL a b) d = dotU a d + dotU b d
  | [], [], d, _ => by simp [addL, dotU]
  | x :: a, y :: b, [], _ => by simp [addL, dotU]
  | x :: a, y :: b, z :: d, h => by
    show (x + y) * z + dotU (addL a b) d = (x * z + dotU a d) + (y * z + dotU b d)
    rw [dot_addL a b d (by simpa using h)]
    grind
noncomputable def ChD.tailA (c : ChD) : Nat → Nat → List UInt64 → List UInt64 × List UInt64
  | 0, _, xs => ((c.ploss xs).take xs.length, ((c.ploss xs).drop xs.length).take c.th.length)
  | k + 1, t, xs => ((c.pstep (t : Int) xs (c.tailA k (t + 1) (c.step (t : Int) xs)).1).take xs.length, addL (c.tailA k (t + 1) (c.step (t : Int) xs)).2 (((c.pstep (t : Int) xs (c.tailA k (t + 1) (c.step (t : Int) xs)).1).drop xs.length).take c.th.length))
theorem ChD.tailA_len (c : ChD) (hc : c.Ok) : ∀ (k t : Nat) {xs : List UInt64}, (xs.length : Int) = c.x → (c.tailA k t xs).1.length = xs.length ∧ (c.tailA k t xs).2.length = c.th.length
  | 0, t, xs, hx => by
    have h1 := (c.ploss_run hc hx).2
    have hr := hc.r2
    unfold ChD.tailA
    simp only [List.length_take, List.length_drop]
    omega
  | k + 1, t, xs, hx => by
    have hs := c.step_length hc (t := (t : Int)) hx
    obtain ⟨i1, i2⟩ := ChD.tailA_len c hc k (t + 1) hs
    have h1 := (c.pstep_run hc (t := (t : Int)) (adj := (c.tailA k (t + 1) (c.step (t : Int) xs)).1) hx (by omega)).2
    have hr := hc.r1
    unfold ChD.tailA
    refine ⟨by simp only [List.length_take]; omega, ?_⟩
    rw [addL_length _ _ (by simp only [List.length_take, List.length_drop]; omega), i2]
theorem ChD.pass_tail (c : ChD) (hc : c.Ok) {xs dx dth : List UInt64} (hx : (xs.length : Int) = c.x) (hdx : dx.length = xs.length) (hdt : dth.length = c.th.length) (l : Nat) :
    c.dpass (zipD xs dx) (zipD c.th dth) l = ⟨c.loss (c.iter xs l), dotU (c.tailA l 0 xs).1 dx + dotU (c.tailA l 0 xs).2 dth⟩ := by
  have key : ∀ m, m ≤ l → ∃ dm : List UInt64, dm.length = xs.length ∧ c.diter (zipD xs dx) (zipD c.th dth) m = zipD (c.iter xs m) dm ∧
      dotU (c.tailA (l - m) m (c.iter xs m)).1 dm + dotU (c.tailA (l - m) m (c.iter xs m)).2 dth = dotU (c.tailA l 0 xs).1 dx + dotU (c.tailA l 0 xs).2 dth := by
    intro m
    induction m with
    | zero => exact fun _ => ⟨dx, hdx, rfl, rfl⟩
    | succ m ih =>
      intro hm
      obtain ⟨dm, h1, h2, h3⟩ := ih (by omega)
      have hl := c.iter_length hc hx m
      have hlx : (c.iter xs m).length = xs.length := by omega
      obtain ⟨dy, k1, k2, k3⟩ := c.dstep_zip hc hl (h1.trans hlx.symm) hdt m
      refine ⟨dy, k1.trans hlx, ?_, ?_⟩
      · show c.dstep m (c.diter (zipD xs dx) (zipD c.th dth) m) (zipD c.th dth) = zipD (c.step (m : Int) (c.iter xs m)) dy
        rw [h2, k2]
      · rw [← h3]
        have e : l - m = (l - (m + 1)) + 1 := by omega
        rw [e]
        show dotU (c.tailA (l - (m + 1)) (m + 1) (c.step (m : Int) (c.iter xs m))).1 dy + dotU (c.tailA (l - (m + 1)) (m + 1) (c.step (m : Int) (c.iter xs m))).2 dth = _
        have hs := c.step_length hc (t := (m : Int)) hl
        obtain ⟨a1, a2⟩ := c.tailA_len hc (l - (m + 1)) (m + 1) hs
        obtain ⟨A, hA⟩ : ∃ A, c.tailA (l - (m + 1)) (m + 1) (c.step (m : Int) (c.iter xs m)) = A := ⟨_, rfl⟩
        have hP := (c.pstep_run hc (t := (m : Int)) (xs := c.iter xs m) (adj := A.1) hl (by rw [← hA]; omega)).2
        have hr := hc.r1
        have eT : c.tailA (l - (m + 1) + 1) m (c.iter xs m) = ((c.pstep (m : Int) (c.iter xs m) (c.tailA (l - (m + 1)) (m + 1) (c.step (m : Int) (c.iter xs m))).1).take (c.iter xs m).length, addL (c.tailA (l - (m + 1)) (m + 1) (c.step (m : Int) (c.iter xs m))).2 (((c.pstep (m : Int) (c.iter xs m) (c.tailA (l - (m + 1)) (m + 1) (c.step (m : Int) (c.iter xs m))).1).drop (c.iter xs m).length).take c.th.length)) := rfl
        rw [eT, hA]
        rw [hA] at a1 a2
        rw [k3 A.1 (by omega)]
        simp only
        rw [dot_addL _ _ _ (by simp only [List.length_take, List.length_drop]; omega)]
        grind
  obtain ⟨dm, h1, h2, h3⟩ := key l (Nat.le_refl _)
  have hl := c.iter_length hc hx l
  unfold ChD.dpass
  rw [h2, c.dloss_zip hc hl (by omega) hdt, ← h3, Nat.sub_self]
  rfl
theorem numS_zip (xs th : List UInt64) (i : Int) : numS (xs ++ th) i 0 xs.length = zipD xs ((List.range xs.length).map fun k : Nat => if (k : Int) = i then 1 else 0) ∧ numS (xs ++ th) i xs.length th.length = zipD th ((List.range th.length).map fun k : Nat => if ((xs.length + k : Nat) : Int) = i then 1 else 0) := by
  constructor
  · unfold numS numAt zipD
    apply List.ext_getElem?
    intro k
    rw [List.getElem?_map, List.getElem?_zipWith, List.getElem?_map]
    by_cases hk : k < xs.length
    · rw [List.getElem?_range hk, List.getElem?_eq_getElem hk]
      simp [hk, List.getElem?_append_left hk]
    · rw [List.getElem?_eq_none (by simp; omega), List.getElem?_eq_none (by omega)]
      rfl
  · unfold numS numAt zipD
    apply List.ext_getElem?
    intro k
    rw [List.getElem?_map, List.getElem?_zipWith, List.getElem?_map]
    by_cases hk : k < th.length
    · rw [List.getElem?_range hk, List.getElem?_eq_getElem hk]
      simp [hk]
    · rw [List.getElem?_eq_none (by simp; omega), List.getElem?_eq_none (by omega)]
      rfl
theorem unit_map (n j : Nat) : ((List.range n).map fun k : Nat => if (k : Int) = (j : Int) then (1 : UInt64) else 0) = unitR n j := by
  unfold unitR
  apply List.ext_getElem?
  intro k
  rw [List.getElem?_map, List.getElem?_set, List.getElem?_replicate, List.length_replicate]
  by_cases hk : k < n
  · rw [List.getElem?_range hk, if_pos hk]
    by_cases e : j = k
    · subst e; simp [hk]
    · rw [if_neg e]; simp; omega
  · rw [List.getElem?_eq_none (by simp; omega), if_neg hk]
    split
    · rename_i e; subst e; simp [hk]
    · rfl
theorem zero_map (n : Nat) (p : Nat → Prop) [DecidablePred p] (h : ∀ k, k < n → ¬ p k) : ((List.range n).map fun k : Nat => if p k then (1 : UInt64) else 0) = List.replicate n 0 := by
  apply List.ext_getElem?
  intro k
  rw [List.getElem?_map, List.getElem?_replicate]
  by_cases hk : k < n
  · rw [List.getElem?_range hk, if_pos hk]; simp [h k hk]
  · rw [List.getElem?_eq_none (by simp; omega), if_neg hk]; rfl
theorem ChD.passAt_tail (c : ChD) (hc : c.Ok) {xs : List UInt64} (hx : (xs.length : Int) = c.x) (l : Nat) :
    (∀ i, i < xs.length → c.passAt xs l (i : Int) = ⟨c.loss (c.iter xs l), ((c.tailA l 0 xs).1[i]?).getD 0⟩) ∧ ∀ i, i < c.th.length → c.passAt xs l ((xs.length + i : Nat) : Int) = ⟨c.loss (c.iter xs l), ((c.tailA l 0 xs).2[i]?).getD 0⟩ := by
  obtain ⟨a1, a2⟩ := c.tailA_len hc l 0 hx
  constructor
  · intro i hi
    obtain ⟨n1, n2⟩ := numS_zip xs c.th (i : Int)
    unfold ChD.passAt
    rw [n1, n2, unit_map, zero_map _ (fun k : Nat => ((xs.length + k : Nat) : Int) = (i : Int)) (fun k _ => by omega), c.pass_tail hc hx (by unfold unitR; simp) (by simp) l, dot_zero, ← a1, dot_unit _ _ (by omega)]
    simp
  · intro i hi
    obtain ⟨n1, n2⟩ := numS_zip xs c.th ((xs.length + i : Nat) : Int)
    have e : ((List.range c.th.length).map fun k : Nat => if ((xs.length + k : Nat) : Int) = ((xs.length + i : Nat) : Int) then (1 : UInt64) else 0) = unitR c.th.length i := by
      rw [← unit_map]
      refine List.map_congr_left fun k _ => ?_
      by_cases e : k = i
      · subst e; simp
      · rw [if_neg (by omega), if_neg (by omega)]
    unfold ChD.passAt
    rw [n1, n2, e, zero_map _ (fun k : Nat => (k : Int) = ((xs.length + i : Nat) : Int)) (fun k hk => by omega), c.pass_tail hc hx (by simp) (by unfold unitR; simp) l, dot_zero, ← a2, dot_unit _ _ (by omega)]
    simp
theorem ChD.grad_tail (c : ChD) {xs : List UInt64} (hx : (xs.length : Int) = c.x) {l : Int} (hm : c.mayM l = 0) : c.gV xs l = c.loss (c.iter xs l.toNat) ∧ c.gX xs l = (c.tailA l.toNat 0 xs).1 ∧ c.gT xs l = (c.tailA l.toNat 0 xs).2 := by
  obtain ⟨hc, _, _⟩ := ChD.mayM_ok hm
  obtain ⟨p1, p2⟩ := c.passAt_tail hc hx l.toNat
  obtain ⟨a1, a2⟩ := c.tailA_len hc l.toNat 0 hx
  have hx1 := hc.x1
  refine ⟨?_, ?_, ?_⟩
  · unfold ChD.gV ChD.gradV
    rw [if_pos hm, if_neg (by omega)]
    by_cases h0 : c.th.length = 0
    · rw [p1 _ (by omega)]
    · rw [show xs.length + c.th.length - 1 = xs.length + (c.th.length - 1) by omega, p2 _ (by omega)]
  · unfold ChD.gX ChD.gradL
    rw [if_pos hm]
    apply List.ext_getElem?
    intro k
    rw [List.getElem?_map]
    by_cases hk : k < xs.length
    · rw [List.getElem?_range hk, Option.map_some, Nat.zero_add, p1 k hk, List.getElem?_eq_getElem (by omega)]; rfl
    · rw [List.getElem?_eq_none (by simp; omega), List.getElem?_eq_none (by omega)]; rfl
  · unfold ChD.gT ChD.gradL
    rw [if_pos hm]
    apply List.ext_getElem?
    intro k
    rw [List.getElem?_map]
    by_cases hk : k < c.th.length
    · rw [List.getElem?_range hk, Option.map_some, p2 k hk, List.getElem?_eq_getElem (by omega)]; rfl
    · rw [List.getElem?_eq_none (by simp; omega), List.getElem?_eq_none (by omega)]; rfl
end Go.Proofs.YtcamcnahkdiefaaGreat

/- Chapter 24: model.Gradient. -/
namespace Go.Proofs.YtcamcnahkdiefaaGreat
set_option linter.unusedVariables false
set_option linter.unusedSimpArgs false
open Go.RowKit
theorem blk_two {w0 w : World} {g : Nat} {T : TypeId} {cs : Array Value} (hB : Below w0.heap.size w0 w) (h : Blk w g T cs) (hg : w0.heap.size ≤ g) (u v : Value) : Blk ((w.setCell ⟨g, 0, none⟩ u).setCell ⟨g, 1, none⟩ v) g T ((cs.setIfInBounds 0 u).setIfInBounds 1 v) ∧ Below w0.heap.size w0 ((w.setCell ⟨g, 0, none⟩ u).setCell ⟨g, 1, none⟩ v) :=
  ⟨(h.set_ 0 u).set_ 1 v, (hB.setCell (p := ⟨g, 0, none⟩) hg u).setCell (p := ⟨g, 1, none⟩) hg v⟩
theorem blk_one {w0 w : World} {T : TypeId} {cs : Array Value} (hB : Below w0.heap.size w0 w) : Blk (w.alloc (.cells cs T)) w.heap.size T cs ∧ Below w0.heap.size w0 (w.alloc (.cells cs T)) :=
  ⟨Blk.new w T cs, hB.alloc hB.size _⟩
set_option maxRecDepth 100000 in
set_option maxHeartbeats 12800000 in
theorem MGrad_good (c : ChD) (hc : c.Ok) (xs : List UInt64) (xn tn ln : Nat) (hxn : xn = xs.length) (hcx : c.x = (xn : Int)) (htn : tn = c.th.length) (hln : ln < 65536) (xa : Option Addr) (xc : Nat) (ta : Option Addr) (tc : Nat) (w : World) (hx : At w xa xs) (ht : At w ta c.th)
    (hp : At w c.p.a c.p.l) (hpl : c.p.l.length ≤ 1000000) (hq : At w c.q.a c.q.l) (hql : c.q.l.length ≤ 1000000) (hm : c.mayM (ln : Int) = 0) :
    Calls Tryz.prog 25 #[.agg #[.int .i64 c.p.regs, .slice c.p.a c.p.l.length c.p.c], .agg #[.int .i64 c.q.regs, .slice c.q.a c.q.l.length c.q.c], .slice xa xn xc, .slice ta tn tc, .int .i64 (ln : Int)] w fun e w' => ∃ a1 c1 a2 c2, e = .returned (.tuple #[.agg #[.int .u64 ((c.gradV xs ln (xn + tn)).toNat : Int), .slice a1 xn c1, .slice a2 tn c2], .int .i64 0]) ∧ Own w' w.heap.size 50 a1 c1 (c.gradL xs ln 0 xn) ∧ Own w' w.heap.size 50 a2 c2 (c.gradL xs ln xn tn) ∧ Below w.heap.size w w' := by
  have hx1 := hc.x1
  have hx2 := hc.x2
  have ht2 := hc.t2
  rw [hcx] at hx1 hx2
  rw [← htn] at ht2
  obtain ⟨hX, hY, hR, hb0, hz0⟩ := three_boxes w 24 24 56 #[.int .i64 c.p.regs, .slice c.p.a c.p.l.length c.p.c] #[.int .i64 c.q.regs, .slice c.q.a c.q.l.length c.q.c] #[.int .u64 0, .slice none 0 0, .slice none 0 0]
  obtain ⟨p0, p1, p2, p3⟩ := hX.c2
  obtain ⟨p4, p5, p6, p7⟩ := hY.c2
  have HM := hide (May24M_calls c ta tc (ln : Int) _ (hp.belowN hb0) hpl (hq.belowN hb0) hql (ht.belowN hb0) (by rw [hcx]; omega) (by omega) 0 hm)
  rw [← htn, hcx] at HM
  have HNU := hide (fun (k : Nat) (W : World) (hW : Below w.heap.size w W) => Numbers_calls xa xc ta tc xs c.th xn tn hxn htn (k : Int) W (hx.belowN hW) (ht.belowN hW))
  have HPA := hide (fun (k : Nat) (V D : UInt64) (hV : c.passAt xs ln (k : Int) = ⟨V, D⟩) (W : World) (hW : Below w.heap.size w W) (g3 g4 g5 : Nat) (hN : NumAt W g3 g4 g5 xa xc ta tc xs c.th (k : Int)) => Pass_calls c hc xs xn tn ln hxn hcx htn hln g3 g4 g5 xa xc ta tc (k : Int) W hN (hp.belowN hW) hpl (hq.belowN hW) hql V D (by unfold ChD.passAt at hV; rw [← hxn, ← htn] at hV; exact hV))
  clear hc hxn hcx htn hm
  go_enter Tryz.func25, Tryz.ntmps25
  go_wp2_with (go_at_call 52; go_must ((with_reducible refine (HM.out).mono ?_); rintro e w1 ⟨rfl, hb1⟩; have hB1 := hb0.trans (hb1.mono hb0.size)))
  have hz1 := hB1.size
  have hR1 := hR.belowN hb1
  have hgR := hR1.lt
  have hBG : Below w1.heap.size w1 (w1.alloc (.cells #[.int .u64 0, .slice none 0 0, .slice none 0 0] 56)) := below_box w1 _
  go_loopw [32] (fun iv wr => ∃ (i : Nat) (ax : Option Addr) (cx : Nat) (at_ : Option Addr) (ct Bt : Nat), iv = .int .i64 i ∧ i ≤ xn + tn ∧ GrH 56 50 wr w1.heap.size (c.gradV xs ln i) (min i xn) ax cx (i - xn) at_ ct Bt (c.gradL xs ln 0 (min i xn)) (c.gradL xs ln xn (i - xn)) ∧ (i ≤ xn → at_ = none ∧ ct = 0) ∧ Below w1.heap.size w1 wr) (fun iv _ => xn + tn - (intOf iv).toNat)
  case atStart =>
    refine ⟨0, none, 0, none, 0, (w1.heap.size + 1), rfl, by omega, ?_, fun _ => ⟨rfl, rfl⟩, hBG⟩
    rw [Nat.zero_min, Nat.zero_sub]
    exact ⟨Blk.new w1 _ _, rfl, rfl, Own.none _ _ _, Own.none _ _ _, Nat.le_refl _, by simp, fun k hk => by cases hk⟩
  case round =>
    obtain ⟨i, ax, cx, at_, ct, Bt, rfl, hi, hG, hat, hb3⟩ := hrel
    have hz3 := hb3.size
    obtain ⟨c0, c1, c2, f0, f1, f2⟩ := hG.blk.c3
    by_cases hlt : i < xn + tn
    · obtain ⟨⟨V, D⟩, hV⟩ : ∃ x, c.passAt xs ln (i : Int) = x := ⟨_, rfl⟩
      have hBw := hB1.trans (hb3.mono hz1)
      have hzw := hBw.size
      have HNUi := hide (HNU.out i)
      have HPAi := hide (HPA.out i V D hV)
      have hVi : c.gradV xs ln (i + 1) = V := by
        unfold ChD.gradV
        rw [if_neg (by omega), Nat.add_sub_cancel, hV]
      obtain ⟨p0, p1, p2, p3⟩ := (hX.belowN (hb1.trans (hb3.mono hb1.size))).c2
      obtain ⟨p4, p5, p6, p7⟩ := (hY.belowN (hb1.trans (hb3.mono hb1.size))).c2
      have HVV := hide hV
      clear hV
      go_wp2
      have hX1 := hX.belowN (hb1.trans (hb3.mono hb1.size))
      have hY1 := hY.belowN (hb1.trans (hb3.mono hb1.size))
      have hgX := hX1.lt
      have hgY := hY1.lt
      have hd0 : Below wr.heap.size wr wr.drew := Below.drew (Below.refl _ _)
      have hdZ : Below wr.heap.size wr (wr.alloc (.cells #[.int .u64 0, .int .u64 0] 111)).drew := Below.drew (below_box wr _)
      have hNb : Blk (wr.alloc (.cells #[.int .u64 0, .int .u64 0] 111)).drew wr.heap.size 111 #[.int .u64 0, .int .u64 0] := Blk.new wr _ _
      have n1 : wr.heap.size ≠ w.heap.size := by omega
      have n2 : wr.heap.size ≠ w.heap.size + 1 := by omega
      have hBd0 := hBw.trans (hd0.mono hzw)
      have hBdZ := hBw.trans (hdZ.mono hzw)
      have HSI : Hid (∀ w4, Below wr.heap.size wr w4 → (w4.cell? ⟨w.heap.size, 0, none⟩ = some (.int .i64 c.p.regs) ∧ w4.cell? ⟨w.heap.size, 1, none⟩ = some (.slice c.p.a c.p.l.length c.p.c)) ∧ w4.cell? ⟨w.heap.size + 1, 0, none⟩ = some (.int .i64 c.q.regs) ∧ w4.cell? ⟨w.heap.size + 1, 1, none⟩ = some (.slice c.q.a c.q.l.length c.q.c)) := hide (fun w4 h4 => by
        obtain ⟨y0, y1, _⟩ := (hX1.belowN h4).c2
        obtain ⟨y2, y3, _⟩ := (hY1.belowN h4).c2
        exact ⟨⟨y0, y1⟩, y2, y3⟩)
      go_region_held3 (fun w' => (w'.cell? ⟨w.heap.size, 0, none⟩ = some (.int .i64 c.p.regs) ∧ w'.cell? ⟨w.heap.size, 1, none⟩ = some (.slice c.p.a c.p.l.length c.p.c)) ∧ w'.cell? ⟨w.heap.size + 1, 0, none⟩ = some (.int .i64 c.q.regs) ∧ w'.cell? ⟨w.heap.size + 1, 1, none⟩ = some (.slice c.q.a c.q.l.length c.q.c)) (go_keep)
        (first
          | (go_at_call 54; go_must (first
              | ((with_reducible refine (HNUi.out _ hBdZ).mono ?_); rintro e w4 ⟨g3, g4, g5, rfl, hNA, hb4⟩; have hB4 := hdZ.trans (hb4.mono hdZ.size); obtain ⟨⟨t0, t1⟩, t2, t3⟩ := HSI.out w4 hB4; have hN4 := hNb.belowN hb4; obtain ⟨u0, u1, u2, u3⟩ := hN4.c2)
              | ((with_reducible refine (HNUi.out _ hBd0).mono ?_); rintro e w4 ⟨g3, g4, g5, rfl, hNA, hb4⟩; have hB4 := hd0.trans (hb4.mono hd0.size); obtain ⟨⟨t0, t1⟩, t2, t3⟩ := HSI.out w4 hB4; have n3 : w4.heap.size ≠ w.heap.size := (by have := hB4.size; omega); have n4 : w4.heap.size ≠ w.heap.size + 1 := (by have := hB4.size; omega))))
          | (go_at_call 53; go_must (first
              | ((with_reducible refine (HPAi.out w4 (hBw.trans (hB4.mono hzw)) _ _ _ hNA).mono ?_); rintro e w6 ⟨rfl, hb6⟩; have hB6 := hB4.trans (hb6.mono hB4.size); obtain ⟨⟨t0, t1⟩, t2, t3⟩ := HSI.out w6 hB6; (try have hN6 := hN4.belowN hb6); (try obtain ⟨u0, u1, u2, u3⟩ := hN6.c2); have n5 : w6.heap.size ≠ w.heap.size := (by have := hB6.size; omega); have n6 : w6.heap.size ≠ w.heap.size + 1 := (by have := hB6.size; omega))
              | ((with_reducible refine (HPAi.out (w4.alloc (.cells #[.int .u64 0, .int .u64 0] 111)) (hBw.trans ((hB4.trans ((below_box w4 (.cells #[.int .u64 0, .int .u64 0] 111)).mono hB4.size)).mono hzw)) _ _ _ (hNA.belowN (below_box w4 (.cells #[.int .u64 0, .int .u64 0] 111)))).mono ?_); rintro e w6 ⟨rfl, hb6⟩; have hB5 := hB4.trans ((below_box w4 (.cells #[.int .u64 0, .int .u64 0] 111)).mono hB4.size); have hB6 := hB5.trans (hb6.mono hB5.size); obtain ⟨⟨t0, t1⟩, t2, t3⟩ := HSI.out w6 hB6; have hN6 := (Blk.new w4 111 #[.int .u64 0, .int .u64 0]).belowN hb6; obtain ⟨u0, u1, u2, u3⟩ := hN6.c2))))
      all_goals first
        | (have hF0 := hN6.lt; have hz4 := hB4.size; have hFB := blk_two hB6 hN6 (by first | exact Nat.le_refl _ | assumption | omega) (.int .u64 (V.toNat : Int)) (.int .u64 (D.toNat : Int)))
        | have hFB := blk_one (T := 111) (cs := #[.int .u64 (V.toNat : Int), .int .u64 (D.toNat : Int)]) hB6
      all_goals obtain ⟨hF, hB7⟩ := hFB
      all_goals have hz7 := hB7.size
      all_goals have hG7 := hG.keep hB7
      all_goals have hG8 := hG7.setV V
      all_goals obtain ⟨v0, v1, v2, v3⟩ := hF.c2
      all_goals obtain ⟨c0, c1, c2, f0, f1, f2⟩ := hG7.blk.c3
      all_goals have n8 : wr.heap.size ≠ w1.heap.size := (by have := hG.blk.lt; omega)
      all_goals have n9 : w1.heap.size ≠ wr.heap.size := (by have := hG.blk.lt; omega)
      all_goals have n10 : w4.heap.size ≠ w1.heap.size := (by have := hG.blk.lt; have := hB4.size; omega)
      all_goals have n11 : w1.heap.size ≠ w4.heap.size := (by have := hG.blk.lt; have := hB4.size; omega)
      all_goals have n12 : w6.heap.size ≠ w1.heap.size := (by have := hG.blk.lt; have := hB6.size; omega)
      all_goals have n13 : w1.heap.size ≠ w6.heap.size := (by have := hG.blk.lt; have := hB6.size; omega)
      all_goals have hb37 := hb3.trans (hB7.mono hz3)
      all_goals clear hb3 hBw HNUi HPAi HSI
      all_goals
        by_cases hix : i < xn
        · obtain ⟨rfl, rfl⟩ := hat (by omega)
          have hT : c.gradL xs ln 0 (i + 1) = c.gradL xs ln 0 i ++ [D] := by rw [ChD.gradL_succ, Nat.zero_add, HVV.out]
          have m1 : min i xn = i := by omega
          have m2 : i - xn = 0 := by omega
          rw [m1, m2] at hG7 hG8
          rw [m1] at c1
          rw [m2] at c2
          obtain ⟨LX, hLX⟩ : ∃ l, c.gradL xs ln 0 i = l := ⟨_, rfl⟩
          rw [hLX] at hG7 hG8 hT
          clear hG hLX hat
          go_wp2_with (at_builtin; go_must (refine wpList_push tyU hG8.x D rfl rfl rfl rfl rfl (by simp) hG8.nx (by have := hG8.blk.lt; omega) (by omega) ?_; intro a6 c6 w8 hown6 hg6 hcs6; have h6 := hG8.pushX hown6 hg6; obtain ⟨c0, c1, c2, f0, f1, f2⟩ := (hG8.blkX hg6).c3))
          go_roundw
          case rel =>
            refine ⟨i + 1, a6, c6, none, 0, w8.heap.size, by go_num, by omega, ?_, fun _ => ⟨rfl, rfl⟩, ?_⟩
            · rw [hVi, show min (i + 1) xn = i + 1 by omega, show i + 1 - xn = 0 by omega, hT]
              exact h6
            · exact ((below_push (hb37.setCell (p := ⟨w1.heap.size, 0, none⟩) (Nat.le_refl _) _) (hG8.x.mono (Nat.le_succ _)) hg6 (by have := hG8.blk.lt; omega)).setCell (p := ⟨w1.heap.size, 1, none⟩) (Nat.le_refl _) _)
          case measure => simp [intOf] <;> omega
        · obtain ⟨m, m2⟩ : ∃ m, i - xn = m := ⟨_, rfl⟩
          have hT : c.gradL xs ln xn (m + 1) = c.gradL xs ln xn m ++ [D] := by rw [ChD.gradL_succ, show xn + m = i by omega, HVV.out]
          have m1 : min i xn = xn := by omega
          rw [m1, m2] at hG7 hG8
          rw [m1] at c1
          rw [m2] at c2
          obtain ⟨LX, hLX⟩ : ∃ l, c.gradL xs ln 0 xn = l := ⟨_, rfl⟩
          obtain ⟨LT, hLT⟩ : ∃ l, c.gradL xs ln xn m = l := ⟨_, rfl⟩
          rw [hLX, hLT] at hG7 hG8
          rw [hLT] at hT
          have d1 : decide (i < xn) = false := decide_eq_false hix
          have d2 : decide ((i : Int) < (xn : Int)) = false := decide_eq_false (by omega)
          clear hG hLT hat
          go_wp2_with (at_builtin; go_must (refine wpList_push tyU hG8.t D rfl rfl rfl rfl rfl (by simp) hG8.nt hG8.b2 (by omega) ?_; intro a6 c6 w8 hown6 hg6 hcs6; have h6 := hG8.pushT hown6 hg6; obtain ⟨c0, c1, c2, f0, f1, f2⟩ := (hG8.blkT hg6).c3))
          go_roundw
          case rel =>
            refine ⟨i + 1, ax, cx, a6, c6, Bt, by go_num, by omega, ?_, fun h => absurd h (by omega), ?_⟩
            · rw [hVi, show min (i + 1) xn = xn by omega, show i + 1 - xn = m + 1 by omega, hT, hLX]
              exact h6
            · exact ((below_push (hb37.setCell (p := ⟨w1.heap.size, 0, none⟩) (Nat.le_refl _) _) (hG8.t.mono (Nat.le_of_succ_le hG8.b1)) hg6 (by have := hG8.blk.lt; omega)).setCell (p := ⟨w1.heap.size, 2, none⟩) (Nat.le_refl _) _)
          case measure => simp [intOf] <;> omega
    · have hin : i = xn + tn := by omega
      subst hin
      rw [show min (xn + tn) xn = xn by omega, show xn + tn - xn = tn by omega] at hG
      rw [show min (xn + tn) xn = xn by omega] at c1
      rw [show xn + tn - xn = tn by omega] at c2
      have hF0 := hR1.belowN (hb3.mono (Nat.le_refl _))
      obtain ⟨r0, r1, r2, r3, r4, r5⟩ := hF0.c3
      clear hat
      go_wp2
      have hF := ((hF0.set_ 0 (.int .u64 ((c.gradV xs ln (xn + tn)).toNat : Int))).set_ 1 (.slice ax xn cx)).set_ 2 (.slice at_ tn ct)
      have hq1 : w.heap.size + 1 + 1 < w1.heap.size + 1 := by omega
      have hq2 : w.heap.size + 1 + 1 < Bt := by have := hG.b1; omega
      have hq3 : w.heap.size ≤ w.heap.size + 1 + 1 := by omega
      refine bodyPost_ret (results_rowP rfl _ _ (w.heap.size + 1 + 1) _ #[.int .u64 ((c.gradV xs ln (xn + tn)).toNat : Int), .slice ax xn cx, .slice at_ tn ct] (0, 0) _ rfl hF Tryz.underlying56 rfl (by kernel_rfl)) rfl ⟨ax, cx, at_, ct, rfl, ?_, ?_, ?_⟩
      · exact (((hG.x.setCell (p := ⟨w.heap.size + 1 + 1, 0, none⟩) hq1 _).setCell (p := ⟨w.heap.size + 1 + 1, 1, none⟩) hq1 _).setCell (p := ⟨w.heap.size + 1 + 1, 2, none⟩) hq1 _).mono (by omega)
      · have hBt := hG.b1
        exact (((hG.t.setCell (p := ⟨w.heap.size + 1 + 1, 0, none⟩) hq2 _).setCell (p := ⟨w.heap.size + 1 + 1, 1, none⟩) hq2 _).setCell (p := ⟨w.heap.size + 1 + 1, 2, none⟩) hq2 _).mono (by omega)
      · exact (((hB1.trans (hb3.mono hz1)).setCell (p := ⟨w.heap.size + 1 + 1, 0, none⟩) hq3 _).setCell (p := ⟨w.heap.size + 1 + 1, 1, none⟩) hq3 _).setCell (p := ⟨w.heap.size + 1 + 1, 2, none⟩) hq3 _
set_option maxRecDepth 100000 in
set_option maxHeartbeats 3200000 in
theorem MGrad_bad (c : ChD) (xn tn : Nat) (hcx : c.x = (xn : Int)) (htn : tn = c.th.length) (hxl : xn ≤ 1000000) (htl : tn ≤ 1000000) (l : Int) (xa : Option Addr) (xc : Nat) (ta : Option Addr) (tc : Nat) (w : World) (ht : At w ta c.th)
    (hp : At w c.p.a c.p.l) (hpl : c.p.l.length ≤ 1000000) (hq : At w c.q.a c.q.l) (hql : c.q.l.length ≤ 1000000) (E : Int) (hE : c.mayM l = E) (h0 : E ≠ 0) :
    Calls Tryz.prog 25 #[.agg #[.int .i64 c.p.regs, .slice c.p.a c.p.l.length c.p.c], .agg #[.int .i64 c.q.regs, .slice c.q.a c.q.l.length c.q.c], .slice xa xn xc, .slice ta tn tc, .int .i64 l] w (GradOut 50 w.heap.size 0 [] [] E w) := by
  obtain ⟨hX, hY, hR, hb0, hz0⟩ := three_boxes w 24 24 56 #[.int .i64 c.p.regs, .slice c.p.a c.p.l.length c.p.c] #[.int .i64 c.q.regs, .slice c.q.a c.q.l.length c.q.c] #[.int .u64 0, .slice none 0 0, .slice none 0 0]
  obtain ⟨p0, p1, p2, p3⟩ := hX.c2
  obtain ⟨p4, p5, p6, p7⟩ := hY.c2
  have HM := hide (May24M_calls c ta tc l _ (hp.belowN hb0) hpl (hq.belowN hb0) hql (ht.belowN hb0) (by rw [hcx]; omega) (by omega) E hE)
  rw [← htn, hcx] at HM
  have e1 : (E == 0) = false := by simpa using h0
  have e2 : (E != 0) = true := by simpa using h0
  clear hE h0 hcx htn
  go_enter Tryz.func25, Tryz.ntmps25
  go_wp2_with (go_at_call 52; go_must ((with_reducible refine (HM.out).mono ?_); rintro e w1 ⟨rfl, hb1⟩; obtain ⟨r0, r1, r2, r3, r4, r5⟩ := (hR.belowN hb1).c3))
  have hB1 := hb0.trans (hb1.mono hb0.size)
  have hF := (((hR.belowN hb1).set_ 0 (.int .u64 0)).set_ 1 (.slice none 0 0)).set_ 2 (.slice none 0 0)
  have hq3 : w.heap.size ≤ w.heap.size + 1 + 1 := by omega
  refine bodyPost_ret (results_rowP rfl _ _ (w.heap.size + 1 + 1) _ #[.int .u64 0, .slice none 0 0, .slice none 0 0] (0, 0) _ rfl hF Tryz.underlying56 rfl (by kernel_rfl)) rfl ⟨none, 0, 0, none, 0, 0, rfl, rfl, rfl, Own.none _ _ _, Own.none _ _ _, ?_⟩
  exact ((hB1.setCell (p := ⟨w.heap.size + 1 + 1, 0, none⟩) hq3 _).setCell (p := ⟨w.heap.size + 1 + 1, 1, none⟩) hq3 _).setCell (p := ⟨w.heap.size + 1 + 1, 2, none⟩) hq3 _
theorem MGrad_calls (c : ChD) (xs : List UInt64) (xn tn : Nat) (hxn : xn = xs.length) (hcx : c.x = (xn : Int)) (htn : tn = c.th.length) (hxl : xn ≤ 1000000) (htl : tn ≤ 1000000) (l : Int) (xa : Option Addr) (xc : Nat) (ta : Option Addr) (tc : Nat) (w : World) (hx : At w xa xs) (ht : At w ta c.th)
    (hp : At w c.p.a c.p.l) (hpl : c.p.l.length ≤ 1000000) (hq : At w c.q.a c.q.l) (hql : c.q.l.length ≤ 1000000) :
    Calls Tryz.prog 25 #[.agg #[.int .i64 c.p.regs, .slice c.p.a c.p.l.length c.p.c], .agg #[.int .i64 c.q.regs, .slice c.q.a c.q.l.length c.q.c], .slice xa xn xc, .slice ta tn tc, .int .i64 l] w (GradOut 50 w.heap.size (c.gV xs l) (c.gX xs l) (c.gT xs l) (c.mayM l) w) := by
  by_cases h0 : c.mayM l = 0
  · obtain ⟨hc, l1, l2⟩ := ChD.mayM_ok h0
    obtain ⟨ln, rfl⟩ : ∃ n : Nat, l = n := ⟨l.toNat, by omega⟩
    unfold ChD.gV ChD.gX ChD.gT
    rw [if_pos h0, if_pos h0, if_pos h0, h0, Int.toNat_natCast, ← hxn, ← htn]
    refine (MGrad_good c hc xs xn tn ln hxn hcx htn (by omega) xa xc ta tc w hx ht hp hpl hq hql h0).mono ?_
    rintro e w' ⟨a1, c1, a2, c2, rfl, h1, h2, hb⟩
    exact ⟨a1, xn, c1, a2, tn, c2, rfl, (ChD.gradL_len _ _ _ _ _).symm, (ChD.gradL_len _ _ _ _ _).symm, h1, h2, hb⟩
  · unfold ChD.gV ChD.gX ChD.gT
    rw [if_neg h0, if_neg h0, if_neg h0]
    exact MGrad_bad c xn tn hcx htn hxl htl l xa xc ta tc w ht hp hpl hq hql _ rfl h0
end Go.Proofs.YtcamcnahkdiefaaGreat

/- Chapter 24: are two results alike. -/
namespace Go.Proofs.YtcamcnahkdiefaaGreat
set_option linter.unusedVariables false
set_option linter.unusedSimpArgs false
open Go.RowKit
set_option maxRecDepth 100000 in
set_option maxHeartbeats 3200000 in
theorem Same24_calls (V : UInt64) (X T : List UInt64) (a1 a2 b1 b2 : Option Addr) (n1 n2 m1 m2 c1 c2 d1 d2 : Nat) (hn1 : n1 = X.length) (hm1 : m1 = X.length) (hn2 : n2 = T.length) (hm2 : m2 = T.length) (w : World) (h1 : At w a1 X) (h2 : At w a2 T) (h3 : At w b1 X) (h4 : At w b2 T) (hl1 : n1 ≤ 1000000) (hl2 : n2 ≤ 1000000) :
    Calls Tryz.prog 27 #[.agg #[.int .u64 (V.toNat : Int), .slice a1 n1 c1, .slice a2 n2 c2], .agg #[.int .u64 (V.toNat : Int), .slice b1 m1 d1, .slice b2 m2 d2]] w fun e w' => e = .returned (.bool true) ∧ Below w.heap.size w w' := by
  obtain rfl : m1 = n1 := hm1.trans hn1.symm
  obtain rfl : m2 = n2 := hm2.trans hn2.symm
  obtain ⟨hX, hY, hb0, hz0⟩ := two_boxes w 56 56 #[.int .u64 (V.toNat : Int), .slice a1 m1 c1, .slice a2 m2 c2] #[.int .u64 (V.toNat : Int), .slice b1 m1 d1, .slice b2 m2 d2]
  obtain ⟨x0, x1, x2, x3, x4, x5⟩ := hX.c3
  obtain ⟨y0, y1, y2, y3, y4, y5⟩ := hY.c3
  have h1' := h1.belowN hb0
  have h2' := h2.belowN hb0
  have h3' := h3.belowN hb0
  have h4' := h4.belowN hb0
  have HN1 := hide hn1
  have HN2 := hide hn2
  clear hn1 hn2 hm1 hm2 h1 h2 h3 h4
  go_enter Tryz.func27, Tryz.ntmps27
  go_wp2
  have hbd : Below w.heap.size w (((w.alloc (.cells #[.int .u64 (V.toNat : Int), .slice a1 m1 c1, .slice a2 m2 c2] 56)).alloc (.cells #[.int .u64 (V.toNat : Int), .slice b1 m1 d1, .slice b2 m2 d2] 56))) := hb0
  go_loopw [5] (fun iv wr => ∃ i : Nat, iv = .int .i64 i ∧ i ≤ m1 ∧ Below ((w.alloc (.cells #[.int .u64 (V.toNat : Int), .slice a1 m1 c1, .slice a2 m2 c2] 56)).alloc (.cells #[.int .u64 (V.toNat : Int), .slice b1 m1 d1, .slice b2 m2 d2] 56)).heap.size ((w.alloc (.cells #[.int .u64 (V.toNat : Int), .slice a1 m1 c1, .slice a2 m2 c2] 56)).alloc (.cells #[.int .u64 (V.toNat : Int), .slice b1 m1 d1, .slice b2 m2 d2] 56)) wr) (fun iv _ => m1 - (intOf iv).toNat)
  case atStart => exact ⟨0, rfl, by omega, by first | exact Below.refl _ _ | exact Below.drew (Below.refl _ _)⟩
  case round =>
    obtain ⟨i, rfl, hi, hbr⟩ := hrel
    obtain ⟨x0, x1, x2, x3, x4, x5⟩ := (hX.belowN hbr).c3
    obtain ⟨y0, y1, y2, y3, y4, y5⟩ := (hY.belowN hbr).c3
    by_cases hlt : i < m1
    · obtain ⟨b, off, v, rfl, hv, u0⟩ := h1'.getU hbr (k := i) (by have := HN1.out; omega)
      obtain ⟨b', off', v', rfl, hv', u1⟩ := h3'.getU hbr (k := i) (by have := HN1.out; omega)
      obtain rfl : v' = v := Option.some.inj (hv'.out.symm.trans hv.out)
      clear hv hv'
      go_wp2
      go_region
      go_wp2
      go_roundw
      case rel => exact ⟨i + 1, by go_num, by omega, by first | exact hbr | exact hbr.drew⟩
      case measure => simp [intOf] <;> omega
    · have hin : m1 = i := by omega
      subst hin
      have hb2 := hb0.trans (hbr.mono hb0.size)
      have hX2 := hX.belowN hbr
      have hY2 := hY.belowN hbr
      have h22 := h2'.belowN hbr
      have h42 := h4'.belowN hbr
      obtain ⟨w2, rfl⟩ : ∃ w2 : World, w2 = wr := ⟨_, rfl⟩
      clear hbr hbd h2' h4' h1' h3'
      go_wp2
      go_loopw [6] (fun iv wr => ∃ j : Nat, iv = .int .i64 j ∧ j ≤ m2 ∧ Below w2.heap.size w2 wr) (fun iv _ => m2 - (intOf iv).toNat)
      case atStart => exact ⟨0, rfl, by omega, by first | exact Below.refl _ _ | exact Below.drew (Below.refl _ _)⟩
      case round =>
        obtain ⟨j, rfl, hj, hbr⟩ := hrel
        obtain ⟨x0, x1, x2, x3, x4, x5⟩ := (hX2.belowN hbr).c3
        obtain ⟨y0, y1, y2, y3, y4, y5⟩ := (hY2.belowN hbr).c3
        by_cases hlt : j < m2
        · obtain ⟨b, off, v, rfl, hv, u0⟩ := h22.getU hbr (k := j) (by have := HN2.out; omega)
          obtain ⟨b', off', v', rfl, hv', u1⟩ := h42.getU hbr (k := j) (by have := HN2.out; omega)
          obtain rfl : v' = v := Option.some.inj (hv'.out.symm.trans hv.out)
          clear hv hv'
          go_wp2
          go_region
          go_wp2
          go_roundw
          case rel => exact ⟨j + 1, by go_num, by omega, by first | exact hbr | exact hbr.drew⟩
          case measure => simp [intOf] <;> omega
        · have hin : m2 = j := by omega
          subst hin
          go_wp2
          go_ret
          exact ⟨rfl, hb2.trans (hbr.mono hb2.size)⟩
end Go.Proofs.YtcamcnahkdiefaaGreat

/- The library's sort and reverse of strings: which of this program's functions and types they come to (printed by a program). -/
namespace Go.Proofs.YtcamcnahkdiefaaGreat
set_option linter.unusedVariables false
set_option maxRecDepth 100000
def lays190_ren : Go.Shelf.Ren := ⟨fun | 190 => 120 | 125 => 155 | 258 => 154 | 128 => 180 | 129 => 181 | 302 => 171 | 303 => 172 | 304 => 173 | 305 => 174 | 306 => 175 | 307 => 176 | 308 => 177 | 309 => 178 | 310 => 179 | 333 => 189 | 329 => 190 | 330 => 191 | 334 => 192 | 335 => 193 | 336 => 194 | 344 => 203 | n => n, fun | 31 => 196 | 9 => 9 | 3 => 3 | 46 => 193 | 0 => 0 | 51 => 266 | 53 => 50 | 4 => 4 | 183 => 259 | 182 => 258 | 131 => 229 | 5 => 5 | 218 => 271 | 222 => 275 | 228 => 282 | 229 => 107 | n => n, fun | n => n⟩
theorem lays190 : Go.Proofs.Lays.n190 Tryz.prog lays190_ren where
  mixed := by kernel_rfl
  f125 := Tryz.func155.trans (congrArg some (by kernel_rfl))
  f128 := Tryz.func180.trans (congrArg some (by kernel_rfl))
  f129 := Tryz.func181.trans (congrArg some (by kernel_rfl))
  f190 := Tryz.func120.trans (congrArg some (by kernel_rfl))
  f258 := Tryz.func154.trans (congrArg some (by kernel_rfl))
  f302 := Tryz.func171.trans (congrArg some (by kernel_rfl))
  f303 := Tryz.func172.trans (congrArg some (by kernel_rfl))
  f304 := Tryz.func173.trans (congrArg some (by kernel_rfl))
  f305 := Tryz.func174.trans (congrArg some (by kernel_rfl))
  f306 := Tryz.func175.trans (congrArg some (by kernel_rfl))
  f307 := Tryz.func176.trans (congrArg some (by kernel_rfl))
  f308 := Tryz.func177.trans (congrArg some (by kernel_rfl))
  f309 := Tryz.func178.trans (congrArg some (by kernel_rfl))
  f310 := Tryz.func179.trans (congrArg some (by kernel_rfl))
  f329 := Tryz.func190.trans (congrArg some (by kernel_rfl))
  f330 := Tryz.func191.trans (congrArg some (by kernel_rfl))
  f333 := Tryz.func189.trans (congrArg some (by kernel_rfl))
  f334 := Tryz.func192.trans (congrArg some (by kernel_rfl))
  f335 := Tryz.func193.trans (congrArg some (by kernel_rfl))
  f336 := Tryz.func194.trans (congrArg some (by kernel_rfl))
  f344 := Tryz.func203.trans (congrArg some (by kernel_rfl))
  t0 := Tryz.underlying0
  a0 := Tryz.isAgg0
  z0 := Tryz.sizeOf0
  v0 := Tryz.zeroValue0
  t3 := Tryz.underlying3
  a3 := Tryz.isAgg3
  z3 := Tryz.sizeOf3
  v3 := Tryz.zeroValue3
  t4 := Tryz.underlying4
  a4 := Tryz.isAgg4
  z4 := Tryz.sizeOf4
  v4 := Tryz.zeroValue4
  t5 := Tryz.underlying5
  a5 := Tryz.isAgg5
  z5 := Tryz.sizeOf5
  v5 := Tryz.zeroValue5
  t9 := Tryz.underlying9
  a9 := Tryz.isAgg9
  z9 := Tryz.sizeOf9
  v9 := Tryz.zeroValue9
  t31 := Tryz.underlying196
  a31 := Tryz.isAgg196
  z31 := Tryz.sizeOf196
  v31 := Tryz.zeroValue196
  t46 := Tryz.underlying193
  a46 := Tryz.isAgg193
  z46 := Tryz.sizeOf193
  v46 := Tryz.zeroValue193
  t51 := Tryz.underlying266
  a51 := Tryz.isAgg266
  z51 := Tryz.sizeOf266
  v51 := Tryz.zeroValue266
  t53 := Tryz.underlying50
  a53 := Tryz.isAgg50
  z53 := Tryz.sizeOf50
  v53 := Tryz.zeroValue50
  t131 := Tryz.underlying229
  a131 := Tryz.isAgg229
  z131 := Tryz.sizeOf229
  v131 := Tryz.zeroValue229
  t182 := Tryz.underlying258
  a182 := Tryz.isAgg258
  z182 := Tryz.sizeOf258
  v182 := Tryz.zeroValue258
  t183 := Tryz.underlying259
  a183 := Tryz.isAgg259
  z183 := Tryz.sizeOf259
  v183 := Tryz.zeroValue259
  t218 := Tryz.underlying271
  a218 := Tryz.isAgg271
  z218 := Tryz.sizeOf271
  v218 := Tryz.zeroValue271
  t222 := Tryz.underlying275
  a222 := Tryz.isAgg275
  z222 := Tryz.sizeOf275
  v222 := Tryz.zeroValue275
  t228 := Tryz.underlying282
  a228 := Tryz.isAgg282
  z228 := Tryz.sizeOf282
  v228 := Tryz.zeroValue282
  t229 := Tryz.underlying107
  a229 := Tryz.isAgg107
  z229 := Tryz.sizeOf107
  v229 := Tryz.zeroValue107
def lays17_ren : Go.Shelf.Ren := ⟨fun | 17 => 121 | n => n, fun | 24 => 196 | 9 => 9 | 3 => 3 | 4 => 4 | 0 => 0 | n => n, fun | n => n⟩
theorem lays17 : Go.Proofs.Lays2.n17 Tryz.prog lays17_ren where
  mixed := by kernel_rfl
  f17 := Tryz.func121.trans (congrArg some (by kernel_rfl))
  t0 := Tryz.underlying0
  a0 := Tryz.isAgg0
  z0 := Tryz.sizeOf0
  v0 := Tryz.zeroValue0
  t3 := Tryz.underlying3
  a3 := Tryz.isAgg3
  z3 := Tryz.sizeOf3
  v3 := Tryz.zeroValue3
  t4 := Tryz.underlying4
  a4 := Tryz.isAgg4
  z4 := Tryz.sizeOf4
  v4 := Tryz.zeroValue4
  t9 := Tryz.underlying9
  a9 := Tryz.isAgg9
  z9 := Tryz.sizeOf9
  v9 := Tryz.zeroValue9
  t24 := Tryz.underlying196
  a24 := Tryz.isAgg196
  z24 := Tryz.sizeOf196
  v24 := Tryz.zeroValue196
end Go.Proofs.YtcamcnahkdiefaaGreat
