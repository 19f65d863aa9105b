/- Chapter 23: adjoints of a step and of a loss: parts, PullStep, PullLoss. -/
import Derived.Test.YtmmepffdjmpblaaGreatQu
import Derived.Test.YtmmepffdjmpblaaGreatS22d
namespace Go.Proofs.YtmmepffdjmpblaaGreat
set_option linter.unusedVariables false
set_option linter.unusedSimpArgs false
open Go.RowKit
noncomputable def ChD.pstep (c : ChD) (t : Int) (xs adj : List UInt64) : List UInt64 := pullA c.p.regs c.p.l (c.beg t xs) adj
noncomputable def ChD.ploss (c : ChD) (xs : List UInt64) : List UInt64 := pullA c.q.regs c.q.l (xs ++ c.th) [1]
def ChD.pse (c : ChD) (t : Int) (n m : Nat) : Int := if c.may t n ≠ 0 then c.may t n else if (m : Int) ≠ c.x then 10 else 0
theorem ChD.pstep_run {c : ChD} (hc : c.Ok) {t : Int} {xs adj : List UInt64} (hx : (xs.length : Int) = c.x) (ha : (adj.length : Int) = c.x) : pullE c.p.regs c.p.l (c.beg t xs).length adj.length = 0 ∧ (c.pstep t xs adj).length = c.p.regs.toNat := by
  obtain ⟨f, hf, g⟩ := hc.hp
  have h1 := hc.r1
  have h2 := hc.x1
  have hl : ((c.beg t xs).length : Int) ≤ c.p.regs := by unfold ChD.beg; simp; omega
  have hl2 : (adj.length : Int) ≤ c.p.regs := by omega
  unfold ChD.pstep
  rw [hf]
  refine ⟨pull_of_good g hl hl2, ?_⟩
  rw [pullA_good g hl hl2, backA_length, startR_length _ _ (by omega)]
theorem ChD.ploss_run {c : ChD} (hc : c.Ok) {xs : List UInt64} (hx : (xs.length : Int) = c.x) : pullE c.q.regs c.q.l (xs ++ c.th).length 1 = 0 ∧ (c.ploss xs).length = c.q.regs.toNat := by
  obtain ⟨f, hf, g⟩ := hc.hq
  have h1 := hc.r2
  have h2 := hc.x1
  have hl : ((xs ++ c.th).length : Int) ≤ c.q.regs := by simp; omega
  have hl2 : (([1] : List UInt64).length : Int) ≤ c.q.regs := by simp; omega
  unfold ChD.ploss
  rw [hf]
  refine ⟨pull_of_good g hl hl2, ?_⟩
  rw [pullA_good g hl hl2, backA_length, startR_length _ _ (by omega)]
/-- the parts handed out -/
def PartsOut (R : List UInt64) (n tn : Nat) (E : Int) (w : World) (e : Ending) (w' : World) : Prop :=
  ∃ a1 k1 a2 k2, e = .returned (.tuple #[.slice a1 n k1, .slice a2 tn k2, .int .i64 E]) ∧ At w' a1 (R.take n) ∧ At w' a2 ((R.drop n).take tn) ∧ Below w.heap.size w w'
set_option maxRecDepth 100000 in
set_option maxHeartbeats 3200000 in
theorem parts_calls (g : Nat) (c : ChD) (n tn : Nat) (hx : (n : Int) = c.x) (htn : tn = c.th.length) (a : Option Addr) (rn rc : Nat) (R : List UInt64) (hrn : rn = R.length) (hrc : rn ≤ rc) (hrc2 : rc ≤ 9223372036854775807) (hle : n + tn ≤ rn) (hp : 0 < n) (hrl : rn ≤ 1000000) (w : World) (h : ChAt w g c) (hat : At w a R) :
    Calls Tryz.prog 22 #[.pointer (some ⟨g, 0, none⟩), .slice a rn rc] w fun e w' => ∃ a1 k1 a2 k2, e = .returned (.tuple #[.slice a1 n k1, .slice a2 tn k2]) ∧ At w' a1 (R.take n) ∧ At w' a2 ((R.drop n).take tn) ∧ Below w.heap.size w w' := by
  obtain ⟨pa, qa, ta, pc, qc, tc, h0, h1, h2, h3, h4⟩ := h
  rw [← htn, ← hx] at h0
  have f4 := h0.cell_ (i := 4) (v := .int .i64 (n : Int)) rfl
  have f5 := h0.cell_ (i := 5) (v := .slice ta tn tc) rfl
  obtain ⟨b, off, y, rfl, hy, y0⟩ := hat.getU (Below.refl _ _) (k := 0) (by omega)
  have HT := hide (show n = (R.take n).length by rw [List.length_take]; omega)
  have HD := hide (show tn = ((R.drop n).take tn).length by rw [List.length_take, List.length_drop]; omega)
  have hatT := hat.take n
  have hatD : At w (cutA (some ⟨b, off, none⟩) n rc 1) ((R.drop n).take tn) := (hat.cut (k := n) (c := rc) (by omega)).take tn
  have i1 : (0 : Int) ≤ (n : Int) := by omega
  have i2 : (n : Int) ≤ (rc : Int) := by omega
  have i3 : (n : Int) ≤ (n : Int) + (tn : Int) := by omega
  have i4 : (n : Int) + (tn : Int) ≤ (rc : Int) := by omega
  have i5 : (0 : Int) ≤ (n : Int) + (tn : Int) := by omega
  have i6 : IntKind.i64.wrap ((n : Int) + (tn : Int)) = (n : Int) + (tn : Int) := IntWalk.i64_in _ (by omega)
  have i7 : ((n : Int) + (tn : Int)).toNat - n = tn := by omega
  clear hy y0 hx htn hrn
  go_enter Tryz.func22, Tryz.ntmps22
  go_wp2
  go_quiet (fail)
  go_wp2
  have hw9 : Below w.heap.size w (w.drewN nq) := below_drawn _ _ _
  have hB : Below (w.drewN nq).heap.size (w.drewN nq) (w.drewN (nq + 1)) := Below.drew (Below.refl (w.drewN nq).heap.size (w.drewN nq))
  have HC1 := hide (fun (W : World) (hb : Below (w.drewN nq).heap.size (w.drewN nq) W) => CloneU_calls (some ⟨b, off, none⟩) n rc (R.take n) W HT.out ((hatT.belowN hw9).belowN hb) (by omega))
  have HC2 := hide (fun (W : World) (hb : Below (w.drewN nq).heap.size (w.drewN nq) W) => CloneU_calls (cutA (some ⟨b, off, none⟩) n rc 1) tn (rc - n) ((R.drop n).take tn) W HD.out ((hatD.belowN hw9).belowN hb) (by omega))
  have h9 := h0.belowN hw9
  go_region_held3 (fun w' => w'.cell? ⟨g, 4, none⟩ = some (.int .i64 (n : Int))) (go_keep)
    (first
      | (go_at_call 33; (with_reducible refine (HC1.out _ hB).mono ?_); rintro e wx ⟨a3, c3, rfl, hoX, hb⟩; have hB := hB.trans (hb.mono hB.size); (try have hoT := hoT.belowN hb); have m4 := (h9.belowN hB).cell_ (i := 4) (v := .int .i64 (n : Int)) rfl)
      | (go_at_call 33; go_must ((with_reducible refine (HC2.out _ hB).mono ?_); rintro e wx ⟨a4, c4, rfl, hoT, hb⟩; have hB := hB.trans (hb.mono hB.size); (try have hoX := hoX.belowN hb); have m4 := (h9.belowN hB).cell_ (i := 4) (v := .int .i64 (n : Int)) rfl)))
  have hB4 := hw9.trans (hB.mono hw9.size)
  go_wp2
  go_ret2
  exact ⟨a3, c3, a4, c4, rfl, hoX.at_, hoT.at_, hB4⟩
theorem PullStepMay_calls (g : Nat) (c : ChD) (t : Int) (a : Option Addr) (n k : Nat) (aa : Option Addr) (m ka : Nat) (w : World) (h : ChAt w g c) (hn : n ≤ 1000000) (E : Int) (hE : c.may t n = E) (h0 : E ≠ 0) :
    Calls Tryz.prog 7 #[.pointer (some ⟨g, 0, none⟩), .int .i64 t, .slice a n k, .slice aa m ka] w fun e w' => e = .returned (.tuple #[.slice none 0 0, .slice none 0 0, .int .i64 E]) ∧ w = w' := by
  have HM := hide (May_calls g c t a n k w h hn E hE)
  have e1 : (E == 0) = false := by simpa using h0
  have e2 : (E != 0) = true := by simpa using h0
  clear h0 hE
  go_enter Tryz.func7, Tryz.ntmps7
  go_wp2_with (go_at_call 19; go_must ((with_reducible refine (HM.out).mono ?_); rintro e w1 ⟨rfl, rfl⟩))
  go_ret3
  exact ⟨rfl, rfl⟩
theorem PullStepDim_calls (g : Nat) (c : ChD) (t : Int) (a : Option Addr) (n k : Nat) (aa : Option Addr) (m ka : Nat) (w : World) (h : ChAt w g c) (hn : n ≤ 1000000) (hm : m ≤ 1000000) (hE : c.may t n = 0) (h0 : (m : Int) ≠ c.x) :
    Calls Tryz.prog 7 #[.pointer (some ⟨g, 0, none⟩), .int .i64 t, .slice a n k, .slice aa m ka] w fun e w' => e = .returned (.tuple #[.slice none 0 0, .slice none 0 0, .int .i64 10]) ∧ w = w' := by
  have HM := hide (May_calls g c t a n k w h hn 0 hE)
  have e1 : ((m : Int) == c.x) = false := by simpa using h0
  have e2 : ((m : Int) != c.x) = true := by simpa using h0
  obtain ⟨pa, qa, ta, pc, qc, tc, h0', h1, h2, h3, h4⟩ := h
  have f4 := h0'.cell_ (i := 4) (v := .int .i64 c.x) rfl
  clear h0 hE
  go_enter Tryz.func7, Tryz.ntmps7
  go_wp2_with (go_at_call 19; go_must ((with_reducible refine (HM.out).mono ?_); rintro e w1 ⟨rfl, rfl⟩))
  go_ret3
  exact ⟨rfl, rfl⟩
set_option maxRecDepth 100000 in
set_option maxHeartbeats 3200000 in
theorem PullStepGood_calls (g : Nat) (c : ChD) (hc : c.Ok) (v : UInt64) (a : Option Addr) (n k : Nat) (xs : List UInt64) (aa : Option Addr) (m ka : Nat) (adj : List UInt64) (w : World) (h : ChAt w g c) (hat : At w a xs) (hn : n = xs.length) (hnk : n ≤ k) (hx : (n : Int) = c.x) (hata : At w aa adj) (hm : m = adj.length) (hmx : (m : Int) = c.x) (hv : v.toNat < 65536) (R : List UInt64) (hR : c.pstep (v.toNat : Int) xs adj = R) (tn : Nat) (htn : tn = c.th.length) :
    Calls Tryz.prog 7 #[.pointer (some ⟨g, 0, none⟩), .int .i64 (v.toNat : Int), .slice a n k, .slice aa m ka] w (PartsOut R n tn 0 w) := by
  have hmay : c.may (v.toNat : Int) n = 0 := by unfold ChD.may; rw [if_neg (by omega), if_neg (by simpa using hx)]
  have hx2 := hc.x2
  have hx1 := hc.x1
  have ht2 := hc.t2
  have hr1 := hc.r1
  have hch := h
  have HM := hide (May_calls g c (v.toNat : Int) a n k w h (by omega) 0 hmay)
  obtain ⟨d1, d2⟩ := ChD.pstep_run hc (t := (v.toNat : Int)) (xs := xs) (adj := adj) (by rw [← hn]; exact hx) (by rw [← hm]; exact hmx)
  have hb : c.beg (v.toNat : Int) xs = [xs, c.th, [v]].flatten := by
    unfold ChD.beg
    rw [Int.toNat_natCast, UInt64.ofNat_toNat]
    simp
  rw [hR] at d2
  unfold ChD.pstep at hR
  rw [hb] at d1 hR
  obtain ⟨pa, qa, ta, pc, qc, tc, h0, h1, h2, h3, h4⟩ := h
  have hpl : c.p.l.length ≤ 1000000 := by
    obtain ⟨f, hf, g⟩ := hc.hp
    rw [hf]; have := g.len; unfold Fo.size at this; omega
  have hreg : c.p.regs ≤ 64 := by obtain ⟨f, hf, g⟩ := hc.hp; exact g.r2
  obtain ⟨pl, hpln⟩ : ∃ pl, c.p.l.length = pl := ⟨_, rfl⟩
  have hwr : IntKind.u64.wrap (v.toNat : Int) = (v.toNat : Int) := IntWalk.u64_in _ (by omega)
  have hpl2 : pl ≤ 1000000 := by rw [← hpln]; exact hpl
  have htn64 : tn ≤ 64 := by rw [htn]; exact ht2
  have hn64 : n ≤ 64 := by omega
  have hm64 : m ≤ 64 := by omega
  have hfl : ([xs, c.th, [v]].flatten : List UInt64).length = n + tn + 1 := by simp; omega
  obtain ⟨L, hL⟩ : ∃ L, L = ([xs, c.th, [v]].flatten : List UInt64) := ⟨_, rfl⟩
  rw [← hL] at d1 hR hfl
  rw [hfl] at d1
  rw [← hm] at d1
  have hRl : n + tn ≤ R.length := by omega
  have HL := hide hL
  have HPL := hide hpln.symm
  have HFL := hide hfl.symm
  have HR := hide hR
  have HD := hide d1
  have HMM := hide hm
  have hN1 : Below w.heap.size w (w.alloc (.cells #[.int .u64 (v.toNat : Int)] 50)) := (Below.refl _ _).alloc (Nat.le_refl _) _
  have hN : Below w.heap.size w ((w.alloc (.cells #[.int .u64 (v.toNat : Int)] 50)).alloc (.cells #[.slice a n k, .slice ta tn tc, .slice (some ⟨w.heap.size, 0, none⟩) 1 1] 25)).drew := (hN1.alloc (by simp) _).drew
  have hBk := Blk.new (w.alloc (.cells #[.int .u64 (v.toNat : Int)] 50)) 25 #[.slice a n k, .slice ta tn tc, .slice (some ⟨w.heap.size, 0, none⟩) 1 1]
  have hv1 : At ((w.alloc (.cells #[.int .u64 (v.toNat : Int)] 50)).alloc (.cells #[.slice a n k, .slice ta tn tc, .slice (some ⟨w.heap.size, 0, none⟩) 1 1] 25)).drew (some ⟨w.heap.size, 0, none⟩) [v] :=
    At.ofBlk (((Blk.new w 50 #[.int .u64 (v.toNat : Int)]).alloc _).belowN (Below.drew (Below.refl _ _))) [v] rfl
  have hAL : AtL ((w.alloc (.cells #[.int .u64 (v.toNat : Int)] 50)).alloc (.cells #[.slice a n k, .slice ta tn tc, .slice (some ⟨w.heap.size, 0, none⟩) 1 1] 25)).drew (some ⟨w.heap.size + 1, 0, none⟩) [xs, c.th, [v]] := by
    have hBk2 : Blk ((w.alloc (.cells #[.int .u64 (v.toNat : Int)] 50)).alloc (.cells #[.slice a n k, .slice ta tn tc, .slice (some ⟨w.heap.size, 0, none⟩) 1 1] 25)).drew (w.heap.size + 1) 25 #[.slice a n k, .slice ta tn tc, .slice (some ⟨w.heap.size, 0, none⟩) 1 1] := by have := hBk.belowN (Below.drew (Below.refl _ _)); simpa using this
    refine AtL.ofBlk [⟨a, n, k⟩, ⟨ta, tn, tc⟩, ⟨some ⟨w.heap.size, 0, none⟩, 1, 1⟩] _ hBk2 rfl rfl fun i hd l e1 e2 => ?_
    match i, e1, e2 with
    | 0, e1, e2 => simp at e1 e2; subst e1 e2; exact ⟨hn, by show xs.length ≤ k; omega, hat.belowN hN⟩
    | 1, e1, e2 => simp at e1 e2; subst e1 e2; exact ⟨htn, by show c.th.length ≤ tc; omega, h3.belowN hN⟩
    | 2, e1, e2 => simp at e1 e2; subst e1 e2; exact ⟨rfl, by show 1 ≤ 1; omega, hv1⟩
    | j + 3, e1, e2 => simp at e1
  rw [← htn, hpln] at h0
  have f0 := h0.cell_ (i := 0) (v := .int .i64 c.p.regs) rfl
  have f1 := h0.cell_ (i := 1) (v := .slice pa pl pc) rfl
  have f4 := h0.cell_ (i := 4) (v := .int .i64 c.x) rfl
  have f5 := h0.cell_ (i := 5) (v := .slice ta tn tc) rfl
  have e1 : ((m : Int) == c.x) = true := by simpa using hmx
  have e2 : ((m : Int) != c.x) = false := by simpa using hmx
  have hgl := h0.lt
  have HPP := hide (fun (p : Option Addr) (rn rc : Nat) (hrn : rn = R.length) (h1 : rn ≤ rc) (h2 : rc ≤ 9223372036854775807) (h3 : n + tn ≤ rn) (h4 : rn ≤ 1000000) (W : World) (k1 : ChAt W g c) (k2 : At W p R) => parts_calls g c n tn hx htn p rn rc R hrn h1 h2 h3 (by omega) h4 W k1 k2)
  have hRl64 : R.length ≤ 64 := by omega
  clear hn hR hb hL hmay hN1 hBk hv1 hpln hfl d1 d2 hm hmx hx htn
  go_enter Tryz.func7, Tryz.ntmps7
  go_wp2_with (go_at_call 19; go_must ((with_reducible refine (HM.out).mono ?_); rintro e w1 ⟨rfl, rfl⟩))
  go_region_held3 (fun w' => w'.cell? ⟨g, 0, none⟩ = some (.int .i64 c.p.regs) ∧ w'.cell? ⟨g, 1, none⟩ = some (.slice pa pl pc) ∧ w'.cell? ⟨g, 5, none⟩ = some (.slice ta tn tc)) (go_keep)
    (first
      | (go_at_call 21; (try simp only [hwr]); go_must (refine (Concat_calls _ _ 3 [xs, c.th, [v]] _ rfl hAL (by omega) (by rw [← HL.out, ← HFL.out]; omega) (n + tn + 1) (by rw [← HL.out, ← HFL.out])).mono ?_; rw [← HL.out]; rintro e w3 ⟨a3, c3, rfl, hown3, hb3⟩; have hB3 := hN.trans (hb3.mono hN.size); have hz3 := hB3.size; have hg3 := h0.belowN hB3; have m0 := hg3.cell_ (i := 0) (v := .int .i64 c.p.regs) rfl; have m1 := hg3.cell_ (i := 1) (v := .slice pa pl pc) rfl; have m5 := hg3.cell_ (i := 5) (v := .slice ta tn tc) rfl))
      | (go_at_call 20; go_must (refine (Pull_calls c.p.regs pa pc pl c.p.l HPL.out a3 (n + tn + 1) c3 L HFL.out aa m ka adj HMM.out R 0 HR.out HD.out w3 (h1.belowN hB3) hpl2 hown3.at_ (hata.belowN hB3) (by omega) (by omega)).mono ?_; rintro e w4 ⟨a4, c4, rfl, hown4, hb4⟩; have hB4 := hB3.trans (hb4.mono hz3); have hz4 := hB4.size; have hg4 := h0.belowN hB4; have l0 := hg4.cell_ (i := 0) (v := .int .i64 c.p.regs) rfl; have l1 := hg4.cell_ (i := 1) (v := .slice pa pl pc) rfl; have l5 := hg4.cell_ (i := 5) (v := .slice ta tn tc) rfl)))
  have hcap := hown4.cap
  have c3' : c4 ≤ 9223372036854775807 := Nat.le_trans hcap.2 (by decide)
  go_wp2_with (go_at_call 22; go_must ((with_reducible refine (HPP.out a4 _ c4 rfl hcap.1 c3' hRl (by omega) _ (hch.belowN hB4) hown4.at_).mono ?_); rintro e w5 ⟨a5, k5, a6, k6, rfl, hA5, hA6, hb5⟩; have hB5 := hB4.trans (hb5.mono hz4)))
  go_ret3
  exact ⟨a5, k5, a6, k6, rfl, hA5, hA6, hB5⟩
theorem PullLossBad_calls (g : Nat) (c : ChD) (a : Option Addr) (n k : Nat) (w : World) (h : ChAt w g c) (hn : n ≤ 1000000) (E : Int) (hE : c.may 0 n = E) (h0 : E ≠ 0) :
    Calls Tryz.prog 9 #[.pointer (some ⟨g, 0, none⟩), .slice a n k] w fun e w' => e = .returned (.tuple #[.slice none 0 0, .slice none 0 0, .int .i64 E]) ∧ w = w' := by
  have HM := hide (May_calls g c 0 a n k w h hn E hE)
  have e1 : (E == 0) = false := by simpa using h0
  have e2 : (E != 0) = true := by simpa using h0
  clear h0 hE
  go_enter Tryz.func9, Tryz.ntmps9
  go_wp2_with (go_at_call 19; go_must ((with_reducible refine (HM.out).mono ?_); rintro e w1 ⟨rfl, rfl⟩))
  go_ret3
  exact ⟨rfl, rfl⟩
set_option maxRecDepth 100000 in
set_option maxHeartbeats 3200000 in
theorem PullLossGood_calls (g : Nat) (c : ChD) (hc : c.Ok) (a : Option Addr) (n k : Nat) (xs : List UInt64) (w : World) (h : ChAt w g c) (hat : At w a xs) (hn : n = xs.length) (hnk : n ≤ k) (hx : (n : Int) = c.x) (R : List UInt64) (hR : c.ploss xs = R) (tn : Nat) (htn : tn = c.th.length) :
    Calls Tryz.prog 9 #[.pointer (some ⟨g, 0, none⟩), .slice a n k] w (PartsOut R n tn 0 w) := by
  have hmay : c.may 0 n = 0 := by unfold ChD.may; rw [if_neg (by omega), if_neg (by simpa using hx)]
  have hx2 := hc.x2
  have hx1 := hc.x1
  have ht2 := hc.t2
  have hr1 := hc.r2
  have hch := h
  have HM := hide (May_calls g c 0 a n k w h (by omega) 0 hmay)
  obtain ⟨d1, d2⟩ := ChD.ploss_run hc (xs := xs) (by rw [← hn]; exact hx)
  have hb : xs ++ c.th = [xs, c.th].flatten := by simp
  rw [hR] at d2
  unfold ChD.ploss at hR
  rw [hb] at d1 hR
  obtain ⟨pa, qa, ta, pc, qc, tc, h0, h1, h2, h3, h4⟩ := h
  have hpl : c.q.l.length ≤ 1000000 := by
    obtain ⟨f, hf, g⟩ := hc.hq
    rw [hf]; have := g.len; unfold Fo.size at this; omega
  have hreg : c.q.regs ≤ 64 := by obtain ⟨f, hf, g⟩ := hc.hq; exact g.r2
  obtain ⟨pl, hpln⟩ : ∃ pl, c.q.l.length = pl := ⟨_, rfl⟩
  have hpl2 : pl ≤ 1000000 := by rw [← hpln]; exact hpl
  have htn64 : tn ≤ 64 := by rw [htn]; exact ht2
  have hn64 : n ≤ 64 := by omega
  have hfl : ([xs, c.th].flatten : List UInt64).length = n + tn := by simp; omega
  obtain ⟨L, hL⟩ : ∃ L, L = ([xs, c.th].flatten : List UInt64) := ⟨_, rfl⟩
  rw [← hL] at d1 hR hfl
  rw [hfl] at d1
  have hRl : n + tn ≤ R.length := by omega
  have HL := hide hL
  have HPL := hide hpln.symm
  have HFL := hide hfl.symm
  have HR := hide hR
  have HD := hide d1
  have hN : Below w.heap.size w (w.alloc (.cells #[.slice a n k, .slice ta tn tc] 25)).drew := ((Below.refl _ _).alloc (Nat.le_refl _) _).drew
  have hBk := Blk.new w 25 #[.slice a n k, .slice ta tn tc]
  have hAL : AtL (w.alloc (.cells #[.slice a n k, .slice ta tn tc] 25)).drew (some ⟨w.heap.size, 0, none⟩) [xs, c.th] := by
    have hBk2 := hBk.belowN (Below.drew (Below.refl _ _))
    refine AtL.ofBlk [⟨a, n, k⟩, ⟨ta, tn, tc⟩] _ hBk2 rfl rfl fun i hd l e1 e2 => ?_
    match i, e1, e2 with
    | 0, e1, e2 => simp at e1 e2; subst e1 e2; exact ⟨hn, by show xs.length ≤ k; omega, hat.belowN hN⟩
    | 1, e1, e2 => simp at e1 e2; subst e1 e2; exact ⟨htn, by show c.th.length ≤ tc; omega, h3.belowN hN⟩
    | j + 2, e1, e2 => simp at e1
  -- the box of the weight comes first
  have hM : Below w.heap.size w ((w.alloc (.cells #[.int .u64 1] 50)).alloc (.cells #[.slice a n k, .slice ta tn tc] 25)).drew := (((Below.refl _ _).alloc (Nat.le_refl _) _).alloc (by simp) _).drew
  have hM2 : Below w.heap.size w ((w.alloc (.cells #[.slice a n k, .slice ta tn tc] 25)).alloc (.cells #[.int .u64 1] 50)).drew := (((Below.refl _ _).alloc (Nat.le_refl _) _).alloc (by simp) _).drew
  have hAM : AtL ((w.alloc (.cells #[.int .u64 1] 50)).alloc (.cells #[.slice a n k, .slice ta tn tc] 25)).drew (some ⟨w.heap.size + 1, 0, none⟩) [xs, c.th] := by
    have hBk2 : Blk ((w.alloc (.cells #[.int .u64 1] 50)).alloc (.cells #[.slice a n k, .slice ta tn tc] 25)).drew (w.heap.size + 1) 25 #[.slice a n k, .slice ta tn tc] := by
      have := (Blk.new (w.alloc (.cells #[.int .u64 1] 50)) 25 #[.slice a n k, .slice ta tn tc]).belowN (Below.drew (Below.refl _ _)); simpa using this
    refine AtL.ofBlk [⟨a, n, k⟩, ⟨ta, tn, tc⟩] _ hBk2 rfl rfl fun i hd l e1 e2 => ?_
    match i, e1, e2 with
    | 0, e1, e2 => simp at e1 e2; subst e1 e2; exact ⟨hn, by show xs.length ≤ k; omega, hat.belowN hM⟩
    | 1, e1, e2 => simp at e1 e2; subst e1 e2; exact ⟨htn, by show c.th.length ≤ tc; omega, h3.belowN hM⟩
    | j + 2, e1, e2 => simp at e1
  have hAM2 : AtL ((w.alloc (.cells #[.slice a n k, .slice ta tn tc] 25)).alloc (.cells #[.int .u64 1] 50)).drew (some ⟨w.heap.size, 0, none⟩) [xs, c.th] := by
    have hBk2 : Blk ((w.alloc (.cells #[.slice a n k, .slice ta tn tc] 25)).alloc (.cells #[.int .u64 1] 50)).drew w.heap.size 25 #[.slice a n k, .slice ta tn tc] := (hBk.alloc _).belowN (Below.drew (Below.refl _ _))
    refine AtL.ofBlk [⟨a, n, k⟩, ⟨ta, tn, tc⟩] _ hBk2 rfl rfl fun i hd l e1 e2 => ?_
    match i, e1, e2 with
    | 0, e1, e2 => simp at e1 e2; subst e1 e2; exact ⟨hn, by show xs.length ≤ k; omega, hat.belowN hM2⟩
    | 1, e1, e2 => simp at e1 e2; subst e1 e2; exact ⟨htn, by show c.th.length ≤ tc; omega, h3.belowN hM2⟩
    | j + 2, e1, e2 => simp at e1
  rw [← htn, hpln] at h0
  have f0 := h0.cell_ (i := 2) (v := .int .i64 c.q.regs) rfl
  have f1 := h0.cell_ (i := 3) (v := .slice qa pl qc) rfl
  have f5 := h0.cell_ (i := 5) (v := .slice ta tn tc) rfl
  have hgl := h0.lt
  have HPP := hide (fun (p : Option Addr) (rn rc : Nat) (hrn : rn = R.length) (h1 : rn ≤ rc) (h2 : rc ≤ 9223372036854775807) (h3 : n + tn ≤ rn) (h4 : rn ≤ 1000000) (W : World) (k1 : ChAt W g c) (k2 : At W p R) => parts_calls g c n tn hx htn p rn rc R hrn h1 h2 h3 (by omega) h4 W k1 k2)
  have hRl64 : R.length ≤ 64 := by omega
  have hW1a : At ((w.alloc (.cells #[.int .u64 1] 50)).alloc (.cells #[.slice a n k, .slice ta tn tc] 25)).drew (some ⟨w.heap.size, 0, none⟩) [(1 : UInt64)] := At.ofBlk (((Blk.new w 50 #[.int .u64 1]).alloc _).belowN (Below.drew (Below.refl _ _))) [(1 : UInt64)] rfl
  have hW1b : At ((w.alloc (.cells #[.slice a n k, .slice ta tn tc] 25)).alloc (.cells #[.int .u64 1] 50)).drew (some ⟨w.heap.size + 1, 0, none⟩) [(1 : UInt64)] := by
    have h9 := At.ofBlk ((Blk.new (w.alloc (.cells #[.slice a n k, .slice ta tn tc] 25)) 50 #[.int .u64 1]).belowN (Below.drew (Below.refl _ _))) [(1 : UInt64)] rfl
    simpa using h9
  have HW1 := hide (show ∀ W : World, At (W.alloc (.cells #[.int .u64 1] 50)) (some ⟨W.heap.size, 0, none⟩) [(1 : UInt64)] from fun W => At.ofBlk (Blk.new W _ #[.int .u64 1]) [(1 : UInt64)] rfl)
  clear hn hR hb hL hmay hBk hpln hfl d1 d2 hx htn
  go_enter Tryz.func9, Tryz.ntmps9
  go_wp2_with (go_at_call 19; go_must ((with_reducible refine (HM.out).mono ?_); rintro e w1 ⟨rfl, rfl⟩))
  go_region_law (first
    | (go_simp; go_at_call 21; go_must ((refine (Concat_calls _ _ 2 [xs, c.th] _ rfl (by first | exact hAL | exact hAM | exact hAM2) (by omega) (by rw [← HL.out, ← HFL.out]; omega) (n + tn) (by rw [← HL.out, ← HFL.out])).mono ?_); rw [← HL.out]; rintro e w3 ⟨a3, c3, rfl, hown3, hb3⟩; have hB3 : Below _ _ w3 := (by first | exact hN.trans (hb3.mono hN.size) | exact hM.trans (hb3.mono hM.size) | exact hM2.trans (hb3.mono hM2.size)); have hB3Z := hB3.trans ((below_new12 w3 (.cells #[.int .u64 1] 50)).mono hB3.size); have hg3 := h0.belowN hB3; have m0 := hg3.cell_ (i := 2) (v := .int .i64 c.q.regs) rfl; have m1 := hg3.cell_ (i := 3) (v := .slice qa pl qc) rfl; have m5 := hg3.cell_ (i := 5) (v := .slice ta tn tc) rfl; have hg3Z := h0.belowN hB3Z; have n0 := hg3Z.cell_ (i := 2) (v := .int .i64 c.q.regs) rfl; have n1 := hg3Z.cell_ (i := 3) (v := .slice qa pl qc) rfl; have n5 := hg3Z.cell_ (i := 5) (v := .slice ta tn tc) rfl))
    | (go_simp; go_at_call 20; go_must (first
        | ((refine (Pull_calls c.q.regs qa qc pl c.q.l HPL.out a3 (n + tn) c3 L HFL.out _ 1 _ [(1 : UInt64)] rfl R 0 HR.out HD.out w3 (h2.belowN hB3) hpl2 hown3.at_ (by first | exact hW1a.belowN hb3 | exact hW1b.belowN hb3) (by omega) (by omega)).mono ?_); rintro e w4 ⟨a4, c4, rfl, hown4, hb4⟩; have hB4 : Below _ _ w4 := hB3.trans (hb4.mono hB3.size))
        | ((refine (Pull_calls c.q.regs qa qc pl c.q.l HPL.out a3 (n + tn) c3 L HFL.out _ 1 _ [(1 : UInt64)] rfl R 0 HR.out HD.out _ (h2.belowN hB3Z) hpl2 (hown3.alloc (.cells #[.int .u64 1] 50)).at_ (HW1.out w3) (by omega) (by omega)).mono ?_); rintro e w4 ⟨a4, c4, rfl, hown4, hb4⟩; have hB4 : Below _ _ w4 := hB3Z.trans (hb4.mono hB3Z.size)))))
  all_goals
    have hcap := hown4.cap
    have c3' : c4 ≤ 9223372036854775807 := Nat.le_trans hcap.2 (by decide)
    have hz4 := hB4.size
    go_wp2_with (go_at_call 22; go_must ((with_reducible refine (HPP.out a4 _ c4 rfl hcap.1 c3' hRl (by omega) _ (hch.belowN hB4) hown4.at_).mono ?_); rintro e w5 ⟨a5, k5, a6, k6, rfl, hA5, hA6, hb5⟩; have hB5 := hB4.trans (hb5.mono hz4)))
    go_ret3
    exact ⟨a5, k5, a6, k6, rfl, hA5, hA6, hB5⟩
end Go.Proofs.YtmmepffdjmpblaaGreat
