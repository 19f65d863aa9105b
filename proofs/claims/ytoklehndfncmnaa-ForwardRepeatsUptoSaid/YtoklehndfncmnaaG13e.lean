/- Chapter 13: ForwardRepeats. -/
import Derived.Test.YtoklehndfncmnaaG13d
namespace Go.Proofs.Ytoklehndfncmnaa
set_option linter.unusedVariables false
set_option linter.unusedSimpArgs false
open Go.RowKit

def repR (U : List OpD) (R0 : List UInt64) (i : Nat) : List UInt64 := runR (List.replicate i U).flatten R0
theorem repR_zero (U : List OpD) (R0 : List UInt64) : repR U R0 0 = R0 := rfl
theorem repR_succ (U : List OpD) (R0 : List UInt64) (i : Nat) : repR U R0 (i + 1) = runR U (repR U R0 i) := by
  unfold repR
  rw [List.replicate_succ', List.flatten_append, runR_append]
  simp
theorem repR_length (U : List OpD) (R0 : List UInt64) (i : Nat) : (repR U R0 i).length = R0.length := runR_length _ _
theorem Good.nil {regs : Int} {f : Fo} (g : Good regs f) : Good regs Fo.nil where
  ok := trivial
  len := by simp [Fo.size, Fo.flat]
  right := by intro x hx; simp [Fo.flat] at hx
  r1 := g.r1
  r2 := g.r2
  off := by intro x hx; simp [Fo.flat] at hx
  deep := by simp [Fo.dp]
  may := rfl
  few := by simp [Fo.wr]
theorem rep_facts {regs : Int} {l : List OpD} {r : List UInt64} {U : List OpD} {R0 : List UInt64} (hc : checkS regs l = 0) (hr : (r.length : Int) ≤ regs) (hU : unrS regs l = U) (hR0 : startR regs.toNat r = R0) :
    dimsS regs [] r.length = 0 ∧ uptoS regs [] r (-1) = R0 ∧ R0.length ≤ 64 ∧ ∀ i, dimsS regs l (repR U R0 i).length = 0 ∧ uptoS regs l (repR U R0 i) (-1) = repR U R0 (i + 1) := by
  obtain ⟨f, rfl, g⟩ := good_of_check hc
  rw [unrS_good g] at hU
  have hl0 : R0.length = regs.toNat := by rw [← hR0, startR_length _ _ (by omega)]
  have h64 := g.r2
  have h1 := g.r1
  have e : ([] : List OpD) = Fo.nil.flat := rfl
  refine ⟨by rw [e]; exact dims_of_good g.nil hr, ?_, by omega, fun i => ?_⟩
  · rw [e, uptoS_good g.nil hr, hR0, uptoL_all]; rfl
  · have hl : ((repR U R0 i).length : Int) ≤ regs := by rw [repR_length]; omega
    refine ⟨dims_of_good g hl, ?_⟩
    rw [uptoS_good g hl, uptoL_all, hU, startR_self _ _ (by rw [repR_length, hl0]), repR_succ]
theorem rep_wrap {regs : Int} {l : List OpD} {r : List UInt64} {U : List OpD} {R0 : List UInt64} (hc : checkS regs l = 0) (hr : (r.length : Int) ≤ regs) (hU : unrS regs l = U) (hR0 : startR regs.toNat r = R0) (hl : l.length ≤ 60) (hu : U.length ≤ 100) (n : Nat) (hn : n ≤ 20) (v : UInt64) (hv : v.toNat = n) :
    dimsS regs (⟨7, 0, 0, 0, v⟩ :: (l ++ [⟨0, 0, 0, 0, 0⟩])) r.length = 8 ∨ (dimsS regs (⟨7, 0, 0, 0, v⟩ :: (l ++ [⟨0, 0, 0, 0, 0⟩])) r.length = 0 ∧ uptoS regs (⟨7, 0, 0, 0, v⟩ :: (l ++ [⟨0, 0, 0, 0, 0⟩])) r (-1) = repR U R0 n) := by
  obtain ⟨f, rfl, g⟩ := good_of_check hc
  rw [unrS_good g] at hU
  have hw : f.wr = U.length := by rw [← hU, Fo.unroll_length]
  have hm : f.wr * v.toNat ≤ 100 * 20 := Nat.mul_le_mul (by omega) (by omega)
  rw [← wrapF_flat]
  by_cases hd : f.dp + 1 ≤ 8
  · have gw := g.wrap v (by unfold Fo.size; omega) (by omega) hd
    right
    refine ⟨dims_of_good gw hr, ?_⟩
    rw [uptoS_good gw hr, uptoL_all, wrapF_unroll, hU, hR0, hv]
    rfl
  · left
    have := wrap_deep g v (by unfold Fo.size; omega) hd
    unfold dimsS
    rw [this, if_pos (by omega)]
set_option maxRecDepth 100000 in
set_option maxHeartbeats 6400000 in
theorem ForwardRepeats_calls (regs : Int) (a : Option Addr) (c : Nat) (l : List OpD) (t : Int) (ra : Option Addr) (rc : Nat) (r : List UInt64) (w : World) (h : At w a l) (hr : At w ra r) (hl : l.length ≤ 1000000) (ht0 : 0 ≤ t) (ht1 : t ≤ 255) :
    Calls Try.prog 10 #[.agg #[.int .i64 regs, .slice a l.length c], .int .u8 t, .slice ra r.length rc] w fun e w' => e = .returned (.bool true) ∧ Below w.heap.size w w' := by
  have hb0 := below_new12 w (.cells #[.int .i64 regs, .slice a l.length c] 24)
  have hX := Blk.new w 24 #[.int .i64 regs, .slice a l.length c]
  have h1 := h.belowN hb0
  have hr1 := hr.belowN hb0
  obtain ⟨U, hU⟩ : ∃ U, unrS regs l = U := ⟨_, rfl⟩
  obtain ⟨E, hE⟩ : ∃ E, checkS regs l = E := ⟨_, rfl⟩
  have hu6 := unrS_le regs l
  rw [hU] at hu6
  have HU := hide hU
  have HE := hide hE
  by_cases hg : ¬ (r.length ≤ 100)
  · clear hU hE
    go_enter Try.func10, Try.ntmps10
    go_wp2_with (first
      | (go_at_call 15; (with_reducible refine (UnrollR regs a c l _ U _ HU.out HE.out h1 (by omega)).mono ?_); rintro e w1 ⟨a1, c1, rfl, hown1, hb1⟩; have hB1 := hb0.trans (hb1.mono hb0.size); have hz1 := hB1.size; have hX1 := hX.belowN hb1; obtain ⟨p0, p1, p2, p3⟩ := hX1.c2)
      | (go_at_call 22; (with_reducible refine (goes13_calls _).mono ?_); rintro e w8 ⟨rfl, hbel8⟩))
    go_ret
    exact ⟨rfl, hB1.trans (hbel8.mono hz1)⟩
  have hg := Decidable.not_not.1 hg
  by_cases hg2 : ¬ (l.length ≤ 60)
  · clear hU hE
    go_enter Try.func10, Try.ntmps10
    go_wp2_with (first
      | (go_at_call 15; (with_reducible refine (UnrollR regs a c l _ U _ HU.out HE.out h1 (by omega)).mono ?_); rintro e w1 ⟨a1, c1, rfl, hown1, hb1⟩; have hB1 := hb0.trans (hb1.mono hb0.size); have hz1 := hB1.size; have hX1 := hX.belowN hb1; obtain ⟨p0, p1, p2, p3⟩ := hX1.c2)
      | (go_at_call 22; (with_reducible refine (goes13_calls _).mono ?_); rintro e w8 ⟨rfl, hbel8⟩))
    go_ret
    exact ⟨rfl, hB1.trans (hbel8.mono hz1)⟩
  have hg2 := Decidable.not_not.1 hg2
  by_cases hE0 : ¬ (E = 0)
  · have e1 : (E == 0) = false := by simpa using hE0
    have e2 : (E != 0) = true := by simpa using hE0
    clear hU hE hE0
    go_enter Try.func10, Try.ntmps10
    go_wp2_with (first
      | (go_at_call 15; (with_reducible refine (UnrollR regs a c l _ U _ HU.out HE.out h1 (by omega)).mono ?_); rintro e w1 ⟨a1, c1, rfl, hown1, hb1⟩; have hB1 := hb0.trans (hb1.mono hb0.size); have hz1 := hB1.size; have hX1 := hX.belowN hb1; obtain ⟨p0, p1, p2, p3⟩ := hX1.c2)
      | (go_at_call 22; (with_reducible refine (goes13_calls _).mono ?_); rintro e w8 ⟨rfl, hbel8⟩))
    go_ret
    exact ⟨rfl, hB1.trans (hbel8.mono hz1)⟩
  have hE0 := Decidable.not_not.1 hE0
  subst hE0
  by_cases hg3 : ¬ (U.length ≤ 100)
  · clear hU hE
    go_enter Try.func10, Try.ntmps10
    go_wp2_with (first
      | (go_at_call 15; (with_reducible refine (UnrollR regs a c l _ U _ HU.out HE.out h1 (by omega)).mono ?_); rintro e w1 ⟨a1, c1, rfl, hown1, hb1⟩; have hB1 := hb0.trans (hb1.mono hb0.size); have hz1 := hB1.size; have hX1 := hX.belowN hb1; obtain ⟨p0, p1, p2, p3⟩ := hX1.c2)
      | (go_at_call 22; (with_reducible refine (goes13_calls _).mono ?_); rintro e w8 ⟨rfl, hbel8⟩))
    go_ret
    exact ⟨rfl, hB1.trans (hbel8.mono hz1)⟩
  have hg3 := Decidable.not_not.1 hg3
  rcases Int.lt_or_le regs r.length with hrr | hrr
  · clear hU hE
    go_enter Try.func10, Try.ntmps10
    go_wp2_with (first
      | (go_at_call 15; (with_reducible refine (UnrollR regs a c l _ U _ HU.out HE.out h1 (by omega)).mono ?_); rintro e w1 ⟨a1, c1, rfl, hown1, hb1⟩; have hB1 := hb0.trans (hb1.mono hb0.size); have hz1 := hB1.size; have hX1 := hX.belowN hb1; obtain ⟨p0, p1, p2, p3⟩ := hX1.c2)
      | (go_at_call 22; (with_reducible refine (goes13_calls _).mono ?_); rintro e w8 ⟨rfl, hbel8⟩))
    go_ret
    exact ⟨rfl, hB1.trans (hbel8.mono hz1)⟩
  obtain ⟨R0, hR0⟩ : ∃ R0, startR regs.toNat r = R0 := ⟨_, rfl⟩
  obtain ⟨f1, f2, f3, f4⟩ := rep_facts hE hrr hU hR0
  obtain ⟨N, hN⟩ : ∃ N : Nat, t.tmod 21 = N := ⟨(t.tmod 21).toNat, by have := Int.tmod_nonneg 21 ht0; omega⟩
  have hN20 : N ≤ 20 := by have := Int.tmod_lt_of_pos t (b := 21) (by omega); omega
  have hN2 : t % 21 = N := by rw [← hN, Int.tmod_eq_emod_of_nonneg ht0]
  obtain ⟨v, hv⟩ : ∃ v : UInt64, v.toNat = N := ⟨UInt64.ofNat N, by rw [UInt64.toNat_ofNat', Nat.mod_eq_of_lt (by omega)]⟩
  have hwr := rep_wrap hE hrr hU hR0 hg2 hg3 N hN20 v hv
  have F1 := hide f1
  have F2 := hide f2
  have F4 := hide f4
  have HWR := hide hwr
  have HV := hide hv
  have hbb : decide (regs < (r.length : Int)) = false := by simp; omega
  clear hU hE hR0 f1 f2 f4 hwr hv
  go_enter Try.func10, Try.ntmps10
  go_wp2_with (first
    | (go_at_call 15; (with_reducible refine (UnrollR regs a c l _ U _ HU.out HE.out h1 (by omega)).mono ?_); rintro e w1 ⟨a1, c1, rfl, hown1, hb1⟩; have hB1 := hb0.trans (hb1.mono hb0.size); have hz1 := hB1.size; have hX1 := hX.belowN hb1; have h2 := h1.belowN hb1; have hr2 := hr1.belowN hb1; obtain ⟨p0, p1, p2, p3⟩ := hX1.c2)
    | (go_at_call 23; go_must ((with_reducible refine (RunN regs none 0 0 [] _ _ _ r _ R0 0 rfl rfl F2.out F1.out (At.nil _ _) (by omega) hr2 (by omega)).mono ?_); rintro e w2 ⟨a2, c2, rfl, hown2, hb2⟩; have hB2 := hB1.trans (hb2.mono hz1); have hz2 := hB2.size; have hX2 := hX1.belowN hb2; have h3 := h2.belowN hb2; have hr3 := hr2.belowN hb2)))
  go_loopw [10, 11, 12] (fun av fv iv wr => ∃ (i n : Nat) (ao : Option Addr) (co : Nat), iv = .int .i64 i ∧ i ≤ N ∧ fv = .int .i64 0 ∧ av = .slice ao n co ∧ Hid (n = (repR U R0 i).length) ∧ n ≤ 64 ∧ Own wr w1.heap.size 32 ao co (repR U R0 i) ∧ Below w2.heap.size w2 wr) (fun _ _ iv _ => N - (intOf iv).toNat)
  case atStart => exact ⟨0, R0.length, a2, c2, rfl, by omega, rfl, rfl, rfl, f3, hown2, Below.refl _ _⟩
  case round =>
    obtain ⟨i, n, ao, co, rfl, hi, rfl, rfl, hn, hn64, hown, hb⟩ := hrel
    have hBr := hB2.trans (hb.mono hz2)
    have hzr := hBr.size
    have hzr2 := hb.size
    have hz12 := hb2.size
    have hXr := hX2.belowN hb
    have hhr := h3.belowN hb
    have hrr' := hr3.belowN hb
    obtain ⟨q0, q1, q2, q3⟩ := hXr.c2
    by_cases hlt : i < N
    · go_wp2_with (first
        | (go_at_call 23; go_must ((with_reducible refine (RunN regs _ _ _ l _ _ _ (repR U R0 i) _ (repR U R0 (i + 1)) 0 rfl hn.out (F4.out i).2 (F4.out i).1 hhr (by omega) hown.at_ (by omega)).mono ?_); rintro e w3 ⟨a3, c3, rfl, hown3, hb3⟩)))
      go_roundw
      case rel => exact ⟨i + 1, _, a3, c3, by go_num, by omega, rfl, rfl, rfl, by rw [repR_length]; exact f3, hown3.mono (by omega), hb.trans (hb3.mono hb.size)⟩
      case measure => simp [intOf]; omega
    · obtain rfl : i = N := by omega
      have hO10 := Own.made wr (Nat.le_refl _) 34 #[.int .i64 7, .int .i64 0, .int .i64 0, .int .i64 0, .int .u64 (i : Int)] [(⟨7, 0, 0, 0, v⟩ : OpD)] (by have := HV.out; simp [Flat.enc, this]) (show 1 ≤ maxLen by decide) 1 rfl
      have hN10 := below_new12 wr (.cells #[.int .i64 7, .int .i64 0, .int .i64 0, .int .i64 0, .int .u64 (i : Int)] 34)
      obtain ⟨m0, m1, m2, m3⟩ := (hXr.belowN hN10).c2
      have hXl := hXr.lt
      have hwn : Hid (1 + l.length + 1 = ((⟨7, 0, 0, 0, v⟩ : OpD) :: (l ++ [⟨0, 0, 0, 0, 0⟩])).length) := by show _ = _; simp <;> omega
      rcases HWR.out with f8 | ⟨f0, fx⟩
      · obtain ⟨Z, hZ⟩ : ∃ Z, uptoS regs (⟨7, 0, 0, 0, v⟩ :: (l ++ [⟨0, 0, 0, 0, 0⟩])) r (-1) = Z := ⟨_, rfl⟩
        have HZ := hide hZ
        have HF8 := hide f8
        clear hZ f8
        go_wp2_with (first
          | (at_builtin; first
              | (refine wpList_push tyO hown11 (⟨0, 0, 0, 0, 0⟩ : OpD) rfl rfl rfl rfl rfl rfl (by simp <;> omega) hz11 (by omega) ?_; intro a12 c12 w12 hown12 hg12 _; have hB12 := below_push hB11 hown11 hg12 hz11; have hz12' := hB12.size; have hX12 := hXr.belowN hB12; obtain ⟨o0, o1, o2, o3⟩ := hX12.c2; have hWl : At w12 a12 ((⟨7, 0, 0, 0, v⟩ : OpD) :: (l ++ [⟨0, 0, 0, 0, 0⟩])) := by simpa using hown12.at_)
              | (refine wpList_pushAll tyO hO10 (l2 := l) (hhr.belowN hN10) rfl rfl rfl rfl rfl rfl (by simp) (by omega) (by omega) ?_; intro a11 c11 w11 hown11 hg11 _; have hB11 := below_push hN10 hO10 hg11 (by simp); have hz11 := hB11.size))
          | (go_at_call 23; go_must ((with_reducible refine (RunN regs _ _ _ _ _ _ _ r _ Z 8 hwn.out rfl HZ.out HF8.out hWl (by omega) (hrr'.belowN hB12) (by omega)).mono ?_); rintro e w13 ⟨a13, c13, rfl, hown13, hb13⟩; have hB13 := (hBr.trans (hB12.mono hzr)).trans (hb13.mono (hBr.trans (hB12.mono hzr)).size); have hz13 := hB13.size; have hA13 := ((hown.belowN hB12).belowN hb13).at_))
          | (go_at_call 27; go_must ((with_reducible refine (Same5N _ _ _ _ _ _ (repR U R0 i) _ hn.out rfl hA13 hown13.at_ (by omega)).mono ?_); rintro e w17 ⟨rfl, q17, rfl⟩))
          | (go_at_call 22; (with_reducible refine (goes13_calls _).mono ?_); rintro e w8 ⟨rfl, hbel8⟩))
        go_ret
        exact ⟨rfl, hB13.trans (hbel8.mono hz13)⟩
      · have HFX := hide fx
        have HF0 := hide f0
        clear fx f0
        go_wp2_with (first
          | (at_builtin; first
              | (refine wpList_push tyO hown11 (⟨0, 0, 0, 0, 0⟩ : OpD) rfl rfl rfl rfl rfl rfl (by simp <;> omega) hz11 (by omega) ?_; intro a12 c12 w12 hown12 hg12 _; have hB12 := below_push hB11 hown11 hg12 hz11; have hz12' := hB12.size; have hX12 := hXr.belowN hB12; obtain ⟨o0, o1, o2, o3⟩ := hX12.c2; have hWl : At w12 a12 ((⟨7, 0, 0, 0, v⟩ : OpD) :: (l ++ [⟨0, 0, 0, 0, 0⟩])) := by simpa using hown12.at_)
              | (refine wpList_pushAll tyO hO10 (l2 := l) (hhr.belowN hN10) rfl rfl rfl rfl rfl rfl (by simp) (by omega) (by omega) ?_; intro a11 c11 w11 hown11 hg11 _; have hB11 := below_push hN10 hO10 hg11 (by simp); have hz11 := hB11.size))
          | (go_at_call 23; go_must ((with_reducible refine (RunN regs _ _ _ _ _ _ _ r _ (repR U R0 i) 0 hwn.out rfl HFX.out HF0.out hWl (by omega) (hrr'.belowN hB12) (by omega)).mono ?_); rintro e w13 ⟨a13, c13, rfl, hown13, hb13⟩; have hB13 := (hBr.trans (hB12.mono hzr)).trans (hb13.mono (hBr.trans (hB12.mono hzr)).size); have hz13 := hB13.size; have hA13 := ((hown.belowN hB12).belowN hb13).at_))
          | (go_at_call 27; go_must ((with_reducible refine (Same5N _ _ _ _ _ _ (repR U R0 i) _ hn.out rfl hA13 hown13.at_ (by omega)).mono ?_); rintro e w17 ⟨rfl, q17, rfl⟩))
          | (go_at_call 22; (with_reducible refine (goes13_calls _).mono ?_); rintro e w8 ⟨rfl, hbel8⟩))
        go_ret
        exact ⟨rfl, (below_drewN hB13 _).trans (hbel8.mono (by simp; omega))⟩
end Go.Proofs.Ytoklehndfncmnaa
