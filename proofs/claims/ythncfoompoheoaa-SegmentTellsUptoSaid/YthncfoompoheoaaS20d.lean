/- Chapter 20: At. -/
import Derived.Test.YthncfoompoheoaaS20c
namespace Go.Proofs.Ythncfoompoheoaa
set_option linter.unusedVariables false
set_option linter.unusedSimpArgs false
open Go.RowKit
/-- which write has a number -/
noncomputable def atS (regs : Int) (l : List OpD) (n : Int) : Int × List Int × Int :=
  if checkS regs l ≠ 0 then (0, [], checkS regs l) else if 0 ≤ n ∧ n < ((fo l).wr : Int) then ((((fo l).atw n.toNat).1 : Int), ((fo l).atw n.toNat).2, 0) else (0, [], 2)
theorem atw_nonneg (f : Fo) : ∀ n, ∀ r ∈ (f.atw n).2, 0 ≤ r := by
  induction f with
  | nil => intro n r h; cases h
  | leaf op r ih => intro n x h; rw [Fo.atw] at h; split at h <;> first | cases h | exact ih _ x h
  | rep op b fin r ihb ihr =>
    intro n x h
    rw [Fo.atw] at h
    split at h
    · rcases List.mem_cons.1 h with rfl | h
      · exact Int.natCast_nonneg _
      · exact ihb _ x h
    · exact ihr _ x h
set_option maxRecDepth 100000 in
set_option maxHeartbeats 3200000 in
theorem At_calls (regs : Int) (a : Option Addr) (c : Nat) (l : List OpD) (n : Int) (I : Int) (Z : List Int) (zn : Nat) (hzn : zn = Z.length) (E : Int) (hV : atS regs l n = (I, Z, E)) (w : World) (h : At w a l) (hl : l.length ≤ 1000000) :
    Calls Try.prog 19 #[.agg #[.int .i64 regs, .slice a l.length c], .int .i64 n] w fun e w' => ∃ ra rc, e = .returned (.tuple #[.int .i64 I, .slice ra zn rc, .int .i64 E]) ∧ Own w' w.heap.size 3 ra rc Z ∧ Below w.heap.size w w' := by
  have hb0 := below_new12 w (.cells #[.int .i64 regs, .slice a l.length c] 24)
  have hX := Blk.new w 24 #[.int .i64 regs, .slice a l.length c]
  have h1 := h.belowN hb0
  unfold atS at hV
  by_cases hc : checkS regs l = 0
  case neg =>
    rw [if_pos hc] at hV
    injection hV with hv1 hv2
    injection hv2 with hv2 hv3
    subst hv1 hv2
    have HO := hide (of_bad regs a c l E hv3 (by rw [← hv3]; exact hc) _ h1 hl)
    have e1 : (E == 0) = false := by rw [← hv3]; simpa using hc
    have e2 : (E != 0) = true := by rw [← hv3]; simpa using hc
    have hz0 : zn = 0 := hzn
    subst hz0
    clear hv3 hc hzn
    go_enter Try.func19, Try.ntmps19
    go_wp2_with (go_at_call 58; go_must ((with_reducible refine (HO.out).mono ?_); rintro e w1 ⟨rfl, hb1⟩))
    go_ret3
    exact ⟨none, 0, rfl, Own.none _ _ _, hb0.trans (hb1.mono hb0.size)⟩
  rw [if_neg (by rw [hc]; simp)] at hV
  obtain ⟨f, rfl, g⟩ := good_of_check hc
  have hfl : f.flat.length ≤ 4096 := g.len
  have HG := hide g
  have HO := hide (of_good regs a c f g _ h1)
  rw [fo_flat g.ok] at hV
  have hST := Stands.whole g.ok
  have hfw := g.few
  have HAH := hide (fun q w' (hh : PlanAt w' q f) => ahead_calls q f g.ok hfl g.few 0 f.flat.length f hST (f.bnd_size) g.few 0 (f.flat.length : Int) rfl (by omega) w' hh)
  have htop : f.top f.flat.length = f.wr := f.top_size
  rw [htop] at HAH
  obtain ⟨W, hW⟩ : ∃ W, W = f.wr := ⟨_, rfl⟩
  rw [← hW] at HAH hV hfw
  have HW := hide hW
  have HST := hide hST
  clear hc g hST hW htop
  by_cases hn : 0 ≤ n ∧ n < (W : Int)
  case neg =>
    rw [if_neg hn] at hV
    injection hV with hv1 hv2
    injection hv2 with hv2 hv3
    subst hv1 hv2 hv3
    have hz0 : zn = 0 := hzn
    subst hz0
    clear hzn
    rcases Int.lt_or_le n 0 with hn0 | hn0
    · clear hn
      go_enter Try.func19, Try.ntmps19
      go_wp2_with (first
        | (go_at_call 58; go_must ((with_reducible refine (HO.out).mono ?_); rintro e w1 ⟨q, rfl, hP1, hq1, hb1⟩; have hB1 := hb0.trans (hb1.mono hb0.size)))
        | (go_at_call 68; go_must ((with_reducible refine (HAH.out q _ hP1).mono ?_); rintro e w2 ⟨rfl, rfl⟩)))
      go_ret3
      exact ⟨none, 0, rfl, Own.none _ _ _, hB1⟩
    · have hnW : (W : Int) ≤ n := by omega
      have hnl : ∀ q w1, PlanAt w1 q f → ∃ a c, w1.cell? ⟨q, 0, none⟩ = some (.slice a f.flat.length c) := fun q w1 h => by
        obtain ⟨a, am, az, ar, c, cm, cz, cr, k0, k1, k2, k3, k4⟩ := h
        exact ⟨a, c, k0.c4.1⟩
      have HNL := hide hnl
      clear hn hnl
      go_enter Try.func19, Try.ntmps19
      go_wp2_with (first
        | (go_at_call 58; go_must ((with_reducible refine (HO.out).mono ?_); rintro e w1 ⟨q, rfl, hP1, hq1, hb1⟩; have hB1 := hb0.trans (hb1.mono hb0.size); obtain ⟨aa, cc, k0⟩ := HNL.out q _ hP1))
        | (go_at_call 68; go_must ((with_reducible refine (HAH.out q _ hP1).mono ?_); rintro e w2 ⟨rfl, rfl⟩)))
      go_ret3
      exact ⟨none, 0, rfl, Own.none _ _ _, hB1⟩
  rw [if_pos hn] at hV
  obtain ⟨n, rfl⟩ : ∃ k : Nat, n = k := ⟨n.toNat, by omega⟩
  have hnW : (n : Int) < (W : Int) := hn.2
  injection hV with hv1 hv2
  injection hv2 with hv2 hv3
  subst hv3
  simp only [Int.toNat_natCast] at hv1 hv2
  have HV1 := hide hv1
  have HV2 := hide hv2
  have HZN := hide hzn
  have hnl : ∀ q w1, PlanAt w1 q f → ∃ a c, w1.cell? ⟨q, 0, none⟩ = some (.slice a f.flat.length c) := fun q w1 h => by
    obtain ⟨a, am, az, ar, c, cm, cz, cr, k0, k1, k2, k3, k4⟩ := h
    exact ⟨a, c, k0.c4.1⟩
  have HNL := hide hnl
  have hn0 : decide ((n : Int) < 0) = false := decide_eq_false (by omega)
  have hn1 : decide ((W : Int) ≤ (n : Int)) = false := decide_eq_false (by omega)
  have hn2 : decide (W ≤ n) = false := decide_eq_false (by omega)
  clear hn hv1 hv2 hzn hnl
  go_enter Try.func19, Try.ntmps19
  go_wp2_with (first
    | (go_at_call 58; go_must ((with_reducible refine (HO.out).mono ?_); rintro e w1 ⟨q, rfl, hP1, hq1, hb1⟩; have hB1 := hb0.trans (hb1.mono hb0.size); obtain ⟨aa, cc, k0⟩ := HNL.out q _ hP1))
    | (go_at_call 68; go_must ((with_reducible refine (HAH.out q _ hP1).mono ?_); rintro e w2 ⟨rfl, rfl⟩)))
  have hz1 := hB1.size
  have HP1 := hide hP1
  obtain ⟨a', am, az, ar, c', cm, cz, cr, j0, j1, j2, j3, j4⟩ := hP1
  go_loopw [1, 4, 5] (fun nv iv rv wr => ∃ (x : Fo) (o m rn : Nat) (ra : Option Addr) (rc : Nat) (X : List Int), nv = .int .i64 m ∧ iv = .int .i64 o ∧ rv = .slice ra rn rc ∧ Hid (rn = X.length) ∧ rn ≤ o ∧ o ≤ f.flat.length ∧ Hid (Stands f.flat (matchL f.flat) o x) ∧ Hid (m < x.wr) ∧ m ≤ 65536 ∧ Hid ((o : Int) + ((x.atw m).1 : Int) = I) ∧ Hid (X ++ (x.atw m).2 = Z) ∧ Own wr w1.heap.size 3 ra rc X ∧ Below w1.heap.size w1 wr) (fun _ iv _ _ => f.flat.length - (intOf iv).toNat)
  case atStart => exact ⟨f, 0, n, 0, none, 0, [], rfl, rfl, rfl, rfl, by omega, by omega, HST.out, by have := HW.out; show n < f.wr; omega, by omega, by have := HV1.out; show ((0 : Nat) : Int) + _ = I; omega, by have := HV2.out; show [] ++ _ = Z; simpa using this, Own.none _ _ _, Below.refl _ _⟩
  case round =>
    obtain ⟨x, o, m, rn, ra, rc, X, rfl, rfl, rfl, hrn, hro, hol, hst, hmw, hm6, hI, hZ, hown, hbr⟩ := hrel
    have HPR := hide (HP1.out.belowN hbr)
    have k0' := j0.belowN hbr
    have k1 := j1.belowN hbr
    have k3 := j3.belowN hbr
    have k4 := j4.belowN hbr
    obtain ⟨p0, p1, p2, p3, p4, p5, p6, p7⟩ := k0'.c4
    obtain ⟨wo, rfl⟩ : ∃ wo : World, wo = wr := ⟨_, rfl⟩
    go_wp2
    go_loop [1, 4] (fun nv iv => ∃ (x' : Fo) (o' m' : Nat), nv = .int .i64 m' ∧ iv = .int .i64 o' ∧ o ≤ o' ∧ o' ≤ f.flat.length ∧ Hid (Stands f.flat (matchL f.flat) o' x') ∧ Hid (m' < x'.wr) ∧ m' ≤ 65536 ∧ Hid ((o' : Int) + ((x'.atw m').1 : Int) = I) ∧ Hid (X ++ (x'.atw m').2 = Z)) (fun _ iv => f.flat.length - (intOf iv).toNat)
    case atStart => exact ⟨x, o, m, rfl, rfl, by omega, hol, hst.out, hmw.out, hm6, hI.out, hZ.out⟩
    case round =>
      obtain ⟨x', o', m', rfl, rfl, hoo, hol', hst', hmw', hm6', hI', hZ'⟩ := hrel
      have hmw2 := hmw'.out
      have hI2 := hI'.out
      have hZ2 := hZ'.out
      cases x' with
      | nil => simp [Fo.wr] at hmw2
      | leaf op r =>
        obtain ⟨e1, kk1, kk2, e2, e3⟩ := plan_leaf HG.out.ok hst'.out
        obtain ⟨b1, off1, hba, y0⟩ := getI_at k3 e2
        subst hba
        obtain ⟨b3, off3, hba, x0, x1, x2, x3, x4⟩ := getOp_eq k1 (Below.refl _ _) e1
        subst hba
        simp only [Fo.wr] at hmw2
        have hk7 : (op.kind == 7) = false := by simp; omega
        have hn7 : (op.kind != 7) = true := by simp; omega
        rw [Fo.atw] at hI2 hZ2
        by_cases hm0 : m' = 0
        · subst hm0
          rw [if_pos rfl] at hI2 hZ2
          have HI := hide hI2
          have HZ := hide hZ2
          clear hmw2 hI2 hZ2 e1 e2 kk1 kk2
          go_wp2
          go_ret3
          have hI9 := HI.out
          have hZ9 := HZ.out
          simp only [List.append_nil] at hZ9
          subst hZ9
          have hrz : rn = zn := by rw [hrn.out, HZN.out]
          subst hrz
          exact ⟨ra, rc, by rw [← hI9]; simp, hown.mono hz1, hB1.trans (hbr.mono hz1)⟩
        · rw [if_neg hm0] at hI2 hZ2
          have HI := hide (show ((o' + 1 : Nat) : Int) + ((r.atw (m' - 1)).1 : Int) = I by simp only at hI2; omega)
          have HZ := hide hZ2
          have HMW := hide (show m' - 1 < r.wr by omega)
          have hm1 : 1 ≤ (m' : Int) := by omega
          clear hmw2 hI2 hZ2 e1 e2 kk1 kk2
          go_wp2_with (go_at_call 69; go_must ((with_reducible refine (next_leaf q f HG.out.ok hfl o' op r hst'.out _ HPR.out).mono ?_); rintro e w9 ⟨rfl, rfl⟩))
          go_round
          case rel => exact ⟨r, o' + 1, m' - 1, by go_num, rfl, by omega, by omega, hst'.out.leaf.2.2.2.2, HMW.out, by omega, HI.out, HZ.out⟩
          case measure => simp [intOf]; omega
      | rep op b fin r =>
        obtain ⟨e1, kk1, e2, e3, e4, e5⟩ := plan_rep HG.out.ok hst'.out
        obtain ⟨b1, off1, hba, y0⟩ := getI_at k3 e3
        subst hba
        obtain ⟨b2, off2, hba, z0⟩ := getI_at k4 e4
        subst hba
        obtain ⟨b3, off3, hba, x0, x1, x2, x3, x4⟩ := getOp_eq k1 (Below.refl _ _) e1
        subst hba
        simp only [Fo.wr] at hmw2
        have hk7 : (op.kind == 7) = true := by simp [kk1]
        have hn7 : (op.kind != 7) = false := by simp [kk1]
        have hpw := (may_all HG.out.ok HG.out.may hst'.out)
        rw [Fo.atw] at hI2 hZ2
        obtain ⟨P, hP⟩ : ∃ P, P = b.wr * op.v.toNat := ⟨_, rfl⟩
        rw [← hP] at y0 hmw2 hI2 hZ2 hpw
        by_cases hmP : m' < P
        · rw [if_pos hmP] at hI2 hZ2
          have hW0 : 0 < b.wr := by
            rcases Nat.eq_zero_or_pos b.wr with e | h0
            · rw [e] at hP; simp at hP; omega
            · exact h0
          obtain ⟨V, hV⟩ : ∃ V, V = b.wr := ⟨_, rfl⟩
          have hmod : m' % b.wr < b.wr := Nat.mod_lt _ hW0
          have HMOD := hide hmod
          rw [← hV] at z0 hW0 hI2 hZ2
          have HI := hide (show ((o' + 1 : Nat) : Int) + ((b.atw (m' % V)).1 : Int) = I by simp only at hI2; omega)
          have HZ := hide (show (X ++ [((m' / V : Nat) : Int)]) ++ (b.atw (m' % V)).2 = Z by rw [List.append_assoc]; exact hZ2)
          have HVV := hide hV
          have hV0 : 0 < (V : Int) := by omega
          have hdl : m' / V ≤ m' := Nat.div_le_self _ _
          have hml : m' % V ≤ m' := Nat.mod_le _ _
          rw [← hV] at HMOD
          obtain ⟨Q, hQ⟩ : ∃ Q, Q = m' / V := ⟨_, rfl⟩
          obtain ⟨M2, hM2⟩ : ∃ M2, M2 = m' % V := ⟨_, rfl⟩
          rw [← hQ] at HZ hdl
          rw [← hM2] at HZ HI hml HMOD
          have hQ2 : (m' : Int) / (V : Int) = (Q : Int) := by rw [hQ]; simp
          have hM3 : (m' : Int) % (V : Int) = (M2 : Int) := by rw [hM2]; simp
          have hQ6 : Q ≤ 65536 := by omega
          have hM6 : M2 ≤ 65536 := by omega
          have hw0 : w1.heap.size ≤ wo.heap.size := hbr.size
          have hrn5 : rn ≤ 4096 := by omega
          clear hQ hM2
          have hzr := hB1.trans (hbr.mono hz1)
          have hzr2 := hzr.size
          have hol2 : o' < f.flat.length := by omega
          have E4 := hide e4
          clear hmw2 hI2 hZ2 e1 e2 e3 e4 kk1 hP hpw hmod hV hdl hml
          go_wp2_with (at_builtin; go_must (refine wpList_push tyI hown (Q : Int) rfl rfl rfl rfl rfl rfl hrn.out hw0 (by omega) ?_; intro a4 c4 w4 hown4 hg4 hm4; have hb4 := below_push hbr hown hg4 hw0; obtain ⟨s0, s1, s2, s3, s4, s5, s6, s7⟩ := (j0.belowN hb4).c4; obtain ⟨b8, off8, hba8, t0⟩ := getI_at (j4.belowN hb4) E4.out; obtain ⟨rfl, rfl⟩ : b8 = b2 ∧ off8 = off2 := (by injection hba8 with hba8; injection hba8 with h1 h2; exact ⟨h1.symm, h2.symm⟩); rw [← HVV.out] at t0))
          go_roundw
          case rel => exact ⟨b, o' + 1, M2, rn + 1, a4, c4, X ++ [(Q : Int)], by rw [hM3], by go_num, rfl, by show rn + 1 = _; have := hrn.out; simp [this], by omega, by omega, hst'.out.rep.2.2.2.2.2.2.1, by have := HMOD.out; rw [HVV.out] at this; exact this, hM6, HI.out, HZ.out, hown4, hb4⟩
          case measure => simp [intOf]; omega
        · rw [if_neg hmP] at hI2 hZ2
          have HI := hide (show ((o' + b.size + 2 : Nat) : Int) + ((r.atw (m' - P)).1 : Int) = I by simp only at hI2; omega)
          have HZ := hide hZ2
          have HMW := hide (show m' - P < r.wr by omega)
          have hm1 : (P : Int) ≤ (m' : Int) := by omega
          clear hmw2 hI2 hZ2 e1 e2 e3 e4 kk1 hP hpw
          go_wp2_with (go_at_call 69; go_must ((with_reducible refine (next_rep q f HG.out.ok hfl o' op b fin r hst'.out _ HPR.out).mono ?_); rintro e w9 ⟨rfl, rfl⟩))
          go_round
          case rel => exact ⟨r, o' + b.size + 2, m' - P, by go_num, rfl, by omega, by omega, hst'.out.rep.2.2.2.2.2.2.2, HMW.out, by omega, HI.out, HZ.out⟩
          case measure => simp [intOf]; omega
end Go.Proofs.Ythncfoompoheoaa
