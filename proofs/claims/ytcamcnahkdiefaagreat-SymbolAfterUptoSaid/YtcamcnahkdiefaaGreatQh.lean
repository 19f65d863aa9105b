/- Several texts of mine in one file: R10, R10b. -/
import Derived.Test.YtcamcnahkdiefaaGreatQf
import Derived.Test.YtcamcnahkdiefaaGreatQg
/- Chapter 10, the document's answers: whether a program may be. -/
namespace Go.Proofs.YtcamcnahkdiefaaGreat
set_option linter.unusedVariables false
set_option linter.unusedSimpArgs false
open Go.RowKit

theorem below_new (w : World) (o : Obj) : Below w.heap.size w (w.alloc o) := Below.alloc (Below.refl _ _) (Nat.le_refl _) _
set_option maxRecDepth 100000 in
set_option maxHeartbeats 1600000 in
theorem form10_calls (regs : Int) (a : Option Addr) (c : Nat) (l : List OpD) (w : World) (h : At w a l) (hl : l.length ≤ 1000000) :
    Calls Tryz.prog 150 #[.agg #[.int .i64 regs, .slice a l.length c]] w fun e w' => e = .returned (.bool (formB l)) ∧ Below w.heap.size w w' := by
  obtain ⟨R, hR⟩ : ∃ R, R = formB l := ⟨_, rfl⟩
  have hR2 : R = (decide (l.length ≤ 4096) && well l && l.all rightB) := hR
  rw [← hR]
  have HR := hide hR2
  clear hR hR2
  have h1 := h.belowN (below_new w (.cells #[.int .i64 regs, .slice a l.length c] 24))
  have hX := Blk.new w 24 #[.int .i64 regs, .slice a l.length c]
  obtain ⟨wl, hwl⟩ : ∃ b, b = well l := ⟨_, rfl⟩
  have HW := hide (Well8_calls a c l _ h1 hl)
  rw [← hwl] at HW HR
  have hb0 := below_new w (.cells #[.int .i64 regs, .slice a l.length c] 24)
  by_cases c1 : 4096 < l.length
  · have d1 : decide (4096 < (l.length : Int)) = true := by simp; omega
    have HF : Hid (R = false) := by show R = false; rw [HR.out]; simp; omega
    go_enter Tryz.func150, Tryz.ntmps150
    go_wp2
    go_ret
    exact ⟨by rw [HF.out] <;> rfl, hb0⟩
  · have d1 : decide (4096 < (l.length : Int)) = false := by simp; omega
    have c2 : Hid (decide (l.length ≤ 4096) = true) := by show _ = true; simp; omega
    clear hwl
    cases wl with
    | false =>
      have HF : Hid (R = false) := by show R = false; rw [HR.out]; simp
      go_enter Tryz.func150, Tryz.ntmps150
      go_wp2_with (go_at_call 131; ((with_reducible refine (HW.out).mono ?_); rintro e w1 ⟨rfl, rfl⟩))
      go_ret
      exact ⟨by rw [HF.out] <;> rfl, hb0⟩
    | true =>
      have HRA : Hid (R = l.all rightB) := by show R = _; rw [HR.out, c2.out]; simp
      clear HR
      go_enter Tryz.func150, Tryz.ntmps150
      go_wp2_with (go_at_call 131; ((with_reducible refine (HW.out).mono ?_); rintro e w1 ⟨rfl, rfl⟩))
      obtain ⟨W0, hW0⟩ : ∃ W0, W0 = w.alloc (.cells #[.int .i64 regs, .slice a l.length c] 24) := ⟨_, rfl⟩
      rw [← hW0] at hX h1 hb0 ⊢
      clear hW0 HW
      go_loopw [3] (fun i wr => ∃ k : Nat, i = .int .i64 k ∧ k ≤ l.length ∧ Hid (R = (l.drop k).all rightB) ∧ Below W0.heap.size W0 wr) (fun i _ => l.length - (intOf i).toNat)
      case atStart => exact ⟨0, rfl, by omega, HRA.out, Below.refl _ _⟩
      case round =>
        obtain ⟨k, rfl, hk, hRk, hbr⟩ := hrel
        obtain ⟨q0, q1, q2, q3⟩ := (hX.belowN hbr).c2
        by_cases hlt : k < l.length
        · obtain ⟨b1, off1, x, rfl, hx, x0, x1, x2, x3, x4⟩ := h1.getOp hbr hlt
          have hd := drop_at hx.out
          have hR2 := hRk.out
          rw [hd, List.all_cons] at hR2
          have HX := hide (Right7_calls x wr)
          cases hp : rightB x with
          | false =>
            rw [hp] at hR2 HX
            have HF : Hid (R = false) := by show R = false; rw [hR2]; rfl
            clear hd hR2 hx hp hRk
            go_wp2_with (go_at_call 169; ((with_reducible refine (HX.out).mono ?_); rintro e w1 ⟨rfl, hb1⟩))
            go_ret
            exact ⟨by rw [HF.out] <;> rfl, hb0.trans ((hbr.trans (hb1.mono hbr.size)).mono hb0.size)⟩
          | true =>
            rw [hp] at hR2 HX
            have HR2 := hide hR2
            clear hd hR2 hx hp hRk
            go_wp2_with (go_at_call 169; ((with_reducible refine (HX.out).mono ?_); rintro e w1 ⟨rfl, hb1⟩))
            go_roundw
            case rel => exact ⟨k + 1, by go_num, by omega, by show R = _; rw [HR2.out]; rfl, hbr.trans (hb1.mono hbr.size)⟩
            case measure => simp [intOf]; omega
        · obtain rfl : k = l.length := by omega
          have HT : Hid (R = true) := by show R = true; rw [hRk.out, List.drop_eq_nil_of_le (by omega)]; rfl
          go_wp2
          go_ret
          exact ⟨by rw [HT.out] <;> rfl, hb0.trans (hbr.mono hb0.size)⟩
theorem three (D : Bool) (P : Prop) [Decidable P] : D = false ∨ (D = true ∧ decide P = false) ∨ (D = true ∧ decide P = true) := by cases D <;> simp; by_cases h : P <;> simp [h]
set_option maxRecDepth 100000 in
set_option maxHeartbeats 3200000 in
theorem registers10_calls (regs : Int) (a : Option Addr) (c : Nat) (l : List OpD) (w : World) (h : At w a l) (hl : l.length ≤ 1000000) :
    Calls Tryz.prog 151 #[.agg #[.int .i64 regs, .slice a l.length c]] w fun e w' => e = .returned (.bool (regsB regs l)) ∧ Below w.heap.size w w' := by
  obtain ⟨R, hR⟩ : ∃ R, R = regsB regs l := ⟨_, rfl⟩
  have hR2 : R = (decide (1 ≤ regs) && decide (regs ≤ 64) && l.all (fun x => !offB regs x)) := hR
  rw [← hR]
  have HR := hide hR2
  clear hR hR2
  have h1 := h.belowN (below_new w (.cells #[.int .i64 regs, .slice a l.length c] 24))
  have hX := Blk.new w 24 #[.int .i64 regs, .slice a l.length c]
  have hb0 := below_new w (.cells #[.int .i64 regs, .slice a l.length c] 24)
  by_cases c1 : regs < 1
  · have d1 : decide (regs < 1) = true := by simp; omega
    have HF : Hid (R = false) := by show R = false; rw [HR.out]; simp; omega
    go_enter Tryz.func151, Tryz.ntmps151
    go_wp2
    go_ret
    exact ⟨by rw [HF.out] <;> rfl, hb0⟩
  have d1 : decide (regs < 1) = false := by simp; omega
  by_cases c2 : 64 < regs
  · have d2 : decide (64 < regs) = true := by simp; omega
    have HF : Hid (R = false) := by show R = false; rw [HR.out]; simp; omega
    go_enter Tryz.func151, Tryz.ntmps151
    go_wp2
    go_ret
    exact ⟨by rw [HF.out] <;> rfl, hb0⟩
  have d2 : decide (64 < regs) = false := by simp; omega
  have HRA : Hid (R = l.all (fun x => !offB regs x)) := by
    show R = _
    rw [HR.out, show decide (1 ≤ regs) = true by simp; omega, show decide (regs ≤ 64) = true by simp; omega]
    simp
  clear HR
  go_enter Tryz.func151, Tryz.ntmps151
  go_wp2
  obtain ⟨W0, hW0⟩ : ∃ W0, W0 = w.alloc (.cells #[.int .i64 regs, .slice a l.length c] 24) := ⟨_, rfl⟩
  rw [← hW0] at hX h1 hb0 ⊢
  clear hW0
  go_loopw [3] (fun i wr => ∃ k : Nat, i = .int .i64 k ∧ k ≤ l.length ∧ Hid (R = (l.drop k).all (fun x => !offB regs x)) ∧ Below W0.heap.size W0 wr) (fun i _ => l.length - (intOf i).toNat)
  case atStart => exact ⟨0, rfl, by omega, HRA.out, Below.refl _ _⟩
  case round =>
    obtain ⟨k, rfl, hk, hRk, hbr⟩ := hrel
    have hg := hX.lt
    have hXr := hX.belowN hbr
    obtain ⟨q0, q1, q2, q3⟩ := hXr.c2
    by_cases hlt : k < l.length
    · obtain ⟨b1, off1, x, rfl, hx, x0, x1, x2, x3, x4⟩ := h1.getOp hbr hlt
      have hd := drop_at hx.out
      have hR2 := hRk.out
      rw [hd, List.all_cons] at hR2
      have HA := hide (fun w => Asks_calls x.kind w)
      obtain ⟨V, hV⟩ : ∃ V, V = offB regs x := ⟨_, rfl⟩
      have hV2 : V = ((aOf x.kind && decide (regs ≤ x.a)) || (bOf x.kind && decide (regs ≤ x.b)) || (dOf x.kind && decide (regs ≤ x.d))) := hV
      rw [← hV] at hR2
      have HR2 := hide hR2
      have HV := hide hV2
      generalize dOf x.kind = D at *
      generalize aOf x.kind = A at *
      generalize bOf x.kind = B at *
      generalize vOf x.kind = vv at *
      clear hd hR2 hx hRk hV hV2
      have tail : ∀ (bb : Bool), V = bb → Hid (R = (!bb && (l.drop (k + 1)).all fun x => !offB regs x)) := fun bb e => by show R = _; rw [HR2.out, e]
      rcases three D (regs ≤ x.d) with rfl | ⟨rfl, e1⟩ | ⟨rfl, e1⟩
      · rcases three A (regs ≤ x.a) with rfl | ⟨rfl, e2⟩ | ⟨rfl, e2⟩
        · rcases three B (regs ≤ x.b) with rfl | ⟨rfl, e3⟩ | ⟨rfl, e3⟩
          · have HV2 := tail false (by rw [HV.out]; simp only [Bool.false_and, Bool.true_and, Bool.false_or, Bool.or_false, Bool.or_true, Bool.true_or])
            clear tail HV HR2
            go_wp2_with (go_at_call 143; ((with_reducible refine (HA.out _).mono ?_); rintro e w1 ⟨rfl, hb1⟩; obtain ⟨hz, hB1, hX1⟩ := box5 hb1; obtain ⟨y0, y1, y2, y3, y4, z0, z1, z2, z3, z4⟩ := hX1.c5; obtain ⟨q0', q1', q2', q3'⟩ := (hXr.belowN hB1).c2; have hg1 := (hXr.belowN hB1).lt; clear hb1))
            go_roundw
            case rel => exact ⟨k + 1, by go_num, by omega, by show R = _; rw [HV2.out]; rfl, hbr.trans ((hB1.alloc (Nat.le_of_lt hz) _).mono hbr.size)⟩
            case measure => simp [intOf]; omega
          · have HV2 := tail false (by rw [HV.out]; simp only [e3, Bool.false_and, Bool.true_and, Bool.false_or, Bool.or_false, Bool.or_true, Bool.true_or])
            clear tail HV HR2
            go_wp2_with (go_at_call 143; ((with_reducible refine (HA.out _).mono ?_); rintro e w1 ⟨rfl, hb1⟩; obtain ⟨hz, hB1, hX1⟩ := box5 hb1; obtain ⟨y0, y1, y2, y3, y4, z0, z1, z2, z3, z4⟩ := hX1.c5; obtain ⟨q0', q1', q2', q3'⟩ := (hXr.belowN hB1).c2; have hg1 := (hXr.belowN hB1).lt; clear hb1))
            go_roundw
            case rel => exact ⟨k + 1, by go_num, by omega, by show R = _; rw [HV2.out]; rfl, hbr.trans ((hB1.alloc (Nat.le_of_lt hz) _).mono hbr.size)⟩
            case measure => simp [intOf]; omega
          · have HV2 := tail true (by rw [HV.out]; simp only [e3, Bool.false_and, Bool.true_and, Bool.false_or, Bool.or_false, Bool.or_true, Bool.true_or])
            have HF : Hid (R = false) := by show R = false; rw [HV2.out]; rfl
            clear tail HV HR2 HV2
            go_wp2_with (go_at_call 143; ((with_reducible refine (HA.out _).mono ?_); rintro e w1 ⟨rfl, hb1⟩; obtain ⟨hz, hB1, hX1⟩ := box5 hb1; obtain ⟨y0, y1, y2, y3, y4, z0, z1, z2, z3, z4⟩ := hX1.c5; obtain ⟨q0', q1', q2', q3'⟩ := (hXr.belowN hB1).c2; have hg1 := (hXr.belowN hB1).lt; clear hb1))
            go_ret
            exact ⟨by rw [HF.out] <;> rfl, hb0.trans ((hbr.trans ((hB1.alloc (Nat.le_of_lt hz) _).mono hbr.size)).mono hb0.size)⟩
        · rcases three B (regs ≤ x.b) with rfl | ⟨rfl, e3⟩ | ⟨rfl, e3⟩
          · have HV2 := tail false (by rw [HV.out]; simp only [e2, Bool.false_and, Bool.true_and, Bool.false_or, Bool.or_false, Bool.or_true, Bool.true_or])
            clear tail HV HR2
            go_wp2_with (go_at_call 143; ((with_reducible refine (HA.out _).mono ?_); rintro e w1 ⟨rfl, hb1⟩; obtain ⟨hz, hB1, hX1⟩ := box5 hb1; obtain ⟨y0, y1, y2, y3, y4, z0, z1, z2, z3, z4⟩ := hX1.c5; obtain ⟨q0', q1', q2', q3'⟩ := (hXr.belowN hB1).c2; have hg1 := (hXr.belowN hB1).lt; clear hb1))
            go_roundw
            case rel => exact ⟨k + 1, by go_num, by omega, by show R = _; rw [HV2.out]; rfl, hbr.trans ((hB1.alloc (Nat.le_of_lt hz) _).mono hbr.size)⟩
            case measure => simp [intOf]; omega
          · have HV2 := tail false (by rw [HV.out]; simp only [e2, e3, Bool.false_and, Bool.true_and, Bool.false_or, Bool.or_false, Bool.or_true, Bool.true_or])
            clear tail HV HR2
            go_wp2_with (go_at_call 143; ((with_reducible refine (HA.out _).mono ?_); rintro e w1 ⟨rfl, hb1⟩; obtain ⟨hz, hB1, hX1⟩ := box5 hb1; obtain ⟨y0, y1, y2, y3, y4, z0, z1, z2, z3, z4⟩ := hX1.c5; obtain ⟨q0', q1', q2', q3'⟩ := (hXr.belowN hB1).c2; have hg1 := (hXr.belowN hB1).lt; clear hb1))
            go_roundw
            case rel => exact ⟨k + 1, by go_num, by omega, by show R = _; rw [HV2.out]; rfl, hbr.trans ((hB1.alloc (Nat.le_of_lt hz) _).mono hbr.size)⟩
            case measure => simp [intOf]; omega
          · have HV2 := tail true (by rw [HV.out]; simp only [e2, e3, Bool.false_and, Bool.true_and, Bool.false_or, Bool.or_false, Bool.or_true, Bool.true_or])
            have HF : Hid (R = false) := by show R = false; rw [HV2.out]; rfl
            clear tail HV HR2 HV2
            go_wp2_with (go_at_call 143; ((with_reducible refine (HA.out _).mono ?_); rintro e w1 ⟨rfl, hb1⟩; obtain ⟨hz, hB1, hX1⟩ := box5 hb1; obtain ⟨y0, y1, y2, y3, y4, z0, z1, z2, z3, z4⟩ := hX1.c5; obtain ⟨q0', q1', q2', q3'⟩ := (hXr.belowN hB1).c2; have hg1 := (hXr.belowN hB1).lt; clear hb1))
            go_ret
            exact ⟨by rw [HF.out] <;> rfl, hb0.trans ((hbr.trans ((hB1.alloc (Nat.le_of_lt hz) _).mono hbr.size)).mono hb0.size)⟩
        · have HV2 := tail true (by rw [HV.out]; simp only [e2, Bool.false_and, Bool.true_and, Bool.false_or, Bool.or_false, Bool.or_true, Bool.true_or])
          have HF : Hid (R = false) := by show R = false; rw [HV2.out]; rfl
          clear tail HV HR2 HV2
          go_wp2_with (go_at_call 143; ((with_reducible refine (HA.out _).mono ?_); rintro e w1 ⟨rfl, hb1⟩; obtain ⟨hz, hB1, hX1⟩ := box5 hb1; obtain ⟨y0, y1, y2, y3, y4, z0, z1, z2, z3, z4⟩ := hX1.c5; obtain ⟨q0', q1', q2', q3'⟩ := (hXr.belowN hB1).c2; have hg1 := (hXr.belowN hB1).lt; clear hb1))
          go_ret
          exact ⟨by rw [HF.out] <;> rfl, hb0.trans ((hbr.trans ((hB1.alloc (Nat.le_of_lt hz) _).mono hbr.size)).mono hb0.size)⟩
      · rcases three A (regs ≤ x.a) with rfl | ⟨rfl, e2⟩ | ⟨rfl, e2⟩
        · rcases three B (regs ≤ x.b) with rfl | ⟨rfl, e3⟩ | ⟨rfl, e3⟩
          · have HV2 := tail false (by rw [HV.out]; simp only [e1, Bool.false_and, Bool.true_and, Bool.false_or, Bool.or_false, Bool.or_true, Bool.true_or])
            clear tail HV HR2
            go_wp2_with (go_at_call 143; ((with_reducible refine (HA.out _).mono ?_); rintro e w1 ⟨rfl, hb1⟩; obtain ⟨hz, hB1, hX1⟩ := box5 hb1; obtain ⟨y0, y1, y2, y3, y4, z0, z1, z2, z3, z4⟩ := hX1.c5; obtain ⟨q0', q1', q2', q3'⟩ := (hXr.belowN hB1).c2; have hg1 := (hXr.belowN hB1).lt; clear hb1))
            go_roundw
            case rel => exact ⟨k + 1, by go_num, by omega, by show R = _; rw [HV2.out]; rfl, hbr.trans ((hB1.alloc (Nat.le_of_lt hz) _).mono hbr.size)⟩
            case measure => simp [intOf]; omega
          · have HV2 := tail false (by rw [HV.out]; simp only [e1, e3, Bool.false_and, Bool.true_and, Bool.false_or, Bool.or_false, Bool.or_true, Bool.true_or])
            clear tail HV HR2
            go_wp2_with (go_at_call 143; ((with_reducible refine (HA.out _).mono ?_); rintro e w1 ⟨rfl, hb1⟩; obtain ⟨hz, hB1, hX1⟩ := box5 hb1; obtain ⟨y0, y1, y2, y3, y4, z0, z1, z2, z3, z4⟩ := hX1.c5; obtain ⟨q0', q1', q2', q3'⟩ := (hXr.belowN hB1).c2; have hg1 := (hXr.belowN hB1).lt; clear hb1))
            go_roundw
            case rel => exact ⟨k + 1, by go_num, by omega, by show R = _; rw [HV2.out]; rfl, hbr.trans ((hB1.alloc (Nat.le_of_lt hz) _).mono hbr.size)⟩
            case measure => simp [intOf]; omega
          · have HV2 := tail true (by rw [HV.out]; simp only [e1, e3, Bool.false_and, Bool.true_and, Bool.false_or, Bool.or_false, Bool.or_true, Bool.true_or])
            have HF : Hid (R = false) := by show R = false; rw [HV2.out]; rfl
            clear tail HV HR2 HV2
            go_wp2_with (go_at_call 143; ((with_reducible refine (HA.out _).mono ?_); rintro e w1 ⟨rfl, hb1⟩; obtain ⟨hz, hB1, hX1⟩ := box5 hb1; obtain ⟨y0, y1, y2, y3, y4, z0, z1, z2, z3, z4⟩ := hX1.c5; obtain ⟨q0', q1', q2', q3'⟩ := (hXr.belowN hB1).c2; have hg1 := (hXr.belowN hB1).lt; clear hb1))
            go_ret
            exact ⟨by rw [HF.out] <;> rfl, hb0.trans ((hbr.trans ((hB1.alloc (Nat.le_of_lt hz) _).mono hbr.size)).mono hb0.size)⟩
        · rcases three B (regs ≤ x.b) with rfl | ⟨rfl, e3⟩ | ⟨rfl, e3⟩
          · have HV2 := tail false (by rw [HV.out]; simp only [e1, e2, Bool.false_and, Bool.true_and, Bool.false_or, Bool.or_false, Bool.or_true, Bool.true_or])
            clear tail HV HR2
            go_wp2_with (go_at_call 143; ((with_reducible refine (HA.out _).mono ?_); rintro e w1 ⟨rfl, hb1⟩; obtain ⟨hz, hB1, hX1⟩ := box5 hb1; obtain ⟨y0, y1, y2, y3, y4, z0, z1, z2, z3, z4⟩ := hX1.c5; obtain ⟨q0', q1', q2', q3'⟩ := (hXr.belowN hB1).c2; have hg1 := (hXr.belowN hB1).lt; clear hb1))
            go_roundw
            case rel => exact ⟨k + 1, by go_num, by omega, by show R = _; rw [HV2.out]; rfl, hbr.trans ((hB1.alloc (Nat.le_of_lt hz) _).mono hbr.size)⟩
            case measure => simp [intOf]; omega
          · have HV2 := tail false (by rw [HV.out]; simp only [e1, e2, e3, Bool.false_and, Bool.true_and, Bool.false_or, Bool.or_false, Bool.or_true, Bool.true_or])
            clear tail HV HR2
            go_wp2_with (go_at_call 143; ((with_reducible refine (HA.out _).mono ?_); rintro e w1 ⟨rfl, hb1⟩; obtain ⟨hz, hB1, hX1⟩ := box5 hb1; obtain ⟨y0, y1, y2, y3, y4, z0, z1, z2, z3, z4⟩ := hX1.c5; obtain ⟨q0', q1', q2', q3'⟩ := (hXr.belowN hB1).c2; have hg1 := (hXr.belowN hB1).lt; clear hb1))
            go_roundw
            case rel => exact ⟨k + 1, by go_num, by omega, by show R = _; rw [HV2.out]; rfl, hbr.trans ((hB1.alloc (Nat.le_of_lt hz) _).mono hbr.size)⟩
            case measure => simp [intOf]; omega
          · have HV2 := tail true (by rw [HV.out]; simp only [e1, e2, e3, Bool.false_and, Bool.true_and, Bool.false_or, Bool.or_false, Bool.or_true, Bool.true_or])
            have HF : Hid (R = false) := by show R = false; rw [HV2.out]; rfl
            clear tail HV HR2 HV2
            go_wp2_with (go_at_call 143; ((with_reducible refine (HA.out _).mono ?_); rintro e w1 ⟨rfl, hb1⟩; obtain ⟨hz, hB1, hX1⟩ := box5 hb1; obtain ⟨y0, y1, y2, y3, y4, z0, z1, z2, z3, z4⟩ := hX1.c5; obtain ⟨q0', q1', q2', q3'⟩ := (hXr.belowN hB1).c2; have hg1 := (hXr.belowN hB1).lt; clear hb1))
            go_ret
            exact ⟨by rw [HF.out] <;> rfl, hb0.trans ((hbr.trans ((hB1.alloc (Nat.le_of_lt hz) _).mono hbr.size)).mono hb0.size)⟩
        · have HV2 := tail true (by rw [HV.out]; simp only [e1, e2, Bool.false_and, Bool.true_and, Bool.false_or, Bool.or_false, Bool.or_true, Bool.true_or])
          have HF : Hid (R = false) := by show R = false; rw [HV2.out]; rfl
          clear tail HV HR2 HV2
          go_wp2_with (go_at_call 143; ((with_reducible refine (HA.out _).mono ?_); rintro e w1 ⟨rfl, hb1⟩; obtain ⟨hz, hB1, hX1⟩ := box5 hb1; obtain ⟨y0, y1, y2, y3, y4, z0, z1, z2, z3, z4⟩ := hX1.c5; obtain ⟨q0', q1', q2', q3'⟩ := (hXr.belowN hB1).c2; have hg1 := (hXr.belowN hB1).lt; clear hb1))
          go_ret
          exact ⟨by rw [HF.out] <;> rfl, hb0.trans ((hbr.trans ((hB1.alloc (Nat.le_of_lt hz) _).mono hbr.size)).mono hb0.size)⟩
      · have HV2 := tail true (by rw [HV.out]; simp only [e1, Bool.false_and, Bool.true_and, Bool.false_or, Bool.or_false, Bool.or_true, Bool.true_or])
        have HF : Hid (R = false) := by show R = false; rw [HV2.out]; rfl
        clear tail HV HR2 HV2
        go_wp2_with (go_at_call 143; ((with_reducible refine (HA.out _).mono ?_); rintro e w1 ⟨rfl, hb1⟩; obtain ⟨hz, hB1, hX1⟩ := box5 hb1; obtain ⟨y0, y1, y2, y3, y4, z0, z1, z2, z3, z4⟩ := hX1.c5; obtain ⟨q0', q1', q2', q3'⟩ := (hXr.belowN hB1).c2; have hg1 := (hXr.belowN hB1).lt; clear hb1))
        go_ret
        exact ⟨by rw [HF.out] <;> rfl, hb0.trans ((hbr.trans ((hB1.alloc (Nat.le_of_lt hz) _).mono hbr.size)).mono hb0.size)⟩
    · obtain rfl : k = l.length := by omega
      have HT : Hid (R = true) := by show R = true; rw [hRk.out, List.drop_eq_nil_of_le (by omega)]; rfl
      go_wp2
      go_ret
      exact ⟨by rw [HT.out] <;> rfl, hb0.trans (hbr.mono hb0.size)⟩
end Go.Proofs.YtcamcnahkdiefaaGreat

/- Chapter 10, the document's answers: the looks, and Program. -/
namespace Go.Proofs.YtcamcnahkdiefaaGreat
set_option linter.unusedVariables false
set_option linter.unusedSimpArgs false
open Go.RowKit

set_option maxHeartbeats 1600000 in
theorem Look_calls (k : Nat) (hk : k < 4) (regs : Int) (a : Option Addr) (c : Nat) (l : List OpD) (w : World) (h : At w a l) (hl : l.length ≤ 1000000) :
    Calls Tryz.prog 112 #[.agg #[.int .i64 regs, .slice a l.length c], .int .i64 (k : Int)] w fun e w' => e = .returned (.int .i64 (errI k ⟨regs, a, c, l⟩)) ∧ Below w.heap.size w w' := by
  have h1 := h.belowN (below_new w (.cells #[.int .i64 regs, .slice a l.length c] 24))
  have hb0 := below_new w (.cells #[.int .i64 regs, .slice a l.length c] 24)
  have HF := hide (form10_calls regs a c l _ h1 hl)
  have HG := hide (registers10_calls regs a c l _ h1 hl)
  have HD := hide (Deep8_calls a c l _ h1 hl)
  have HW := hide (Writes9_calls a c l _ h1 hl)
  obtain ⟨E, hE⟩ : ∃ E, E = errI k ⟨regs, a, c, l⟩ := ⟨_, rfl⟩
  rw [← hE]
  have h4 : k = 0 ∨ k = 1 ∨ k = 2 ∨ k = 3 := by omega
  rcases h4 with rfl | rfl | rfl | rfl
  · have hE2 : E = if formB l = true then 0 else 6 := hE
    generalize formB l = F at *
    have HE := hide hE2
    clear hE hE2
    cases F
    all_goals
      go_enter Tryz.func112, Tryz.ntmps112
      go_wp2_with (go_at_call 150; ((with_reducible refine (HF.out).mono ?_); rintro e w1 ⟨rfl, hb1⟩))
      go_ret
      exact ⟨by rw [HE.out] <;> rfl, hb0.trans (hb1.mono hb0.size)⟩
  · have hE2 : E = if regsB regs l = true then 0 else 7 := hE
    generalize regsB regs l = F at *
    have HE := hide hE2
    clear hE hE2
    cases F
    all_goals
      go_enter Tryz.func112, Tryz.ntmps112
      go_wp2_with (go_at_call 151; ((with_reducible refine (HG.out).mono ?_); rintro e w1 ⟨rfl, hb1⟩))
      go_ret
      exact ⟨by rw [HE.out] <;> rfl, hb0.trans (hb1.mono hb0.size)⟩
  · have hE2 : E = if (deepS l).1 ≤ 8 then 0 else 8 := hE
    generalize (deepS l).1 = D at *
    generalize (deepS l).2 = D2 at *
    have HE := hide hE2
    clear hE hE2
    by_cases hd : D ≤ 8
    · have HE2 : Hid (E = 0) := by show E = 0; rw [HE.out, if_pos hd]
      clear HE
      go_enter Tryz.func112, Tryz.ntmps112
      go_wp2_with (go_at_call 152; ((with_reducible refine (HD.out).mono ?_); rintro e w1 ⟨rfl, rfl⟩))
      go_ret
      exact ⟨by rw [HE2.out] <;> rfl, hb0⟩
    · have HE2 : Hid (E = 8) := by show E = 8; rw [HE.out, if_neg hd]
      clear HE
      go_enter Tryz.func112, Tryz.ntmps112
      go_wp2_with (go_at_call 152; ((with_reducible refine (HD.out).mono ?_); rintro e w1 ⟨rfl, rfl⟩))
      go_ret
      exact ⟨by rw [HE2.out] <;> rfl, hb0⟩
  · have hE2 : E = sizeE l := hE
    rw [← hE2] at HW
    clear hE hE2
    go_enter Tryz.func112, Tryz.ntmps112
    go_wp2_with (go_at_call 51; ((with_reducible refine (HW.out).mono ?_); rintro e w1 ⟨rfl, hb1⟩))
    go_ret
    exact ⟨rfl, hb0.trans (hb1.mono hb0.size)⟩

set_option maxHeartbeats 1600000 in
theorem Prog10_calls (regs : Int) (a : Option Addr) (c : Nat) (l : List OpD) (w : World) (h : At w a l) (hl : l.length ≤ 1000000) :
    Calls Tryz.prog 87 #[.agg #[.int .i64 regs, .slice a l.length c]] w fun e w' => e = .returned (.int .i64 (checkS regs l)) ∧ Below w.heap.size w w' := by
  have h1 := h.belowN (below_new w (.cells #[.int .i64 regs, .slice a l.length c] 24))
  have hb0 := below_new w (.cells #[.int .i64 regs, .slice a l.length c] 24)
  have hX := Blk.new w 24 #[.int .i64 regs, .slice a l.length c]
  have HL := hide (fun k hk w' (g : At w' a l) => Look_calls k hk regs a c l w' g hl)
  obtain ⟨R, hR⟩ : ∃ R, R = checkS regs l := ⟨_, rfl⟩
  have hR2 : R = firstL [⟨regs, a, c, l⟩] [0, 1, 2, 3] := hR.trans (firstS_one ⟨regs, a, c, l⟩).symm
  rw [← hR]
  have HR := hide hR2
  clear hR hR2
  go_enter Tryz.func87, Tryz.ntmps87
  go_wp2
  obtain ⟨W0, hW0⟩ : ∃ W0, W0 = w.alloc (.cells #[.int .i64 regs, .slice a l.length c] 24) := ⟨_, rfl⟩
  rw [← hW0] at hX h1 hb0 ⊢
  clear hW0
  go_loopw [3] (fun i wr => ∃ k : Nat, i = .int .i64 k ∧ k ≤ 4 ∧ Hid (R = firstL [⟨regs, a, c, l⟩] ([0, 1, 2, 3].drop k)) ∧ Below W0.heap.size W0 wr) (fun i _ => 4 - (intOf i).toNat)
  case atStart => exact ⟨0, rfl, by omega, HR.out, Below.refl _ _⟩
  case round =>
    obtain ⟨k, rfl, hk, hRk, hbr⟩ := hrel
    obtain ⟨q0, q1, q2, q3⟩ := (hX.belowN hbr).c2
    by_cases hlt : k < 4
    · have hR2 : R = if rowE k [⟨regs, a, c, l⟩] ≠ 0 then rowE k [⟨regs, a, c, l⟩] else firstL [⟨regs, a, c, l⟩] ([0, 1, 2, 3].drop (k + 1)) := by
        rw [hRk.out]
        have h4 : k = 0 ∨ k = 1 ∨ k = 2 ∨ k = 3 := by omega
        rcases h4 with rfl | rfl | rfl | rfl <;> rfl
      rw [rowE_one] at hR2
      have HC := hide (HL.out k hlt wr (h1.belowN hbr))
      obtain ⟨E, hE⟩ : ∃ E, E = errI k ⟨regs, a, c, l⟩ := ⟨_, rfl⟩
      rw [← hE] at HC hR2
      have HR2 := hide hR2
      clear hE hR2 hRk
      by_cases hE0 : E = 0
      · obtain rfl := hE0
        go_wp2_with (go_at_call 112; ((with_reducible refine (HC.out).mono ?_); rintro e w1 ⟨rfl, hb1⟩))
        go_roundw
        case rel => exact ⟨k + 1, by go_num, by omega, by show R = _; rw [HR2.out]; rfl, hbr.trans (hb1.mono hbr.size)⟩
        case measure => simp [intOf]; omega
      · have hE1 : (E == 0) = false := by simpa using hE0
        have hE2 : (E != 0) = true := by simpa using hE0
        have HE0 := hide hE0
        clear hE0
        go_wp2_with (go_at_call 112; ((with_reducible refine (HC.out).mono ?_); rintro e w1 ⟨rfl, hb1⟩))
        go_ret
        exact ⟨by rw [HR2.out, if_pos HE0.out] <;> rfl, hb0.trans ((hbr.trans (hb1.mono hbr.size)).mono hb0.size)⟩
    · obtain rfl : k = 4 := by omega
      go_wp2
      go_ret
      exact ⟨by rw [hRk.out] <;> rfl, hb0.trans (hbr.mono hb0.size)⟩
end Go.Proofs.YtcamcnahkdiefaaGreat
