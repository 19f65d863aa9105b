/- Chapter 7, the document's answers: what a kind asks for, whether an operation is one. -/
import Derived.Test.YtoklehndfncmnaaOc
namespace Go.Proofs.Ytoklehndfncmnaa
set_option linter.unusedVariables false
set_option linter.unusedSimpArgs false
open Go.RowKit

theorem Asks_calls (k : Int) (w : World) : Calls Try.prog 67 #[.int .i64 k] w fun e w' => e = .returned (.agg #[.bool (dOf k), .bool (aOf k), .bool (bOf k), .bool (vOf k)]) ∧ Below w.heap.size w w' := by
  rcases kind8 k with h | rfl | rfl | rfl | rfl | rfl | rfl | rfl | rfl | h
  case inl =>
    obtain ⟨h0, h1, h2, h3, h4, h5, h6, h7⟩ := kind_no (.inl h)
    obtain ⟨e1, e2, e3, e4⟩ := asks_no (.inl h)
    rw [e1, e2, e3, e4]
    clear e1 e2 e3 e4
    have h8 : ¬ (1 ≤ k) := by omega
    go_enter Try.func67, Try.ntmps67
    go_wp2
    exact bodyPost_ret (v := .agg #[.bool false, .bool false, .bool false, .bool false]) (by simp [results, Try.results67, go_sem]) rfl ⟨rfl, (by with_reducible repeat first | exact Below.refl _ _ | assumption | refine below_drewN ?_ _ | refine Below.drew ?_ | refine Below.alloc ?_ (by simp <;> omega) _ | refine Below.setCell ?_ (by simp <;> omega) _)⟩
  case inr.inr.inr.inr.inr.inr.inr.inr.inr =>
    obtain ⟨h0, h1, h2, h3, h4, h5, h6, h7⟩ := kind_no (.inr h)
    obtain ⟨e1, e2, e3, e4⟩ := asks_no (.inr h)
    rw [e1, e2, e3, e4]
    clear e1 e2 e3 e4
    have h8 : 1 ≤ k := by omega
    have h9 : ¬ (k ≤ 3) := by omega
    go_enter Try.func67, Try.ntmps67
    go_wp2
    exact bodyPost_ret (v := .agg #[.bool false, .bool false, .bool false, .bool false]) (by simp [results, Try.results67, go_sem]) rfl ⟨rfl, (by with_reducible repeat first | exact Below.refl _ _ | assumption | refine below_drewN ?_ _ | refine Below.drew ?_ | refine Below.alloc ?_ (by simp <;> omega) _ | refine Below.setCell ?_ (by simp <;> omega) _)⟩
  all_goals
    go_enter Try.func67, Try.ntmps67
    go_wp2
    first
      | exact bodyPost_ret (v := .agg #[.bool false, .bool false, .bool false, .bool false]) (by simp [results, Try.results67, go_sem]) rfl ⟨rfl, (by with_reducible repeat first | exact Below.refl _ _ | assumption | refine below_drewN ?_ _ | refine Below.drew ?_ | refine Below.alloc ?_ (by simp <;> omega) _ | refine Below.setCell ?_ (by simp <;> omega) _)⟩
      | exact bodyPost_ret (v := .agg #[.bool true, .bool true, .bool true, .bool false]) (by simp [results, Try.results67, go_sem]) rfl ⟨rfl, (by with_reducible repeat first | exact Below.refl _ _ | assumption | refine below_drewN ?_ _ | refine Below.drew ?_ | refine Below.alloc ?_ (by simp <;> omega) _ | refine Below.setCell ?_ (by simp <;> omega) _)⟩
      | exact bodyPost_ret (v := .agg #[.bool true, .bool true, .bool false, .bool false]) (by simp [results, Try.results67, go_sem]) rfl ⟨rfl, (by with_reducible repeat first | exact Below.refl _ _ | assumption | refine below_drewN ?_ _ | refine Below.drew ?_ | refine Below.alloc ?_ (by simp <;> omega) _ | refine Below.setCell ?_ (by simp <;> omega) _)⟩
      | exact bodyPost_ret (v := .agg #[.bool true, .bool false, .bool false, .bool true]) (by simp [results, Try.results67, go_sem]) rfl ⟨rfl, (by with_reducible repeat first | exact Below.refl _ _ | assumption | refine below_drewN ?_ _ | refine Below.drew ?_ | refine Below.alloc ?_ (by simp <;> omega) _ | refine Below.setCell ?_ (by simp <;> omega) _)⟩
      | exact bodyPost_ret (v := .agg #[.bool false, .bool false, .bool false, .bool true]) (by simp [results, Try.results67, go_sem]) rfl ⟨rfl, (by with_reducible repeat first | exact Below.refl _ _ | assumption | refine below_drewN ?_ _ | refine Below.drew ?_ | refine Below.alloc ?_ (by simp <;> omega) _ | refine Below.setCell ?_ (by simp <;> omega) _)⟩
theorem idx_d (a b c d : Bool) (w : World) : (Instr.index 111 (.agg #[.bool a, .bool b, .bool c, .bool d]) (.int .i64 0)).run Try.prog w = .ok (.bool a) w := by kernel_rfl

/-- an index into an array as a value -/
theorem wpList_idx {ops : Array Oper} {rest : List Oper} {o : Oper} {act : Act} {Q : Exit → Act → World → Prop} {w : World} (x i : Operand) (hgd : o.guard = none) (ho : o.op = .index 111 x i) (a b c d : Bool)
    (hx : act.eval x = .agg #[.bool a, .bool b, .bool c, .bool d]) (hi : act.eval i = .int .i64 0) (h : wpList Try.prog ops Q rest (act.put o.dst (.bool a)) w) : wpList Try.prog ops Q (o :: rest) act w := by
  refine wpList_plain hgd fun K hK => ?_
  unfold Oper.wp execOp
  simp only [ho, hx, hi, Sem.run_bind, idx_d, Result.andThen_ok, Sem.run_pure]
  exact hK _ _ h
theorem regB_no {n : Int} {b : Bool} (h : n < 0 ∨ 2147483647 < n ∨ (b = false ∧ n ≠ 0)) : regB n b = false := by
  unfold regB
  cases b
  · simp; omega
  · simp at h ⊢; omega
theorem regB_yes {n : Int} {b : Bool} (h0 : 0 ≤ n) (h1 : n ≤ 2147483647) (h : b = true ∨ n = 0) : regB n b = true := by
  unfold regB
  cases b
  · simp at h ⊢; exact h
  · simp; omega


set_option maxHeartbeats 1600000 in
theorem Right7_calls (x : OpD) (w : World) : Calls Try.prog 75 #[.agg #[.int .i64 x.kind, .int .i64 x.d, .int .i64 x.a, .int .i64 x.b, .int .u64 (x.v.toNat : Int)]] w fun e w' => e = .returned (.bool (rightB x)) ∧ Below w.heap.size w w' := by
  obtain ⟨k, rd, ra, rb, v⟩ := x
  have HO := hide (Asks_calls k)
  obtain ⟨R, hR⟩ : ∃ R, R = rightB ⟨k, rd, ra, rb, v⟩ := ⟨_, rfl⟩
  rw [← hR]
  have hR' : R = (decide (0 ≤ k) && decide (k ≤ 7) && regB rd (dOf k) && regB ra (aOf k) && regB rb (bOf k) && (vOf k || decide (v = 0))) := hR
  have HR := hide hR'
  clear hR hR'
  generalize dOf k = D at *
  generalize aOf k = A at *
  generalize bOf k = B at *
  generalize vOf k = V at *
  by_cases k0 : k < 0
  · have e : decide (0 ≤ k) = false := by simp; omega
    have E := hide e
    clear e
    go_enter Try.func75, Try.ntmps75
    go_wp2
    go_ret
    exact ⟨by rw [HR.out, E.out]; simp, (by with_reducible repeat first | exact Below.refl _ _ | assumption | refine below_drewN ?_ _ | refine Below.drew ?_ | refine Below.alloc ?_ (by simp <;> omega) _ | refine Below.setCell ?_ (by simp <;> omega) _)⟩
  by_cases k1 : 7 < k
  · have e : decide (k ≤ 7) = false := by simp; omega
    have E := hide e
    clear e
    go_enter Try.func75, Try.ntmps75
    go_wp2
    go_ret
    exact ⟨by rw [HR.out, E.out]; simp, (by with_reducible repeat first | exact Below.refl _ _ | assumption | refine below_drewN ?_ _ | refine Below.drew ?_ | refine Below.alloc ?_ (by simp <;> omega) _ | refine Below.setCell ?_ (by simp <;> omega) _)⟩
  go_enter Try.func75, Try.ntmps75
  go_wp2_with (go_at_call 67; ((with_reducible refine (HO.out _).mono ?_); rintro e w1 ⟨rfl, hb⟩; obtain ⟨hz, hB1, hX⟩ := box5 hb; obtain ⟨x0, x1, x2, x3, x4, y0, y1, y2, y3, y4⟩ := hX.c5; clear hb hX))
  have hB : Below w.heap.size w ((w1.alloc (.cells #[.bool D, .bool A, .bool B, .bool V] 111)).alloc (.cells #[.int .i64 rd, .int .i64 ra, .int .i64 rb] 126)) := (hB1.alloc (Nat.le_of_lt hz) _).alloc (by simp; omega) _
  go_loopw [5] (fun s wr => ∃ j : Nat, s = .int .i64 j ∧ j ≤ 3 ∧ Hid ((0 < j → regB rd D = true) ∧ (1 < j → regB ra A = true) ∧ (2 < j → regB rb B = true)) ∧ wr = ((w1.alloc (.cells #[.bool D, .bool A, .bool B, .bool V] 111)).alloc (.cells #[.int .i64 rd, .int .i64 ra, .int .i64 rb] 126))) (fun s _ => 3 - (intOf s).toNat)
  case atStart => exact ⟨0, rfl, by omega, ⟨by omega, by omega, by omega⟩, rfl⟩
  case round =>
    obtain ⟨j, rfl, hj3, hj, rfl⟩ := hrel
    have hc : j = 0 ∨ j = 1 ∨ j = 2 ∨ j = 3 := by omega
    rcases hc with rfl | rfl | rfl | rfl
    · by_cases c1 : rd < 0
      · have e : regB rd D = false := regB_no (.inl c1)
        have E := hide e
        clear e
        go_wp2
        go_ret
        exact ⟨by rw [HR.out, E.out]; simp, hB⟩
      by_cases c2 : 2147483647 < rd
      · have e : regB rd D = false := regB_no (.inr (.inl c2))
        have E := hide e
        clear e
        go_wp2
        go_ret
        exact ⟨by rw [HR.out, E.out]; simp, hB⟩
      cases D with
      | false =>
        by_cases c3 : rd = 0
        · have c4 : (rd == 0) = true := by simpa using c3
          have c5 : (rd != 0) = false := by simpa using c3
          have HC := hide c3
          clear c3
          go_wp2
          go_roundw
          case rel => exact ⟨0 + 1, rfl, by omega, by have := regB_yes (n := rd) (b := false) (by omega) (by omega) (.inr HC.out); simp [Hid] at hj ⊢; simp [hj, this], by trivial⟩
          case measure => simp [intOf]
        · have c4 : (rd == 0) = false := by simpa using c3
          have c5 : (rd != 0) = true := by simpa using c3
          have e : regB rd false = false := regB_no (.inr (.inr ⟨rfl, c3⟩))
          have E := hide e
          clear e c3
          go_wp2
          go_ret
          exact ⟨by rw [HR.out, E.out]; simp, hB⟩
      | true =>
        go_wp2
        go_roundw
        case rel => exact ⟨0 + 1, rfl, by omega, by have := regB_yes (n := rd) (b := true) (by omega) (by omega) (.inl rfl); simp [Hid] at hj ⊢; simp [hj, this], by trivial⟩
        case measure => simp [intOf]
    · by_cases c1 : ra < 0
      · have e : regB ra A = false := regB_no (.inl c1)
        have E := hide e
        clear e
        go_wp2
        go_ret
        exact ⟨by rw [HR.out, E.out]; simp, hB⟩
      by_cases c2 : 2147483647 < ra
      · have e : regB ra A = false := regB_no (.inr (.inl c2))
        have E := hide e
        clear e
        go_wp2
        go_ret
        exact ⟨by rw [HR.out, E.out]; simp, hB⟩
      cases A with
      | false =>
        by_cases c3 : ra = 0
        · have c4 : (ra == 0) = true := by simpa using c3
          have c5 : (ra != 0) = false := by simpa using c3
          have HC := hide c3
          clear c3
          go_wp2
          go_roundw
          case rel => exact ⟨1 + 1, rfl, by omega, by have := regB_yes (n := ra) (b := false) (by omega) (by omega) (.inr HC.out); simp [Hid] at hj ⊢; simp [hj, this], by trivial⟩
          case measure => simp [intOf]
        · have c4 : (ra == 0) = false := by simpa using c3
          have c5 : (ra != 0) = true := by simpa using c3
          have e : regB ra false = false := regB_no (.inr (.inr ⟨rfl, c3⟩))
          have E := hide e
          clear e c3
          go_wp2
          go_ret
          exact ⟨by rw [HR.out, E.out]; simp, hB⟩
      | true =>
        go_wp2
        go_roundw
        case rel => exact ⟨1 + 1, rfl, by omega, by have := regB_yes (n := ra) (b := true) (by omega) (by omega) (.inl rfl); simp [Hid] at hj ⊢; simp [hj, this], by trivial⟩
        case measure => simp [intOf]
    · by_cases c1 : rb < 0
      · have e : regB rb B = false := regB_no (.inl c1)
        have E := hide e
        clear e
        go_wp2
        go_ret
        exact ⟨by rw [HR.out, E.out]; simp, hB⟩
      by_cases c2 : 2147483647 < rb
      · have e : regB rb B = false := regB_no (.inr (.inl c2))
        have E := hide e
        clear e
        go_wp2
        go_ret
        exact ⟨by rw [HR.out, E.out]; simp, hB⟩
      cases B with
      | false =>
        by_cases c3 : rb = 0
        · have c4 : (rb == 0) = true := by simpa using c3
          have c5 : (rb != 0) = false := by simpa using c3
          have HC := hide c3
          clear c3
          go_wp2
          go_roundw
          case rel => exact ⟨2 + 1, rfl, by omega, by have := regB_yes (n := rb) (b := false) (by omega) (by omega) (.inr HC.out); simp [Hid] at hj ⊢; simp [hj, this], by trivial⟩
          case measure => simp [intOf]
        · have c4 : (rb == 0) = false := by simpa using c3
          have c5 : (rb != 0) = true := by simpa using c3
          have e : regB rb false = false := regB_no (.inr (.inr ⟨rfl, c3⟩))
          have E := hide e
          clear e c3
          go_wp2
          go_ret
          exact ⟨by rw [HR.out, E.out]; simp, hB⟩
      | true =>
        go_wp2
        go_roundw
        case rel => exact ⟨2 + 1, rfl, by omega, by have := regB_yes (n := rb) (b := true) (by omega) (by omega) (.inl rfl); simp [Hid] at hj ⊢; simp [hj, this], by trivial⟩
        case measure => simp [intOf]
    · have hk0 : decide (0 ≤ k) = true := by simp; omega
      have hk1 : decide (k ≤ 7) = true := by simp; omega
      have E := hide (And.intro hk0 hk1)
      clear hk0 hk1
      have hu := u64_zero v
      cases V with
      | true =>
        go_wp2
        go_ret
        obtain ⟨q1, q2, q3⟩ := hj.out
        exact ⟨by rw [HR.out, E.out.1, E.out.2, q1 (by omega), q2 (by omega), q3 (by omega)]; rfl, hB⟩
      | false =>
        go_wp2
        go_ret
        obtain ⟨q1, q2, q3⟩ := hj.out
        exact ⟨by rw [HR.out, E.out.1, E.out.2, q1 (by omega), q2 (by omega), q3 (by omega)]; simp [u64_zero], hB⟩
end Go.Proofs.Ytoklehndfncmnaa
