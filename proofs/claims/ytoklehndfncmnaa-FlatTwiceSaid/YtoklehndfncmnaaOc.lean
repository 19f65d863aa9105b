/- Chapter 7: what a kind asks for, whether an operation is one, what it writes and reads. -/
import Derived.Test.YtoklehndfncmnaaRn
namespace Go.Proofs.Ytoklehndfncmnaa
set_option linter.unusedVariables false
set_option linter.unusedSimpArgs false
open Go.RowKit

/-- A box of five cells, behind a call that leaves what was there. -/
theorem box5 {w w1 : World} {T : TypeId} {v0 v1 v2 v3 v4 : Value} (hb : Below (w.alloc (.cells #[v0, v1, v2, v3, v4] T)).heap.size (w.alloc (.cells #[v0, v1, v2, v3, v4] T)) w1) :
    w.heap.size < w1.heap.size ∧ Below w.heap.size w w1 ∧ Blk w1 w.heap.size T #[v0, v1, v2, v3, v4] :=
  ⟨Nat.lt_of_lt_of_le (by simp) hb.size, (Below.alloc (Below.refl _ _) (Nat.le_refl _) _).trans (hb.mono (by simp)), (Blk.new w T _).belowN hb⟩
theorem u64_zero (v : UInt64) : ((v.toNat : Int) == 0) = decide (v = 0) := by
  by_cases h : v = 0
  · simp [h]
  · have : v.toNat ≠ 0 := fun e => h (UInt64.toNat_inj.1 (by simpa using e))
    simp [h]; omega
theorem kind_no {k : Int} (h : k < 0 ∨ 7 < k) : (k == 0) = false ∧ (k == 1) = false ∧ (k == 2) = false ∧ (k == 3) = false ∧ (k == 4) = false ∧ (k == 5) = false ∧ (k == 6) = false ∧ (k == 7) = false := by
  refine ⟨?_, ?_, ?_, ?_, ?_, ?_, ?_, ?_⟩ <;> simp <;> omega
theorem asks_no {k : Int} (h : k < 0 ∨ 7 < k) : dOf k = false ∧ aOf k = false ∧ bOf k = false ∧ vOf k = false := by
  unfold dOf aOf bOf vOf
  simp
  omega

theorem of_calls (k : Int) (w : World) : Calls Try.prog 68 #[.int .i64 k] w fun e w' => e = .returned (.agg #[.bool (dOf k), .bool (aOf k), .bool (bOf k), .bool (vOf k)]) ∧ Below w.heap.size w w' := by
  rcases kind8 k with h | rfl | rfl | rfl | rfl | rfl | rfl | rfl | rfl | h
  case inl =>
    obtain ⟨h0, h1, h2, h3, h4, h5, h6, h7⟩ := kind_no (.inl h)
    obtain ⟨e1, e2, e3, e4⟩ := asks_no (.inl h)
    rw [e1, e2, e3, e4]
    clear e1 e2 e3 e4
    go_enter Try.func68, Try.ntmps68
    go_wp2
    exact bodyPost_ret (v := .agg #[.bool false, .bool false, .bool false, .bool false]) (by simp [results, Try.results68, go_sem]) rfl ⟨rfl, (by with_reducible repeat first | exact Below.refl _ _ | assumption | refine below_drewN ?_ _ | refine Below.drew ?_ | refine Below.alloc ?_ (by simp <;> omega) _ | refine Below.setCell ?_ (by simp <;> omega) _)⟩
  case inr.inr.inr.inr.inr.inr.inr.inr.inr =>
    obtain ⟨h0, h1, h2, h3, h4, h5, h6, h7⟩ := kind_no (.inr h)
    obtain ⟨e1, e2, e3, e4⟩ := asks_no (.inr h)
    rw [e1, e2, e3, e4]
    clear e1 e2 e3 e4
    go_enter Try.func68, Try.ntmps68
    go_wp2
    exact bodyPost_ret (v := .agg #[.bool false, .bool false, .bool false, .bool false]) (by simp [results, Try.results68, go_sem]) rfl ⟨rfl, (by with_reducible repeat first | exact Below.refl _ _ | assumption | refine below_drewN ?_ _ | refine Below.drew ?_ | refine Below.alloc ?_ (by simp <;> omega) _ | refine Below.setCell ?_ (by simp <;> omega) _)⟩
  all_goals
    go_enter Try.func68, Try.ntmps68
    go_wp2
    first
      | exact bodyPost_ret (v := .agg #[.bool false, .bool false, .bool false, .bool false]) (by simp [results, Try.results68, go_sem]) rfl ⟨rfl, (by with_reducible repeat first | exact Below.refl _ _ | assumption | refine below_drewN ?_ _ | refine Below.drew ?_ | refine Below.alloc ?_ (by simp <;> omega) _ | refine Below.setCell ?_ (by simp <;> omega) _)⟩
      | exact bodyPost_ret (v := .agg #[.bool true, .bool true, .bool true, .bool false]) (by simp [results, Try.results68, go_sem]) rfl ⟨rfl, (by with_reducible repeat first | exact Below.refl _ _ | assumption | refine below_drewN ?_ _ | refine Below.drew ?_ | refine Below.alloc ?_ (by simp <;> omega) _ | refine Below.setCell ?_ (by simp <;> omega) _)⟩
      | exact bodyPost_ret (v := .agg #[.bool true, .bool true, .bool false, .bool false]) (by simp [results, Try.results68, go_sem]) rfl ⟨rfl, (by with_reducible repeat first | exact Below.refl _ _ | assumption | refine below_drewN ?_ _ | refine Below.drew ?_ | refine Below.alloc ?_ (by simp <;> omega) _ | refine Below.setCell ?_ (by simp <;> omega) _)⟩
      | exact bodyPost_ret (v := .agg #[.bool true, .bool false, .bool false, .bool true]) (by simp [results, Try.results68, go_sem]) rfl ⟨rfl, (by with_reducible repeat first | exact Below.refl _ _ | assumption | refine below_drewN ?_ _ | refine Below.drew ?_ | refine Below.alloc ?_ (by simp <;> omega) _ | refine Below.setCell ?_ (by simp <;> omega) _)⟩
      | exact bodyPost_ret (v := .agg #[.bool false, .bool false, .bool false, .bool true]) (by simp [results, Try.results68, go_sem]) rfl ⟨rfl, (by with_reducible repeat first | exact Below.refl _ _ | assumption | refine below_drewN ?_ _ | refine Below.drew ?_ | refine Below.alloc ?_ (by simp <;> omega) _ | refine Below.setCell ?_ (by simp <;> omega) _)⟩

theorem known_calls (k : Int) (w : World) : Calls Try.prog 87 #[.int .i64 k] w fun e w' => e = .returned (.bool (decide (0 ≤ k) && decide (k ≤ 7))) ∧ w = w' := by
  by_cases h : 0 ≤ k
  · by_cases h2 : k < 8
    · have e : (decide (0 ≤ k) && decide (k ≤ 7)) = true := by simp; omega
      rw [e]
      clear e
      go_enter Try.func87, Try.ntmps87
      go_wp2
      go_ret
      exact ⟨rfl, rfl⟩
    · have e : (decide (0 ≤ k) && decide (k ≤ 7)) = false := by simp; omega
      rw [e]
      clear e
      go_enter Try.func87, Try.ntmps87
      go_wp2
      go_ret
      exact ⟨rfl, rfl⟩
  · have e : (decide (0 ≤ k) && decide (k ≤ 7)) = false := by simp; omega
    rw [e]
    clear e
    go_enter Try.func87, Try.ntmps87
    go_wp2
    go_ret
    exact ⟨rfl, rfl⟩
theorem register_calls (n : Int) (b : Bool) (w : World) : Calls Try.prog 88 #[.int .i64 n, .bool b] w fun e w' => e = .returned (.bool (regB n b)) ∧ w = w' := by
  cases b with
  | false =>
    by_cases h : n = 0
    · subst h
      go_enter Try.func88, Try.ntmps88
      go_wp2
      go_ret
      exact ⟨rfl, rfl⟩
    · have e : regB n false = false := by simp [regB, h]
      have h2 : (n == 0) = false := by simpa using h
      rw [e]
      clear e h
      go_enter Try.func88, Try.ntmps88
      go_wp2
      go_ret
      exact ⟨rfl, rfl⟩
  | true =>
    by_cases h : 0 ≤ n
    · by_cases h2 : n ≤ 2147483647
      · have e : regB n true = true := by simp [regB, h, h2]
        rw [e]
        clear e
        go_enter Try.func88, Try.ntmps88
        go_wp2
        go_ret
        exact ⟨rfl, rfl⟩
      · have e : regB n true = false := by simp [regB, h2]
        rw [e]
        clear e
        go_enter Try.func88, Try.ntmps88
        go_wp2
        go_ret
        exact ⟨rfl, rfl⟩
    · have e : regB n true = false := by simp [regB, h]
      rw [e]
      clear e
      go_enter Try.func88, Try.ntmps88
      go_wp2
      go_ret
      exact ⟨rfl, rfl⟩

set_option maxHeartbeats 800000 in
theorem Right_calls (x : OpD) (w : World) : Calls Try.prog 79 #[.agg #[.int .i64 x.kind, .int .i64 x.d, .int .i64 x.a, .int .i64 x.b, .int .u64 (x.v.toNat : Int)]] w fun e w' => e = .returned (.bool (rightB x)) ∧ Below w.heap.size w w' := by
  obtain ⟨K, hK⟩ : ∃ K, K = (decide (0 ≤ x.kind) && decide (x.kind ≤ 7)) := ⟨_, rfl⟩
  obtain ⟨D, hD⟩ : ∃ D, D = regB x.d (dOf x.kind) := ⟨_, rfl⟩
  obtain ⟨A, hA⟩ : ∃ A, A = regB x.a (aOf x.kind) := ⟨_, rfl⟩
  obtain ⟨B, hB⟩ : ∃ B, B = regB x.b (bOf x.kind) := ⟨_, rfl⟩
  obtain ⟨V, hV⟩ : ∃ V, V = vOf x.kind := ⟨_, rfl⟩
  have hR : rightB x = (K && D && A && B && (V || decide (x.v = 0))) := by rw [hK, hD, hA, hB, hV]; rfl
  have HR := hide hR
  have HO : ∀ w, Calls Try.prog 68 #[.int .i64 x.kind] w fun e w' => e = .returned (.agg #[.bool (dOf x.kind), .bool (aOf x.kind), .bool (bOf x.kind), .bool V]) ∧ Below w.heap.size w w' := by rw [hV]; exact of_calls x.kind
  have HK : ∀ w, Calls Try.prog 87 #[.int .i64 x.kind] w fun e w' => e = .returned (.bool K) ∧ w = w' := by rw [hK]; exact known_calls x.kind
  have HD : ∀ w, Calls Try.prog 88 #[.int .i64 x.d, .bool (dOf x.kind)] w fun e w' => e = .returned (.bool D) ∧ w = w' := by rw [hD]; exact register_calls _ _
  have HA : ∀ w, Calls Try.prog 88 #[.int .i64 x.a, .bool (aOf x.kind)] w fun e w' => e = .returned (.bool A) ∧ w = w' := by rw [hA]; exact register_calls _ _
  have HB : ∀ w, Calls Try.prog 88 #[.int .i64 x.b, .bool (bOf x.kind)] w fun e w' => e = .returned (.bool B) ∧ w = w' := by rw [hB]; exact register_calls _ _
  have HO := hide HO
  have HK := hide HK
  have HD := hide HD
  have HA := hide HA
  have HB := hide HB
  rw [hR]
  clear hR hK hD hA hB hV
  generalize dOf x.kind = d at *
  generalize aOf x.kind = a at *
  generalize bOf x.kind = b at *
  obtain ⟨k, rd, ra, rb, v⟩ := x
  simp only at *
  have hcase : K = false ∨ (K = true ∧ D = false) ∨ (K = true ∧ D = true ∧ A = false) ∨ (K = true ∧ D = true ∧ A = true ∧ B = false) ∨ (K = true ∧ D = true ∧ A = true ∧ B = true ∧ V = true) ∨ (K = true ∧ D = true ∧ A = true ∧ B = true ∧ V = false) := by
    cases K <;> cases D <;> cases A <;> cases B <;> cases V <;> simp
  have H : True := trivial
  rcases hcase with rfl | ⟨rfl, rfl⟩ | ⟨rfl, rfl, rfl⟩ | ⟨rfl, rfl, rfl, rfl⟩ | ⟨rfl, rfl, rfl, rfl, rfl⟩ | ⟨rfl, rfl, rfl, rfl, rfl⟩
  all_goals
    go_enter Try.func79, Try.ntmps79
    go_wp2_with (first | (go_at_call 68; ((with_reducible refine (HO.out _).mono ?_); rintro e w1 ⟨rfl, hb⟩; obtain ⟨hz, hB1, hX⟩ := box5 hb; obtain ⟨x0, x1, x2, x3, x4, y0, y1, y2, y3, y4⟩ := hX.c5; clear hb hX)) | (go_at_call 87; ((with_reducible refine (HK.out _).mono ?_); rintro e w2 ⟨rfl, rfl⟩)) | (go_at_call 88; first | ((with_reducible refine (HD.out _).mono ?_); rintro e w2 ⟨rfl, rfl⟩) | ((with_reducible refine (HA.out _).mono ?_); rintro e w2 ⟨rfl, rfl⟩) | ((with_reducible refine (HB.out _).mono ?_); rintro e w2 ⟨rfl, rfl⟩)))
    go_ret
    exact ⟨by simp [u64_zero], hB1.alloc (Nat.le_of_lt hz) _⟩

end Go.Proofs.Ytoklehndfncmnaa
