/- Chapter 17: the document's asks and place. -/
import Derived.Test.YthncfoompoheoaaTf
import Derived.Test.YthncfoompoheoaaQc
import Derived.Test.YthncfoompoheoaaQi
namespace Go.Proofs.Ythncfoompoheoaa
set_option linter.unusedVariables false
set_option linter.unusedSimpArgs false
open Go.RowKit
theorem plcF_step {l : List Int} {n : Int} : ∀ (j : Nat), (∀ (i : Nat) (v : Int), i < j → l[i]? = some v → v ≠ n) → j ≤ l.length → plcF l n 0 = plcF (l.drop j) n j := by
  intro j
  induction j with
  | zero => intro _ _; rw [List.drop_zero]
  | succ j ih =>
    intro h hj
    rw [ih (fun i v hi => h i v (by omega)) (by omega), List.drop_eq_getElem_cons (by omega)]
    simp only [plcF]
    rw [if_neg (h j _ (by omega) (List.getElem?_eq_getElem (by omega)))]
set_option maxRecDepth 100000 in
set_option maxHeartbeats 3200000 in
theorem place_calls (a : Option Addr) (c n : Nat) (l : List Int) (hn : n = l.length) (v : Int) (w : World) (h : At w a l) (hl : n ≤ 1000000) :
    Calls Try.prog 101 #[.slice a n c, .int .i64 v] w fun e w' => e = .returned (.int .i64 (plc l v)) ∧ w = w' := by
  have HN := hide hn
  have HP : Hid (∀ (j : Nat) (x : Int), l[j]? = some x → (∀ (i : Nat) (v' : Int), i < j → l[i]? = some v' → v' ≠ v) → x = v → plc l v = (j : Int)) := by
    show ∀ (j : Nat) (x : Int), _ → _ → _ → _
    intro j x hx h1 e
    have hj := (List.getElem?_eq_some_iff.1 hx).1
    unfold plc
    rw [plcF_step j h1 (by omega), List.drop_eq_getElem_cons hj]
    simp only [plcF]
    rw [if_pos (by have : l[j] = x := by rw [List.getElem?_eq_getElem hj] at hx; injection hx
                   rw [this]; exact e)]
  have HP2 : Hid ((∀ (i : Nat) (v' : Int), i < l.length → l[i]? = some v' → v' ≠ v) → plc l v = 0) := by
    show _ → _
    intro h1
    unfold plc
    rw [plcF_step l.length h1 (Nat.le_refl _), List.drop_length]
    rfl
  clear hn
  go_enter Try.func101, Try.ntmps101
  go_wp2
  go_loopw [5] (fun jv wr => ∃ j : Nat, jv = .int .i64 j ∧ j ≤ n ∧ Hid (∀ (i : Nat) (v' : Int), i < j → l[i]? = some v' → v' ≠ v) ∧ w = wr) (fun jv _ => n - (intOf jv).toNat)
  case atStart => exact ⟨0, rfl, by omega, hide (fun i v' hi => by omega), rfl⟩
  case round =>
    obtain ⟨j, rfl, hj, hno, rfl⟩ := hrel
    by_cases hlt : j < n
    · obtain ⟨b, off, x, rfl, hx, x0⟩ := h.getI (Below.refl _ _) (by rw [← HN.out]; exact hlt)
      have hj0 : (0 : Int) ≤ (j : Int) := by omega
      have hj1 : (j : Int) < (n : Int) := by omega
      by_cases e : x = v
      · have e1 : (x == v) = true := by simpa using e
        have HR := hide (HP.out j x hx.out hno.out e)
        clear e hx
        go_wp2
        go_ret
        exact ⟨by rw [HR.out]; rfl, rfl⟩
      · have e1 : (x == v) = false := by simpa using e
        have HNO := hide (show ∀ (i : Nat) (v' : Int), i < j + 1 → l[i]? = some v' → v' ≠ v from fun i v' hi hv => by
          by_cases hij : i = j
          · subst hij
            have := hx.out.symm.trans hv
            injection this with this
            rw [← this]; exact e
          · exact hno.out i v' (by omega) hv)
        clear e hx
        go_wp2
        go_roundw
        case rel => exact ⟨j + 1, by go_num, by omega, HNO, trivial⟩
        case measure => simp [intOf]; omega
    · obtain rfl : n = j := by omega
      have HR := hide (HP2.out (by rw [← HN.out]; exact hno.out))
      go_wp2
      go_ret
      exact ⟨by rw [HR.out]; rfl, rfl⟩
theorem asked_any (x : OpD) (k : Int) : ((valsO x).any fun v => decide (v = k)) = ((dOf x.kind && decide (x.d = k)) || ((aOf x.kind && decide (x.a = k)) || (bOf x.kind && decide (x.b = k)))) := by
  have hb : bOf x.kind = true → aOf x.kind = true := by
    unfold bOf aOf
    intro h
    simp only [Bool.and_eq_true, decide_eq_true_eq] at h
    simp only [Bool.or_eq_true, Bool.and_eq_true, decide_eq_true_eq]
    omega
  unfold valsO askF
  generalize dOf x.kind = D at *
  generalize aOf x.kind = A at *
  generalize bOf x.kind = B at *
  cases D <;> cases A <;> cases B <;> simp [fldO] at hb ⊢
theorem askedB_snoc (l : List OpD) (i : Nat) (x : OpD) (h : l[i]? = some x) (k : Int) : askedB (l.take (i + 1)) k = (askedB (l.take i) k || ((valsO x).any fun v => decide (v = k))) := by
  unfold askedB
  rw [List.take_add_one, h, List.flatMap_append, List.any_append]
  simp
theorem askedB_mono (l : List OpD) (i : Nat) (k : Int) (h : askedB (l.take i) k = true) : askedB l k = true := by
  unfold askedB at *
  rw [← List.take_append_drop i l, List.flatMap_append, List.any_append, h, Bool.true_or]
set_option maxRecDepth 100000 in
set_option maxHeartbeats 6400000 in
theorem asks_calls (regs : Int) (a : Option Addr) (c n : Nat) (l : List OpD) (hn : n = l.length) (k : Int) (w : World) (h : At w a l) (hl : n ≤ 1000000) :
    Calls Try.prog 100 #[.agg #[.int .i64 regs, .slice a n c], .int .i64 k] w fun e w' => e = .returned (.bool (askedB l k)) ∧ Below w.heap.size w w' := by
  have hb0 := below_new12 w (.cells #[.int .i64 regs, .slice a n c] 24)
  have hX := Blk.new w 24 #[.int .i64 regs, .slice a n c]
  have h1 := h.belowN hb0
  have HN := hide hn
  clear hn
  obtain ⟨W1, hW1⟩ : ∃ W1, W1 = w.alloc (.cells #[.int .i64 regs, .slice a n c] 24) := ⟨_, rfl⟩
  go_enter Try.func100, Try.ntmps100
  go_wp2
  rw [← hW1] at hb0 hX h1 ⊢
  clear hW1
  have hz1 := hb0.size
  go_loopw [5] (fun iv wr => ∃ i : Nat, iv = .int .i64 i ∧ i ≤ n ∧ Hid (askedB (l.take i) k = false) ∧ Below W1.heap.size W1 wr) (fun iv _ => n - (intOf iv).toNat)
  case atStart => exact ⟨0, rfl, by omega, rfl, Below.refl _ _⟩
  case round =>
    obtain ⟨i, rfl, hi, hno, hb⟩ := hrel
    have hzr := hb.size
    obtain ⟨p0, p1, _, _⟩ := (hX.belowN hb).c2
    by_cases hlt : i < n
    · obtain ⟨b1, off1, x, rfl, hx, x0, x1, x2, x3, x4⟩ := h1.getOp hb (by rw [← HN.out]; exact hlt)
      have HS := hide (askedB_snoc l i x hx.out k)
      rw [hno.out, Bool.false_or, asked_any] at HS
      have HT := hide (fun (h : askedB (l.take (i + 1)) k = true) => askedB_mono l (i + 1) k h)
      have HK := hide (fun W => Asks_calls x.kind W)
      have hb1w := World.block_lt_of_cell? _ _ x0
      have hi0 : (0 : Int) ≤ (i : Int) := by omega
      have hi1 : (i : Int) < (n : Int) := by omega
      obtain ⟨D, hD⟩ : ∃ D, dOf x.kind = D := ⟨_, rfl⟩
      obtain ⟨A, hA⟩ : ∃ A, aOf x.kind = A := ⟨_, rfl⟩
      obtain ⟨B, hB⟩ : ∃ B, bOf x.kind = B := ⟨_, rfl⟩
      obtain ⟨V, hV⟩ : ∃ V, vOf x.kind = V := ⟨_, rfl⟩
      rw [hD, hA, hB, hV] at HK
      rw [hD, hA, hB] at HS
      clear hx hD hA hB hV
      have hpX := (hX.belowN hb)
      have HNB := hide (fun (W : World) => below_new12 W (.cells #[.bool D, .bool A, .bool B, .bool V] 111))
      have c1 : (D = true ∧ decide (x.d = k) = true ∧ (x.d == k) = true) ∨ (D = false ∧ (D && decide (x.d = k)) = false) ∨ (D = true ∧ decide (x.d = k) = false ∧ (x.d == k) = false) := by
        cases D <;> by_cases e : x.d = k <;> simp [e]
      have c2 : (A = true ∧ decide (x.a = k) = true ∧ (x.a == k) = true) ∨ (A = false ∧ (A && decide (x.a = k)) = false) ∨ (A = true ∧ decide (x.a = k) = false ∧ (x.a == k) = false) := by
        cases A <;> by_cases e : x.a = k <;> simp [e]
      have c3 : (B = true ∧ decide (x.b = k) = true ∧ (x.b == k) = true) ∨ (B = false ∧ (B && decide (x.b = k)) = false) ∨ (B = true ∧ decide (x.b = k) = false ∧ (x.b == k) = false) := by
        cases B <;> by_cases e : x.b = k <;> simp [e]
      rcases c1 with ⟨rfl, d1, d2⟩ | ⟨rfl, d1⟩ | ⟨rfl, d1, d2⟩
      · rw [d1, Bool.and_self, Bool.true_or] at HS
        clear c2 c3 d1
        go_wp2_with (go_at_call 65; go_must ((with_reducible refine (HK.out _).mono ?_); rintro e w3 ⟨rfl, hb3⟩; have hn3 := HNB.out w3; have hq3 := hb3.trans (hn3.mono hb3.size); obtain ⟨p0', p1', _, _⟩ := (hpX.belowN hq3).c2; obtain ⟨y0, _⟩ := bcell hq3; have t0 := (y0 b1 (off1 + i * 5) hb1w).trans x0; have t1 := (y0 b1 (off1 + i * 5 + 1) hb1w).trans x1; have t2 := (y0 b1 (off1 + i * 5 + 2) hb1w).trans x2; have t3 := (y0 b1 (off1 + i * 5 + 3) hb1w).trans x3; clear y0))
        go_ret
        exact ⟨by rw [HT.out HS.out]; rfl, hb0.trans ((hb.trans (hq3.mono hzr)).mono hz1)⟩
      all_goals
        rw [d1] at HS
        clear d1
        rcases c2 with ⟨rfl, d3, d4⟩ | ⟨rfl, d3⟩ | ⟨rfl, d3, d4⟩
        · rw [d3] at HS
          simp only [Bool.and_self, Bool.true_or, Bool.or_true, Bool.and_false, Bool.false_or] at HS
          clear c3 d3
          go_wp2_with (go_at_call 65; go_must ((with_reducible refine (HK.out _).mono ?_); rintro e w3 ⟨rfl, hb3⟩; have hn3 := HNB.out w3; have hq3 := hb3.trans (hn3.mono hb3.size); obtain ⟨p0', p1', _, _⟩ := (hpX.belowN hq3).c2; obtain ⟨y0, _⟩ := bcell hq3; have t0 := (y0 b1 (off1 + i * 5) hb1w).trans x0; have t1 := (y0 b1 (off1 + i * 5 + 1) hb1w).trans x1; have t2 := (y0 b1 (off1 + i * 5 + 2) hb1w).trans x2; have t3 := (y0 b1 (off1 + i * 5 + 3) hb1w).trans x3; clear y0))
          go_ret
          exact ⟨by rw [HT.out HS.out]; rfl, hb0.trans ((hb.trans (hq3.mono hzr)).mono hz1)⟩
        all_goals
          rw [d3] at HS
          clear d3
          rcases c3 with ⟨rfl, d5, d6⟩ | ⟨rfl, d5⟩ | ⟨rfl, d5, d6⟩
          · rw [d5] at HS
            simp only [Bool.and_self, Bool.true_or, Bool.or_true, Bool.and_false, Bool.false_or] at HS
            clear d5
            go_wp2_with (go_at_call 65; go_must ((with_reducible refine (HK.out _).mono ?_); rintro e w3 ⟨rfl, hb3⟩; have hn3 := HNB.out w3; have hq3 := hb3.trans (hn3.mono hb3.size); obtain ⟨p0', p1', _, _⟩ := (hpX.belowN hq3).c2; obtain ⟨y0, _⟩ := bcell hq3; have t0 := (y0 b1 (off1 + i * 5) hb1w).trans x0; have t1 := (y0 b1 (off1 + i * 5 + 1) hb1w).trans x1; have t2 := (y0 b1 (off1 + i * 5 + 2) hb1w).trans x2; have t3 := (y0 b1 (off1 + i * 5 + 3) hb1w).trans x3; clear y0))
            go_ret
            exact ⟨by rw [HT.out HS.out]; rfl, hb0.trans ((hb.trans (hq3.mono hzr)).mono hz1)⟩
          all_goals
            rw [d5] at HS
            simp only [Bool.and_self, Bool.true_or, Bool.or_true, Bool.and_false, Bool.false_or, Bool.or_false] at HS
            clear d5
            go_wp2_with (go_at_call 65; go_must ((with_reducible refine (HK.out _).mono ?_); rintro e w3 ⟨rfl, hb3⟩; have hn3 := HNB.out w3; have hq3 := hb3.trans (hn3.mono hb3.size); obtain ⟨p0', p1', _, _⟩ := (hpX.belowN hq3).c2; obtain ⟨y0, _⟩ := bcell hq3; have t0 := (y0 b1 (off1 + i * 5) hb1w).trans x0; have t1 := (y0 b1 (off1 + i * 5 + 1) hb1w).trans x1; have t2 := (y0 b1 (off1 + i * 5 + 2) hb1w).trans x2; have t3 := (y0 b1 (off1 + i * 5 + 3) hb1w).trans x3; clear y0))
            go_roundw
            case rel => exact ⟨i + 1, by go_num, by omega, HS.out, hb.trans (hq3.mono hzr)⟩
            case measure => simp [intOf]; omega
    · obtain rfl : n = i := by omega
      have HE : Hid (askedB l k = false) := by have := hno.out; rw [HN.out, List.take_length] at this; exact this
      go_wp2
      go_ret
      exact ⟨by rw [HE.out]; rfl, hb0.trans (hb.mono hz1)⟩
end Go.Proofs.Ythncfoompoheoaa
