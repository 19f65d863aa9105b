/- Chapter 8, the document's answers: Deep, Around, Inside, Parts. -/
import Derived.Test.YtoklehndfncmnaaN8g
namespace Go.Proofs.Ytoklehndfncmnaa
set_option linter.unusedVariables false
set_option linter.unusedSimpArgs false
open Go.RowKit

theorem Match8W (a : Option Addr) (c : Nat) (l : List OpD) (w : World) (h : At w a l) (hl : l.length ≤ 1000000) (hw : well l = true) :
    Calls Try.prog 36 #[.slice a l.length c] w fun e w' => ∃ a' c', e = .returned (.tuple #[.slice a' l.length c', .int .i64 0]) ∧ Own w' w.heap.size 3 a' c' (matchL l) ∧ Below w.heap.size w w' := by
  refine (Match8_calls a c l w h hl).mono ?_
  rintro e w' hp
  unfold Match8Post at hp
  have e0 : matchS l = (matchL l, 0) := by unfold matchS; rw [if_pos hw]
  rw [e0] at hp
  simp only [matchL_length] at hp
  exact hp
theorem Match8N (a : Option Addr) (c : Nat) (l : List OpD) (w : World) (h : At w a l) (hl : l.length ≤ 1000000) (hw : well l = false) :
    Calls Try.prog 36 #[.slice a l.length c] w fun e w' => ∃ a' c', e = .returned (.tuple #[.slice a' 0 c', .int .i64 6]) ∧ Below w.heap.size w w' := by
  refine (Match8_calls a c l w h hl).mono ?_
  rintro e w' hp
  unfold Match8Post at hp
  have e0 : matchS l = ([], 6) := by unfold matchS; rw [if_neg (by simp [hw])]
  rw [e0] at hp
  obtain ⟨a', c', rfl, h1, h2⟩ := hp
  exact ⟨a', c', rfl, h2⟩
theorem MatchW (a : Option Addr) (c : Nat) (l : List OpD) (w : World) (h : At w a l) (hl : l.length ≤ 1000000) (hw : well l = true) :
    Calls Try.prog 32 #[.slice a l.length c] w fun e w' => ∃ a' c', e = .returned (.tuple #[.slice a' l.length c', .int .i64 0]) ∧ Own w' w.heap.size 3 a' c' (matchL l) ∧ Below w.heap.size w w' := by
  refine (Match_calls a c l w h hl).mono ?_
  rintro e w' hp
  unfold MatchPost at hp
  have e0 : matchS l = (matchL l, 0) := by unfold matchS; rw [if_pos hw]
  rw [e0] at hp
  simp only [matchL_length] at hp
  exact hp
theorem MatchN (a : Option Addr) (c : Nat) (l : List OpD) (w : World) (h : At w a l) (hl : l.length ≤ 1000000) (hw : well l = false) :
    Calls Try.prog 32 #[.slice a l.length c] w fun e w' => ∃ a' c', e = .returned (.tuple #[.slice a' 0 c', .int .i64 6]) ∧ Below w.heap.size w w' := by
  refine (Match_calls a c l w h hl).mono ?_
  rintro e w' hp
  unfold MatchPost at hp
  have e0 : matchS l = ([], 6) := by unfold matchS; rw [if_neg (by simp [hw])]
  rw [e0] at hp
  obtain ⟨a', c', rfl, h1, h2⟩ := hp
  exact ⟨a', c', rfl, h2⟩

/-- the greatest number of blocks that are open -/
def hmax : Int → Int → List OpD → Int
  | n, m, [] => max m n
  | n, m, x :: r => hmax (if x.kind = 7 then n + 1 else if x.kind = 0 then n - 1 else n) (max m n) r
theorem hmax_one (n m : Int) (a : List OpD) (x : OpD) : hmax n m (a ++ [x]) = max (hmax n m a) (hI n (a ++ [x])) := by
  induction a generalizing n m with
  | nil => rfl
  | cons y r ih => exact ih _ _
theorem hmax_dp (l : List OpD) (n m : Nat) (h : wellF n l = true) : hmax n m l = (dpF n (max m n) l : Nat) := by
  induction l generalizing n m with
  | nil => simp [hmax, dpF]; omega
  | cons x r ih =>
    rw [wellF] at h
    simp only [hmax, dpF]
    by_cases h1 : x.kind < 0 ∨ 7 < x.kind
    · rw [if_pos h1] at h; cases h
    · rw [if_neg h1] at h
      have hmn : max (m : Int) n = ((max m n : Nat) : Int) := by omega
      by_cases h7 : x.kind = 7
      · rw [if_pos h7] at h
        rw [if_pos h7, if_pos h7, hmn, show (n : Int) + 1 = ((n + 1 : Nat) : Int) by omega, ih _ _ h]
      · rw [if_neg h7] at h
        rw [if_neg h7, if_neg h7]
        by_cases h0 : x.kind = 0
        · rw [if_pos h0] at h
          by_cases hn : n = 0
          · rw [if_pos hn] at h; cases h
          · rw [if_neg hn] at h
            rw [if_pos h0, if_pos h0, hmn, show (n : Int) - 1 = ((n - 1 : Nat) : Int) by omega, ih _ _ h]
            congr 2
            omega
        · rw [if_neg h0] at h
          rw [if_neg h0, if_neg h0, hmn, ih _ _ h]
          congr 2
          omega
def mxh (l : List OpD) (k : Nat) : Int := if k = 0 then 0 else hmax 0 0 (l.take (k - 1))
theorem mxh_succ (l : List OpD) (k : Nat) (hk : k ≤ l.length) : mxh l (k + 1) = max (mxh l k) (hgt l k) := by
  unfold mxh hgt
  rw [if_neg (by omega), Nat.add_sub_cancel]
  cases k with
  | zero => simp [hmax, hI]
  | succ k =>
    rw [if_neg (by omega), Nat.add_sub_cancel, List.take_add_one, List.getElem?_eq_getElem (by omega)]
    exact hmax_one _ _ _ _
theorem mxh_end (l : List OpD) (h : well l = true) : mxh l (l.length + 1) = (deepL l : Nat) := by
  unfold mxh
  rw [if_neg (by omega), Nat.add_sub_cancel, List.take_length]
  exact hmax_dp l 0 0 h

set_option maxRecDepth 100000 in
set_option maxHeartbeats 800000 in
theorem Deep8_calls (a : Option Addr) (c : Nat) (l : List OpD) (w : World) (h : At w a l) (hl : l.length ≤ 1000000) :
    Calls Try.prog 64 #[.slice a l.length c] w fun e w' => e = .returned (.tuple #[.int .i64 (deepS l).1, .int .i64 (deepS l).2]) ∧ w = w' := by
  obtain ⟨Wl, hWl⟩ : ∃ b, b = well l := ⟨_, rfl⟩
  have HWL := hide hWl
  clear hWl
  have hcase : Wl = true ∨ Wl = false := by cases Wl <;> simp
  rcases hcase with rfl | rfl
  rotate_left
  · go_enter Try.func64, Try.ntmps64
    go_wp2_with (go_at_call 52; refine (Well8_calls a c l _ h hl).mono ?_; rintro e w1 ⟨rfl, rfl⟩; rw [← HWL.out])
    go_ret2
    exact ⟨by simp [deepS, ← HWL.out], rfl⟩
  · go_enter Try.func64, Try.ntmps64
    go_wp2_with (go_at_call 52; refine (Well8_calls a c l _ h hl).mono ?_; rintro e w1 ⟨rfl, rfl⟩; rw [← HWL.out])
    go_loopw [4, 5] (fun m i wr => ∃ (k : Nat), i = .int .i64 k ∧ m = .int .i64 (mxh l k) ∧ k ≤ l.length + 1 ∧ w = wr) (fun _ i _ => l.length + 1 - (intOf i).toNat)
    case atStart => exact ⟨0, rfl, rfl, by omega, rfl⟩
    case round =>
      obtain ⟨k, rfl, rfl, hk, rfl⟩ := hrel
      by_cases hlt : k ≤ l.length
      · have hs := mxh_succ l k hlt
        have hb := hgt_le l k
        obtain ⟨hb1, hb2⟩ := hb
        have HS := hide hs
        clear hs
        have hcs : mxh l k < hgt l k ∨ hgt l k ≤ mxh l k := by omega
        rcases hcs with hc | hc
        · have E : Hid (mxh l (k + 1) = hgt l k) := hide (HS.out.trans (by omega))
          clear HS
          go_wp2_with (go_at_call 76; refine (height_calls _ c k l _ h hl hlt).mono ?_; rintro e w1 ⟨rfl, rfl⟩)
          go_roundw
          case rel => exact ⟨k + 1, by go_num, by rw [E.out], by omega, by trivial⟩
          case measure => simp [intOf]; omega
        · have E : Hid (mxh l (k + 1) = mxh l k) := hide (HS.out.trans (by omega))
          clear HS
          go_wp2_with (go_at_call 76; refine (height_calls _ c k l _ h hl hlt).mono ?_; rintro e w1 ⟨rfl, rfl⟩)
          go_roundw
          case rel => exact ⟨k + 1, by go_num, by rw [E.out], by omega, by trivial⟩
          case measure => simp [intOf]; omega
      · have e : k = l.length + 1 := by omega
        subst e
        have hm := mxh_end l HWL.out.symm
        have HM := hide hm
        clear hm
        go_wp2
        go_ret2
        exact ⟨by simp [deepS, ← HWL.out, HM.out], rfl⟩

end Go.Proofs.Ytoklehndfncmnaa
