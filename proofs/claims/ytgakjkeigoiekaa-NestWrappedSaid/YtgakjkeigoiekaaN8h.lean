/- Chapter 8, the document's answers: Deep, Around, Inside, Parts. -/
import Derived.Test.YtgakjkeigoiekaaN8g
namespace Go.Proofs.Ytgakjkeigoiekaa
set_option linter.unusedVariables false
set_option linter.unusedSimpArgs false
open Go.RowKit

theorem Match8W (a : Option Addr) (c : Nat) (l : List OpD) (w : World) (h : At w a l) (hl : l.length ≤ 1000000) (hw : well l = true) :
    Calls Try.prog 25 #[.slice a l.length c] w fun e w' => ∃ a' c', e = .returned (.tuple #[.slice a' l.length c', .int .i64 0]) ∧ Own w' w.heap.size 3 a' c' (matchL l) ∧ Below w.heap.size w w' := by
  refine (Match8_calls a c l w h hl).mono ?_
  rintro e w' hp
  unfold Match8Post at hp
  have e0 : matchS l = (matchL l, 0) := by unfold matchS; rw [if_pos hw]
  rw [e0] at hp
  simp only [matchL_length] at hp
  exact hp
theorem Match8N (a : Option Addr) (c : Nat) (l : List OpD) (w : World) (h : At w a l) (hl : l.length ≤ 1000000) (hw : well l = false) :
    Calls Try.prog 25 #[.slice a l.length c] w fun e w' => ∃ a' c', e = .returned (.tuple #[.slice a' 0 c', .int .i64 6]) ∧ Below w.heap.size w w' := by
  refine (Match8_calls a c l w h hl).mono ?_
  rintro e w' hp
  unfold Match8Post at hp
  have e0 : matchS l = ([], 6) := by unfold matchS; rw [if_neg (by simp [hw])]
  rw [e0] at hp
  obtain ⟨a', c', rfl, h1, h2⟩ := hp
  exact ⟨a', c', rfl, h2⟩
theorem MatchW (a : Option Addr) (c : Nat) (l : List OpD) (w : World) (h : At w a l) (hl : l.length ≤ 1000000) (hw : well l = true) :
    Calls Try.prog 24 #[.slice a l.length c] w fun e w' => ∃ a' c', e = .returned (.tuple #[.slice a' l.length c', .int .i64 0]) ∧ Own w' w.heap.size 3 a' c' (matchL l) ∧ Below w.heap.size w w' := by
  refine (Match_calls a c l w h hl).mono ?_
  rintro e w' hp
  unfold MatchPost at hp
  have e0 : matchS l = (matchL l, 0) := by unfold matchS; rw [if_pos hw]
  rw [e0] at hp
  simp only [matchL_length] at hp
  exact hp
theorem MatchN (a : Option Addr) (c : Nat) (l : List OpD) (w : World) (h : At w a l) (hl : l.length ≤ 1000000) (hw : well l = false) :
    Calls Try.prog 24 #[.slice a l.length c] w fun e w' => ∃ a' c', e = .returned (.tuple #[.slice a' 0 c', .int .i64 6]) ∧ Below w.heap.size w w' := by
  refine (Match_calls a c l w h hl).mono ?_
  rintro e w' hp
  unfold MatchPost at hp
  have e0 : matchS l = ([], 6) := by unfold matchS; rw [if_neg (by simp [hw])]
  rw [e0] at hp
  obtain ⟨a', c', rfl, h1, h2⟩ := hp
  exact ⟨a', c', rfl, h2⟩

/-- the greatest number of blocks that are open -/
def hmax : Int → Int → List OpD → Int
  | n, m, [] => max m n
  | n, m, x :: r => hmax (if x.kind = 7 then n + 1 else if x.kind = 0 then n - 1 else n) (max m n) r
theorem hmax_one (n m : Int) (a : List OpD) (x : OpD) : hmax n m (a ++ [x]) = max (hmax n m a) (hI n (a ++ [x])) := by
  induction a generalizing n m with
  | nil => rfl
  | cons y r ih => exact ih _ _
theorem hmax_dp (l : List OpD) (n m : Nat) (h : wellF n l = true) : hmax n m l = (dpF n (max m n) l : Nat) := by
  induction l generalizing n m with
  | nil => simp [hmax, dpF]; omega
  | cons x r ih =>
    rw [wellF] at h
    simp only [hmax, dpF]
    by_cases h1 : x.kind < 0 ∨ 7 < x.kind
    · rw [if_pos h1] at h; cases h
    · rw [if_neg h1] at h
      have hmn : max (m : Int) n = ((max m n : Nat) : Int) := by omega
      by_cases h7 : x.kind = 7
      · rw [if_pos h7] at h
        rw [if_pos h7, if_pos h7, hmn, show (n : Int) + 1 = ((n + 1 : Nat) : Int) by omega, ih _ _ h]
      · rw [if_neg h7] at h
        rw [if_neg h7, if_neg h7]
        by_cases h0 : x.kind = 0
        · rw [if_pos h0] at h
          by_cases hn : n = 0
          · rw [if_pos hn] at h; cases h
          · rw [if_neg hn] at h
            rw [if_pos h0, if_pos h0, hmn, show (n : Int) - 1 = ((n - 1 : Nat) : Int) by omega, ih _ _ h]
            congr 2
            omega
        · rw [if_neg h0] at h
          rw [if_neg h0, if_neg h0, hmn, ih _ _ h]
          congr 2
          omega
def mxh (l : List OpD) (k : Nat) : Int := if k = 0 then 0 else hmax 0 0 (l.take (k - 1))
theorem mxh_succ (l : List OpD) (k : Nat) (hk : k ≤ l.length) : mxh l (k + 1) = max (mxh l k) (hgt l k) := by
  unfold mxh hgt
  rw [if_neg (by omega), Nat.add_sub_cancel]
  cases k with
  | zero => simp [hmax, hI]
  | succ k =>
    rw [if_neg (by omega), Nat.add_sub_cancel, List.take_add_one, List.getElem?_eq_getElem (by omega)]
    exact hmax_one _ _ _ _
theorem mxh_end (l : List OpD) (h : well l = true) : mxh l (l.length + 1) = (deepL l : Nat) := by
  unfold mxh
  rw [if_neg (by omega), Nat.add_sub_cancel, List.take_length]
  exact hmax_dp l 0 0 h

set_option maxRecDepth 100000 in
set_option maxHeartbeats 800000 in
theorem Deep8_calls (a : Option Addr) (c : Nat) (l : List OpD) (w : World) (h : At w a l) (hl : l.length ≤ 1000000) :
    Calls Try.prog 27 #[.slice a l.length c] w fun e w' => e = .returned (.tuple #[.int .i64 (deepS l).1, .int .i64 (deepS l).2]) ∧ w = w' := by
  obtain ⟨Wl, hWl⟩ : ∃ b, b = well l := ⟨_, rfl⟩
  have HWL := hide hWl
  clear hWl
  have hcase : Wl = true ∨ Wl = false := by cases Wl <;> simp
  rcases hcase with rfl | rfl
  rotate_left
  · go_enter Try.func27, Try.ntmps27
    go_wp2_with (go_at_call 49; refine (Well8_calls a c l _ h hl).mono ?_; rintro e w1 ⟨rfl, rfl⟩; rw [← HWL.out])
    go_ret2
    exact ⟨by simp [deepS, ← HWL.out], rfl⟩
  · go_enter Try.func27, Try.ntmps27
    go_wp2_with (go_at_call 49; refine (Well8_calls a c l _ h hl).mono ?_; rintro e w1 ⟨rfl, rfl⟩; rw [← HWL.out])
    go_loopw [4, 5] (fun m i wr => ∃ (k : Nat), i = .int .i64 k ∧ m = .int .i64 (mxh l k) ∧ k ≤ l.length + 1 ∧ w = wr) (fun _ i _ => l.length + 1 - (intOf i).toNat)
    case atStart => exact ⟨0, rfl, rfl, by omega, rfl⟩
    case round =>
      obtain ⟨k, rfl, rfl, hk, rfl⟩ := hrel
      by_cases hlt : k ≤ l.length
      · have hs := mxh_succ l k hlt
        have hb := hgt_le l k
        obtain ⟨hb1, hb2⟩ := hb
        have HS := hide hs
        clear hs
        have hcs : mxh l k < hgt l k ∨ hgt l k ≤ mxh l k := by omega
        rcases hcs with hc | hc
        · have E : Hid (mxh l (k + 1) = hgt l k) := hide (HS.out.trans (by omega))
          clear HS
          go_wp2_with (go_at_call 51; refine (height_calls _ c k l _ h hl hlt).mono ?_; rintro e w1 ⟨rfl, rfl⟩)
          go_roundw
          case rel => exact ⟨k + 1, by go_num, by rw [E.out], by omega, by trivial⟩
          case measure => simp [intOf]; omega
        · have E : Hid (mxh l (k + 1) = mxh l k) := hide (HS.out.trans (by omega))
          clear HS
          go_wp2_with (go_at_call 51; refine (height_calls _ c k l _ h hl hlt).mono ?_; rintro e w1 ⟨rfl, rfl⟩)
          go_roundw
          case rel => exact ⟨k + 1, by go_num, by rw [E.out], by omega, by trivial⟩
          case measure => simp [intOf]; omega
      · have e : k = l.length + 1 := by omega
        subst e
        have hm := mxh_end l HWL.out.symm
        have HM := hide hm
        clear hm
        go_wp2
        go_ret2
        exact ⟨by simp [deepS, ← HWL.out, HM.out], rfl⟩

/-- the blocks around operation `i`, as the document finds them -/
def raAt (l : List OpD) (i : Int) (k : Nat) : List Int := raF i 0 (l.take k) ((matchL l).take k)
theorem raAt_succ (l : List OpD) (i : Int) (k : Nat) (x : OpD) (m : Int) (h : l[k]? = some x) (hm : (matchL l)[k]? = some m) : raAt l i (k + 1) = raAt l i k ++ (if x.kind = 7 ∧ i < m then [(k : Int)] else []) := by
  have hk : k < l.length := (List.getElem?_eq_some_iff.1 h).1
  unfold raAt
  rw [List.take_add_one, List.take_add_one, h, hm, raF_append _ _ _ _ _ _ (by simp [matchL_length])]
  simp only [Option.toList, raF, List.length_take, Nat.zero_add, Nat.min_eq_left (Nat.le_of_lt hk), List.append_nil]
theorem raF_length (i : Int) (o : Nat) (l : List OpD) (ms : List Int) : (raF i o l ms).length ≤ l.length := by
  induction l generalizing o ms with
  | nil => simp [raF]
  | cons x r ih => cases ms with
    | nil => simp [raF]
    | cons m ms =>
      simp only [raF, List.length_append, List.length_cons]
      have := ih (o + 1) ms
      split <;> simp <;> omega
theorem raAt_length (l : List OpD) (i : Int) (k : Nat) : (raAt l i k).length ≤ k := by
  have := raF_length i 0 (l.take k) ((matchL l).take k)
  unfold raAt
  simp at this
  omega
theorem raAt_end (l : List OpD) (h : well l = true) (i : Nat) (hi : i < l.length) : raAt l i i = arAt l i l.length := by
  obtain ⟨f, hf, rfl⟩ := forest_of_well l h
  have h1 := encl_filter f hf 0 i hi
  have h2 := encl_stack f hf 0 [] i f.flat[i] (List.getElem?_eq_getElem hi)
  unfold raAt arAt stAt
  rw [if_pos ⟨by omega, by omega⟩, matchL_flat f hf]
  simp only [Int.toNat_natCast, List.getElem?_eq_getElem hi]
  rw [h2]
  simpa using h1

def Around8Post (w : World) (l : List OpD) (i : Int) (e : Ending) (w' : World) : Prop :=
  ∃ a c, e = .returned (.tuple #[.slice a (aroundS l i).1.length c, .int .i64 (aroundS l i).2]) ∧ Own w' w.heap.size 3 a c (aroundS l i).1 ∧ Below w.heap.size w w'

set_option maxRecDepth 100000 in
set_option maxHeartbeats 1600000 in
theorem Around8_calls (a : Option Addr) (c : Nat) (l : List OpD) (i : Int) (w : World) (h : At w a l) (hl : l.length ≤ 1000000) (hi1 : -9223372036854775808 ≤ i) (hi2 : i ≤ 9223372036854775807) :
    Calls Try.prog 32 #[.slice a l.length c, .int .i64 i] w (Around8Post w l i) := by
  obtain ⟨Wl, hWl⟩ : ∃ b, b = well l := ⟨_, rfl⟩
  have HWL := hide hWl
  clear hWl
  have hcase : Wl = true ∨ Wl = false := by cases Wl <;> simp
  rcases hcase with rfl | rfl
  rotate_left
  · go_enter Try.func32, Try.ntmps32
    go_wp2_with (go_at_call 25; refine (Match8N a c l _ h hl HWL.out.symm).mono ?_; rintro e w1 ⟨a1, c1, rfl, hbel1⟩)
    go_ret2
    unfold Around8Post
    exact ⟨none, 0, by simp [aroundS, ← HWL.out], by simpa [aroundS, ← HWL.out] using Own.none _ _ _, hbel1⟩
  · have h3 : i < 0 ∨ (0 ≤ i ∧ (l.length : Int) ≤ i) ∨ (0 ≤ i ∧ i < l.length) := by omega
    rcases h3 with hi0 | ⟨hi0, hi5⟩ | ⟨hi0, hi5⟩
    · go_enter Try.func32, Try.ntmps32
      go_wp2_with (go_at_call 25; refine (Match8W a c l _ h hl HWL.out.symm).mono ?_; rintro e w1 ⟨a1, c1, rfl, hown1, hbel1⟩)
      go_ret2
      unfold Around8Post
      exact ⟨none, 0, by simp [aroundS, ← HWL.out, hi0], by simpa [aroundS, ← HWL.out, hi0] using Own.none _ _ _, hbel1⟩
    · go_enter Try.func32, Try.ntmps32
      go_wp2_with (go_at_call 25; refine (Match8W a c l _ h hl HWL.out.symm).mono ?_; rintro e w1 ⟨a1, c1, rfl, hown1, hbel1⟩)
      go_ret2
      unfold Around8Post
      exact ⟨none, 0, by simp [aroundS, ← HWL.out, hi5], by simpa [aroundS, ← HWL.out, hi5] using Own.none _ _ _, hbel1⟩
    · obtain ⟨n, rfl⟩ : ∃ n : Nat, i = n := ⟨i.toNat, by omega⟩
      have hn : n < l.length := by omega
      go_enter Try.func32, Try.ntmps32
      go_wp2_with (go_at_call 25; refine (Match8W a c l _ h hl HWL.out.symm).mono ?_; rintro e w1 ⟨a1, c1, rfl, hown1, hbel1⟩; have hat1 := hown1.at_; have hz1 := hbel1.size)
      go_loopw [8, 9] (fun out i wr => ∃ (k : Nat) (ao : Option Addr) (co m : Nat), i = .int .i64 k ∧ out = .slice ao m co ∧ m ≤ (raAt l n k).length ∧ (raAt l n k).length ≤ m ∧ k ≤ n ∧ Own wr w1.heap.size 3 ao co (raAt l n k) ∧ Below w1.heap.size w1 wr) (fun _ i _ => n - (intOf i).toNat)
      case atStart => exact ⟨0, _, 0, 0, rfl, rfl, by simp [raAt, raF], by simp [raAt, raF], by omega, by simpa [raAt, raF] using Own.new w1 (Nat.le_refl _) _ Int, Below.alloc (Below.refl _ _) (Nat.le_refl _) _⟩
      case round =>
        obtain ⟨k, ao, co, m, rfl, rfl, hm1, hm2, hk, hown, hbel⟩ := hrel
        have hsz := hbel.size
        have hrl := raAt_length l n k
        by_cases hlt : k < n
        · obtain ⟨b1, off1, x, rfl, hx, x0, x1, x2, x3, x4⟩ := (h.belowN hbel1).getOp hbel (show k < l.length by omega)
          obtain ⟨b2, off2, y, rfl, hy, y0⟩ := hat1.getI hbel (show k < (matchL l).length by rw [matchL_length]; omega)
          have hs := raAt_succ l n k x y hx.out hy.out
          have HS := hide hs
          clear hs
          by_cases k7 : x.kind = 7
          · have b7 : (x.kind == 7) = true := by simp [k7]
            by_cases hy7 : (n : Int) < y
            · rw [if_pos ⟨k7, hy7⟩] at HS
              clear k7
              go_wp2_with (at_builtin; go_loud (refine wpList_push tyI hown (k : Int) rfl rfl rfl rfl rfl rfl (by omega) hsz (by omega) ?_); intro a2 c2 w2 hown2 hg2 _)
              rw [← HS.out] at hown2
              have hrl2 := congrArg List.length HS.out
              simp only [List.length_append, List.length_cons, List.length_nil] at hrl2
              go_roundw
              case rel => exact ⟨k + 1, by go_num, a2, c2, m + 1, ⟨rfl, rfl, rfl⟩, by omega, by omega, by omega, hown2, below_push hbel hown hg2 hsz⟩
              case measure => simp [intOf]; omega
            · rw [if_neg (fun hh => hy7 hh.2), List.append_nil] at HS
              clear k7
              go_wp2
              go_roundw
              case rel => exact ⟨k + 1, ao, co, m, by go_num, rfl, by rw [HS.out]; exact hm1, by rw [HS.out]; exact hm2, by omega, by rw [HS.out]; exact hown, hbel⟩
              case measure => simp [intOf]; omega
          · have b7 : (x.kind == 7) = false := by simp [k7]
            rw [if_neg (fun hh => k7 hh.1), List.append_nil] at HS
            clear k7
            go_wp2
            go_roundw
            case rel => exact ⟨k + 1, ao, co, m, by go_num, rfl, by rw [HS.out]; exact hm1, by rw [HS.out]; exact hm2, by omega, by rw [HS.out]; exact hown, hbel⟩
            case measure => simp [intOf]; omega
        · have e : k = n := by omega
          subst e
          have hs := raAt_end l HWL.out.symm k hn
          rw [hs] at hown hm1 hm2
          have hme : m = (arAt l k l.length).length := by omega
          have HME := hide hme
          clear hme hs
          go_wp2
          go_ret2
          unfold Around8Post
          have e0 : aroundS l k = (arAt l k l.length, 0) := by unfold aroundS; rw [if_pos HWL.out.symm, if_neg (by omega)]
          rw [e0]
          exact ⟨ao, co, by rw [HME.out]; rfl, hown.mono hz1, hbel1.trans (hbel.mono hz1)⟩

/-- what stands inside a block -/
def insideS (l : List OpD) (i : Int) : List OpD × Int := if well l = true then (if 0 ≤ i ∧ i < l.length then (match l[i.toNat]?, (matchL l)[i.toNat]? with
  | some x, some m => if x.kind = 7 then ((l.drop (i.toNat + 1)).take (m.toNat - (i.toNat + 1)), 0) else ([], 2)
  | _, _ => ([], 2)) else ([], 2)) else ([], 6)
theorem insideS_at (l : List OpD) (hw : well l = true) (n : Nat) (x : OpD) (hx : l[n]? = some x) (h7 : x.kind = 7) : ∃ S : Nat, (matchL l)[n]? = some ((n + 1 + S : Nat) : Int) ∧ n + 1 + S < l.length ∧ insideS l n = ((l.drop (n + 1)).take S, 0) := by
  obtain ⟨b, fin, h1, h2, h3, h4, h5, h6⟩ := at_rep_well l hw n x hx h7
  refine ⟨b.flat.length, by rw [h5]; congr 2; omega, by omega, ?_⟩
  unfold insideS
  rw [if_pos hw, if_pos ⟨by omega, by omega⟩]
  simp only [Int.toNat_natCast, hx, h5]
  rw [if_pos h7]
  congr 2
  omega
theorem insideS_not (l : List OpD) (hw : well l = true) (n : Nat) (x : OpD) (hx : l[n]? = some x) (h7 : x.kind ≠ 7) : insideS l n = ([], 2) := by
  unfold insideS
  have hk : n < l.length := (List.getElem?_eq_some_iff.1 hx).1
  rw [if_pos hw, if_pos ⟨by omega, by omega⟩]
  simp only [Int.toNat_natCast, hx, List.getElem?_eq_getElem (show n < (matchL l).length by rw [matchL_length]; omega)]
  rw [if_neg h7]

def Inside8Post (w : World) (l : List OpD) (i : Int) (e : Ending) (w' : World) : Prop :=
  ∃ a c, e = .returned (.tuple #[.slice a (insideS l i).1.length c, .int .i64 (insideS l i).2]) ∧ Own w' w.heap.size 67 a c (insideS l i).1 ∧ Below w.heap.size w w'

set_option maxRecDepth 100000 in
set_option maxHeartbeats 1600000 in
theorem Inside8_calls (a : Option Addr) (c : Nat) (l : List OpD) (i : Int) (w : World) (h : At w a l) (hl : l.length ≤ 1000000) (hi1 : -9223372036854775808 ≤ i) (hi2 : i ≤ 9223372036854775807) :
    Calls Try.prog 34 #[.slice a l.length c, .int .i64 i] w (Inside8Post w l i) := by
  obtain ⟨Wl, hWl⟩ : ∃ b, b = well l := ⟨_, rfl⟩
  have HWL := hide hWl
  clear hWl
  have hcase : Wl = true ∨ Wl = false := by cases Wl <;> simp
  rcases hcase with rfl | rfl
  rotate_left
  · go_enter Try.func34, Try.ntmps34
    go_wp2_with (go_at_call 25; refine (Match8N a c l _ h hl HWL.out.symm).mono ?_; rintro e w1 ⟨a1, c1, rfl, hbel1⟩)
    go_ret2
    unfold Inside8Post
    exact ⟨none, 0, by simp [insideS, ← HWL.out], by simpa [insideS, ← HWL.out] using Own.none _ _ _, hbel1⟩
  · have h3 : i < 0 ∨ (0 ≤ i ∧ (l.length : Int) ≤ i) ∨ (0 ≤ i ∧ i < l.length) := by omega
    rcases h3 with hi0 | ⟨hi0, hi5⟩ | ⟨hi0, hi5⟩
    · go_enter Try.func34, Try.ntmps34
      go_wp2_with (go_at_call 25; refine (Match8W a c l _ h hl HWL.out.symm).mono ?_; rintro e w1 ⟨a1, c1, rfl, hown1, hbel1⟩)
      go_ret2
      unfold Inside8Post
      have e0 : insideS l i = ([], 2) := by unfold insideS; rw [if_pos HWL.out.symm, if_neg (by omega)]
      rw [e0]
      exact ⟨none, 0, rfl, Own.none _ _ _, hbel1⟩
    · go_enter Try.func34, Try.ntmps34
      go_wp2_with (go_at_call 25; refine (Match8W a c l _ h hl HWL.out.symm).mono ?_; rintro e w1 ⟨a1, c1, rfl, hown1, hbel1⟩)
      go_ret2
      unfold Inside8Post
      have e0 : insideS l i = ([], 2) := by unfold insideS; rw [if_pos HWL.out.symm, if_neg (by omega)]
      rw [e0]
      exact ⟨none, 0, rfl, Own.none _ _ _, hbel1⟩
    · obtain ⟨n, rfl⟩ : ∃ n : Nat, i = n := ⟨i.toNat, by omega⟩
      have hn : n < l.length := by omega
      obtain ⟨b1, off1, x, rfl, hx, x0, x1, x2, x3, x4⟩ := h.getOp (Below.refl _ _) hn
      by_cases k7 : x.kind = 7
      rotate_left
      · have b7 : (x.kind == 7) = false := by simp [k7]
        have b9 : (x.kind != 7) = true := by simp [k7]
        have e0 := hide (insideS_not l HWL.out.symm n x hx.out k7)
        clear k7
        go_enter Try.func34, Try.ntmps34
        go_wp2_with (go_at_call 25; refine (Match8W _ c l _ h hl HWL.out.symm).mono ?_; rintro e w1 ⟨a1, c1, rfl, hown1, hbel1⟩; have hbc := (bcell hbel1).1; have hbl := World.block_lt_of_cell? _ _ x0; have x0' := (hbc b1 (off1 + n * 5) hbl).trans x0)
        go_ret2
        unfold Inside8Post
        rw [e0.out]
        exact ⟨none, 0, rfl, Own.none _ _ _, hbel1⟩
      · have b7 : (x.kind == 7) = true := by simp [k7]
        have b9 : (x.kind != 7) = false := by simp [k7]
        obtain ⟨S, hS1, hS2, hS3⟩ := insideS_at l HWL.out.symm n x hx.out k7
        have HS1 := hide hS1
        have HS3 := hide hS3
        clear k7 hS1 hS3
        go_enter Try.func34, Try.ntmps34
        go_wp2_with (go_at_call 25; refine (Match8W _ c l _ h hl HWL.out.symm).mono ?_; rintro e w1 ⟨a1, c1, rfl, hown1, hbel1⟩; have hbc := (bcell hbel1).1; have hbl := World.block_lt_of_cell? _ _ x0; have x0' := (hbc b1 (off1 + n * 5) hbl).trans x0; have hat1 := hown1.at_; have hz1 := hbel1.size)
        have hatl := h.belowN hbel1
        clear x0 x1 x2 x3 x4 x0' hbc
        go_loopw [8, 9] (fun out i wr => ∃ (k q : Nat) (ao : Option Addr) (co : Nat), i = .int .i64 (q : Int) ∧ q ≤ n + 1 + k ∧ n + 1 + k ≤ q ∧ out = .slice ao k co ∧ k ≤ S ∧ Own wr w1.heap.size 67 ao co ((l.drop (n + 1)).take k) ∧ Below w1.heap.size w1 wr) (fun _ i _ => n + 1 + S - (intOf i).toNat)
        case atStart => exact ⟨0, n + 1, _, 0, by go_num, by omega, by omega, rfl, by omega, by simpa using Own.new w1 (Nat.le_refl _) _ OpD, Below.alloc (Below.refl _ _) (Nat.le_refl _) _⟩
        case round =>
          obtain ⟨k, q, ao, co, rfl, hq1, hq2, rfl, hk, hown, hbel⟩ := hrel
          have hsz := hbel.size
          obtain ⟨b2, off2, m, rfl, hm, m0⟩ := hat1.getI hbel (show n < (matchL l).length by rw [matchL_length]; omega)
          obtain rfl : m = ((n + 1 + S : Nat) : Int) := by have := hm.out.symm.trans HS1.out; simpa using this
          have hlk : ((l.drop (n + 1)).take k).length = k := by simp; omega
          have HLK := hide hlk
          clear hlk
          by_cases hlt : k < S
          · obtain ⟨b3, off3, y, e3, hy, y0, y1, y2, y3, y4⟩ := hatl.getOp hbel (show q < l.length by omega)
            injection e3 with e3
            injection e3 with e3 e4
            subst e3
            subst e4
            have ht : (l.drop (n + 1)).take (k + 1) = (l.drop (n + 1)).take k ++ [y] := by
              have h9 : (l.drop (n + 1))[k]? = some y := by rw [List.getElem?_drop, show n + 1 + k = q by omega]; exact hy.out
              rw [List.take_add_one, h9]
              rfl
            have HT := hide ht
            clear ht
            go_wp2_with (at_builtin; go_loud (refine wpList_push tyO hown y rfl rfl rfl rfl rfl rfl HLK.out.symm hsz (by omega) ?_); intro a2 c2 w2 hown2 hg2 _)
            rw [← HT.out] at hown2
            go_roundw
            case rel => exact ⟨k + 1, q + 1, by go_num, by omega, by omega, a2, c2, ⟨rfl, rfl, rfl⟩, by omega, hown2, below_push hbel hown hg2 hsz⟩
            case measure => simp [intOf]; omega
          · have e : k = S := by omega
            subst e
            go_wp2
            go_ret2
            unfold Inside8Post
            rw [HS3.out]
            exact ⟨ao, co, by rw [HLK.out]; rfl, hown.mono hz1, hbel1.trans (hbel.mono hz1)⟩
end Go.Proofs.Ytgakjkeigoiekaa
