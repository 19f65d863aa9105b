/- Chapter 23: lists of words, one behind the other: slices.Concat, and the document's Joined. -/
import Derived.Test.YtjfpnbnkfcgjcaaCh
import Derived.Lib.AppendZeros
namespace Go.Proofs.Ytjfpnbnkfcgjcaa
set_option linter.unusedVariables false
set_option linter.unusedSimpArgs false
open Go.RowKit Go.Lib
theorem Own.takeN {α : Type} [Flat α] {w : World} {B : Nat} {E : TypeId} {a : Option Addr} {c : Nat} : ∀ (d : Nat) {l : List α} (h : Own w B E a c l) (k : Nat), l.length ≤ k + d → Own w B E a c (l.take k)
  | 0, l, h, k, hd => by rw [List.take_of_length_le (by omega)]; exact h
  | d + 1, l, h, k, hd => by
    by_cases hk : l.length ≤ k
    · rw [List.take_of_length_le hk]; exact h
    · have hl : l ≠ [] := by rintro rfl; simp at hk
      have h2 := Own.takeN d (h.pop hl) k (by rw [List.length_dropLast]; omega)
      rwa [List.dropLast_eq_take, List.take_take, Nat.min_eq_left (by omega)] at h2
set_option maxHeartbeats 1600000 in
theorem Grow_calls (n : Nat) (hn : n ≤ 1000000) (w : World) :
    Calls Try.prog 103 #[.slice none 0 0, .int .i64 n] w fun e w' => ∃ a' c', e = .returned (.slice a' 0 c') ∧ Own w' w.heap.size 37 a' c' ([] : List UInt64) ∧ Below w.heap.size w w' := by
  rcases Nat.eq_zero_or_pos n with rfl | h0
  · go_enter Try.func103, Try.ntmps103
    go_wp2
    go_ret
    exact ⟨none, 0, rfl, Own.none _ _ _, Below.refl _ _⟩
  · have h1 : ¬ ((n : Int) < 0) := by omega
    have h2 : (n : Int) > 0 := by omega
    obtain ⟨i, hi, hz, hsz, hby⟩ := tyU0.info
    have hcap := grownCap_le_maxLen w n 0 37 (by simp only [maxLen]; omega)
    have hge := grownCap_ge w n 0 37
    have hrun := fun ty => run_append_nil_zeros w 25 3 ty 37 i (.int .u64 0) .i64 .i64 Try.underlying25 Try.underlying3 hi hz n h0 (by omega) (by omega) (Nat.le_trans (Nat.mul_le_mul hn hby) (by decide))
    have HRUN := hide hrun
    obtain ⟨C, hC⟩ : ∃ C, grownCap w n 0 37 = C := ⟨_, rfl⟩
    rw [hC] at hcap hge hrun
    have HR := hide hrun
    clear HRUN hrun
    have hown : Own (w.drew.alloc (.cells (Builtin.zeroCells (Value.int .u64 0).cells n ++ Builtin.zeroCells (Value.int .u64 0).cells (C - n)) 37)) w.heap.size 37 (some ⟨w.heap.size, 0, none⟩) C ([] : List UInt64) :=
      World.ownsRow_made w.drew _ C (Nat.le_refl _) hcap (by rw [Array.size_append, size_zeroCells, size_zeroCells]; show n * 1 + (C - n) * 1 = C * 1; omega)
    have hbel : Below w.heap.size w (w.drew.alloc (.cells (Builtin.zeroCells (Value.int .u64 0).cells n ++ Builtin.zeroCells (Value.int .u64 0).cells (C - n)) 37)) := (Below.drew (Below.refl _ _)).alloc (Nat.le_refl _) _
    have HO := hide hown
    have HB := hide hbel
    clear hown hbel hC
    go_enter Try.func103, Try.ntmps103
    go_wp2_with (at_builtin; refine Lib.wpList_append_run _ rfl _ _ _ _ rfl _ _ rfl rfl _ _ (HR.out _) ?_)
    go_ret
    exact ⟨_, C, rfl, HO.out, HB.out⟩
theorem flat_take {ls : List (List UInt64)} {k : Nat} {l : List UInt64} (h : ls[k]? = some l) : (ls.take (k + 1)).flatten = (ls.take k).flatten ++ l := by
  rw [List.take_add_one, h]; simp
theorem flat_le (ls : List (List UInt64)) (k : Nat) : (ls.take k).flatten.length ≤ ls.flatten.length := by
  conv => rhs; rw [← List.take_append_drop k ls]
  rw [List.flatten_append, List.length_append]; omega
set_option maxHeartbeats 1600000 in
theorem Concat_calls (a : Option Addr) (c n : Nat) (ls : List (List UInt64)) (w : World) (hn : n = ls.length) (h : AtL w a ls) (hl : n ≤ 1000000) (hf : ls.flatten.length ≤ 1000000) (N : Nat) (hN : N = ls.flatten.length) :
    Calls Try.prog 70 #[.slice a n c] w fun e w' => ∃ a' c', e = .returned (.slice a' N c') ∧ Own w' w.heap.size 37 a' c' ls.flatten ∧ Below w.heap.size w w' := by
  have HN := hide hn
  have HF := hide hf
  have HNN := hide hN
  have HL := hide (flat_le ls)
  clear hn hf hN
  go_enter Try.func70, Try.ntmps70
  go_wp2
  go_loopw [3, 5, 11] (fun sz _ iv wr => ∃ k m : Nat, iv = .int .i64 k ∧ k ≤ n ∧ sz = .int .i64 m ∧ Hid (m = (ls.take k).flatten.length) ∧ wr = w) (fun _ _ iv _ => n - (intOf iv).toNat)
  case atStart => exact ⟨0, 0, rfl, by omega, rfl, by show _ = _; simp, rfl⟩
  case round =>
    obtain ⟨k, m, rfl, hk, rfl, hm, rfl⟩ := hrel
    by_cases hkn : k < n
    · obtain ⟨b, off, ha, hc, l, rfl, hx, x0, hcap, hat⟩ := h.get (Below.refl _ _) (by rw [← HN.out]; exact hkn)
      have HM := hide (show m + l.length = (ls.take (k + 1)).flatten.length by rw [flat_take hx.out, List.length_append, hm.out])
      have hle : m + l.length ≤ 1000000 := by rw [HM.out]; exact Nat.le_trans (HL.out _) HF.out
      go_wp2
      go_roundw
      case rel => exact ⟨k + 1, m + l.length, by go_num, by omega, by go_num, HM.out, trivial⟩
      case measure => simp [intOf]; omega
    · obtain rfl : n = k := by omega
      have hmN : N = m := by rw [hm.out, HN.out, List.take_length, HNN.out]
      have hNl : N ≤ 1000000 := by rw [HNN.out]; exact HF.out
      subst hmN
      clear hm
      go_wp2_with (go_at_call 103; go_must ((with_reducible refine (Grow_calls N hNl _).mono ?_); rintro e w1 ⟨a1, c1, rfl, hown1, hb1⟩))
      obtain ⟨w, rfl⟩ : ∃ w0 : World, w0 = wr := ⟨_, rfl⟩
      go_loopw [6, 8, 27] (fun ov _ iv wr => ∃ (k m : Nat) (ao : Option Addr) (co : Nat), iv = .int .i64 k ∧ k ≤ n ∧ ov = .slice ao m co ∧ Hid (m = (ls.take k).flatten.length) ∧ Own wr w.heap.size 37 ao co (ls.take k).flatten ∧ Below w.heap.size w wr) (fun _ _ iv _ => n - (intOf iv).toNat)
      case atStart => exact ⟨0, 0, _, _, rfl, by omega, rfl, by show _ = _; simp, by simpa using hown1, hb1⟩
      case round =>
        obtain ⟨k, m, ao, co, rfl, hk, rfl, hm, hown, hbr⟩ := hrel
        have hzr := hbr.size
        by_cases hkn : k < n
        · obtain ⟨b, off, ha, hc, l, rfl, hx, x0, hcap, hat⟩ := h.get hbr (by rw [← HN.out]; exact hkn)
          have HT := hide (flat_take hx.out)
          have HM := hide (show m + l.length = (ls.take (k + 1)).flatten.length by rw [flat_take hx.out, List.length_append, hm.out])
          have hle : m + l.length ≤ 1000000 := by rw [HM.out]; exact Nat.le_trans (HL.out _) HF.out
          have hatr := hat.belowN hbr
          go_wp2_with (at_builtin; refine wpList_pushAll tyU hown hatr rfl rfl rfl rfl hm.out rfl hzr (by omega) (by omega) ?_; intro a3 c3 w3 hown3 hg3 _)
          go_roundw
          case rel => exact ⟨k + 1, m + l.length, a3, c3, by go_num, by omega, rfl, HM.out, by rw [HT.out]; exact hown3, below_push hbr hown hg3 hzr⟩
          case measure => simp [intOf]; omega
        · obtain rfl : n = k := by omega
          have hmN : m = N := by rw [hm.out, HN.out, List.take_length, HNN.out]
          rw [HN.out, List.take_length] at hown
          subst hmN
          clear hm
          go_wp2
          go_ret
          exact ⟨ao, co, rfl, hown, hbr⟩
end Go.Proofs.Ytjfpnbnkfcgjcaa
