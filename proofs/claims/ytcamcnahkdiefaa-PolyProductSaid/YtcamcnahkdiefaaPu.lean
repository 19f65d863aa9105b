/- slices.Concat of terms; slices.Clone of powers. -/
import Derived.Lib.AppendZeros
import Derived.Test.YtcamcnahkdiefaaPn
namespace Go.Proofs.Ytcamcnahkdiefaa
set_option linter.unusedVariables false
set_option linter.unusedSimpArgs false
open Go.RowKit Go.Lib
set_option maxHeartbeats 1600000 in
theorem GrowT_calls (n : Nat) (hn : n ≤ 1000000000) (w : World) :
    Calls Try.prog 62 #[.slice none 0 0, .int .i64 n] w fun e w' => ∃ a' c', e = .returned (.slice a' 0 c') ∧ Own w' w.heap.size 57 a' c' ([] : List TmH) ∧ Below w.heap.size w w' := by
  rcases Nat.eq_zero_or_pos n with rfl | h0
  · go_enter Try.func62, Try.ntmps62
    go_wp2
    go_ret
    exact ⟨none, 0, rfl, Own.none _ _ _, Below.refl _ _⟩
  · have h1 : ¬ ((n : Int) < 0) := by omega
    have h2 : (n : Int) > 0 := by omega
    obtain ⟨i, hi, hz, hsz, hby⟩ : ∃ i, Try.prog.info? 57 = some i ∧ i.zero = some (.agg #[.int .u64 0, .slice none 0 0]) ∧ i.size = 2 ∧ i.bytes = 32 := by
      obtain ⟨i, q1, q2, q3, q4⟩ := info_parts (P := Try.prog) (show (Try.prog.info? 57).map (fun i => (i.zero, i.size, i.bytes)) = some (some (.agg #[.int .u64 0, .slice none 0 0]), 2, 32) by kernel_rfl)
      exact ⟨i, q1, q2, q3, q4⟩
    have hcap := grownCap_le_maxLen w n 0 57 (by simp only [maxLen]; omega)
    have hge := grownCap_ge w n 0 57
    have hrun := fun ty => run_append_nil_zeros w 22 3 ty 57 i (.agg #[.int .u64 0, .slice none 0 0]) .i64 .i64 Try.underlying22 Try.underlying3 hi hz n h0 (by omega) (by omega) (by rw [hby]; omega)
    obtain ⟨C, hC⟩ : ∃ C, grownCap w n 0 57 = C := ⟨_, rfl⟩
    rw [hC] at hcap hge hrun
    have HR := hide hrun
    clear hrun
    have hown : Own (w.drew.alloc (.cells (Builtin.zeroCells (Value.agg #[.int .u64 0, .slice none 0 0]).cells n ++ Builtin.zeroCells (Value.agg #[.int .u64 0, .slice none 0 0]).cells (C - n)) 57)) w.heap.size 57 (some ⟨w.heap.size, 0, none⟩) C ([] : List TmH) :=
      World.ownsRow_made w.drew _ C (Nat.le_refl _) hcap (by rw [Array.size_append, size_zeroCells, size_zeroCells]; show n * 2 + (C - n) * 2 = C * 2; omega)
    have hbel : Below w.heap.size w (w.drew.alloc (.cells (Builtin.zeroCells (Value.agg #[.int .u64 0, .slice none 0 0]).cells n ++ Builtin.zeroCells (Value.agg #[.int .u64 0, .slice none 0 0]).cells (C - n)) 57)) := (Below.drew (Below.refl _ _)).alloc (Nat.le_refl _) _
    have HO := hide hown
    have HB := hide hbel
    clear hown hbel hC
    go_enter Try.func62, Try.ntmps62
    go_wp2_with (at_builtin; refine Lib.wpList_append_run _ rfl _ _ _ _ rfl _ _ rfl rfl _ _ (HR.out _) ?_)
    go_ret
    exact ⟨_, C, rfl, HO.out, HB.out⟩
/-- lists of terms' headers, in memory -/
def AtHH (w : World) (a : Option Addr) (ls : List (List TmH)) : Prop := ∃ hs : List Hd, At w a hs ∧ hs.length = ls.length ∧ ∀ (i : Nat) (h : Hd) (l : List TmH), hs[i]? = some h → ls[i]? = some l → h.n = l.length ∧ h.n ≤ h.c ∧ h.c ≤ 9223372036854775807 ∧ At w h.a l
theorem AtHH.get {w wr : World} {a : Option Addr} {ls : List (List TmH)} (h : AtHH w a ls) (hb : Below w.heap.size w wr) {k : Nat} (hk : k < ls.length) :
    ∃ (b off : Nat) (ha : Option Addr) (hn hc : Nat) (l : List TmH), a = some ⟨b, off, none⟩ ∧ Hid (ls[k]? = some l) ∧ wr.cell? ⟨b, off + k, none⟩ = some (.slice ha hn hc) ∧ Hid (hn = l.length) ∧ hn ≤ hc ∧ hc ≤ 9223372036854775807 ∧ At wr ha l := by
  obtain ⟨hs, h1, h2, h3⟩ := h
  obtain ⟨b, off, y, e, hy, hc⟩ := (h1.belowN hb).get (k := k) (by omega)
  have ht : ls[k]? = some ls[k] := List.getElem?_eq_getElem hk
  obtain ⟨q1, q2, q3, q4⟩ := h3 k y _ hy.out ht
  exact ⟨b, off, y.a, y.n, y.c, ls[k], e, hide ht, by simpa [Flat.n] using hc 0 _ rfl, hide q1, q2, q3, q4.belowN hb⟩
theorem flatT_take {ls : List (List TmH)} {k : Nat} {l : List TmH} (h : ls[k]? = some l) : (ls.take (k + 1)).flatten = (ls.take k).flatten ++ l := by
  rw [List.take_add_one, h]; simp
theorem flatT_le (ls : List (List TmH)) (k : Nat) : (ls.take k).flatten.length ≤ ls.flatten.length := by
  conv => rhs; rw [← List.take_append_drop k ls]
  rw [List.flatten_append, List.length_append]; omega
set_option maxHeartbeats 1600000 in
theorem ConcatT_calls (a : Option Addr) (c n : Nat) (ls : List (List TmH)) (w : World) (hn : n = ls.length) (h : AtHH w a ls) (hl : n ≤ 1000000) (hf : ls.flatten.length ≤ 1000000000) (N : Nat) (hN : N = ls.flatten.length) :
    Calls Try.prog 44 #[.slice a n c] w fun e w' => ∃ a' c', e = .returned (.slice a' N c') ∧ Own w' w.heap.size 57 a' c' ls.flatten ∧ Below w.heap.size w w' := by
  have HN := hide hn
  have HF := hide hf
  have HNN := hide hN
  have HL := hide (flatT_le ls)
  clear hn hf hN
  go_enter Try.func44, Try.ntmps44
  go_wp2
  go_loopw [3, 5, 11] (fun sz _ iv wr => ∃ k m : Nat, iv = .int .i64 k ∧ k ≤ n ∧ sz = .int .i64 m ∧ Hid (m = (ls.take k).flatten.length) ∧ wr = w) (fun _ _ iv _ => n - (intOf iv).toNat)
  case atStart => exact ⟨0, 0, rfl, by omega, rfl, by show _ = _; simp, rfl⟩
  case round =>
    obtain ⟨k, m, rfl, hk, rfl, hm, rfl⟩ := hrel
    by_cases hkn : k < n
    · obtain ⟨b, off, ha, hl', hc, l, rfl, hx, x0, hln, hcap, hmx, hat⟩ := h.get (Below.refl _ _) (k := k) (by rw [← HN.out]; exact hkn)
      have HM := hide (show m + hl' = (ls.take (k + 1)).flatten.length by rw [flatT_take hx.out, List.length_append, hm.out, hln.out])
      have hle : m + hl' ≤ 1000000000 := by rw [HM.out]; exact Nat.le_trans (HL.out _) HF.out
      go_wp2
      go_roundw
      case rel => exact ⟨k + 1, m + hl', by go_num, by omega, by go_num, HM.out, trivial⟩
      case measure => simp [intOf]; omega
    · obtain rfl : n = k := by omega
      have hmN : N = m := by rw [hm.out, HN.out, List.take_length, HNN.out]
      have hNl : N ≤ 1000000000 := by rw [HNN.out]; exact HF.out
      subst hmN
      clear hm
      go_wp2_with (go_at_call 62; go_must ((with_reducible refine (GrowT_calls N hNl _).mono ?_); rintro e w1 ⟨a1, c1, rfl, hown1, hb1⟩))
      obtain ⟨w, rfl⟩ : ∃ w0 : World, w0 = wr := ⟨_, rfl⟩
      go_loopw [6, 8, 27] (fun ov _ iv wr => ∃ (k m : Nat) (ao : Option Addr) (co : Nat), iv = .int .i64 k ∧ k ≤ n ∧ ov = .slice ao m co ∧ Hid (m = (ls.take k).flatten.length) ∧ Own wr w.heap.size 57 ao co (ls.take k).flatten ∧ Below w.heap.size w wr) (fun _ _ iv _ => n - (intOf iv).toNat)
      case atStart => exact ⟨0, 0, _, _, rfl, by omega, rfl, by show _ = _; simp, by simpa using hown1, hb1⟩
      case round =>
        obtain ⟨k, m, ao, co, rfl, hk, rfl, hm, hown, hbr⟩ := hrel
        have hzr := hbr.size
        by_cases hkn : k < n
        · obtain ⟨b, off, ha, hl', hc, l, rfl, hx, x0, hln, hcap, hmx, hatr⟩ := h.get hbr (k := k) (by rw [← HN.out]; exact hkn)
          have HT := hide (flatT_take hx.out)
          have HM := hide (show m + hl' = (ls.take (k + 1)).flatten.length by rw [flatT_take hx.out, List.length_append, hm.out, hln.out])
          have hle : m + hl' ≤ 1000000000 := by rw [HM.out]; exact Nat.le_trans (HL.out _) HF.out
          go_wp2_with (at_builtin; refine wpList_pushAll tyT hown hatr rfl rfl rfl rfl hm.out hln.out hzr (by omega) (by omega) ?_; intro a3 c3 w3 hown3 hg3 _)
          go_roundw
          case rel => exact ⟨k + 1, m + hl', a3, c3, by go_num, by omega, rfl, HM.out, by rw [HT.out]; exact hown3, below_push hbr hown hg3 hzr⟩
          case measure => simp [intOf]; omega
        · obtain rfl : n = k := by omega
          have hmN : m = N := by rw [hm.out, HN.out, List.take_length, HNN.out]
          rw [HN.out, List.take_length] at hown
          subst hmN
          clear hm
          go_wp2
          go_ret
          exact ⟨ao, co, rfl, hown, hbr⟩
end Go.Proofs.Ytcamcnahkdiefaa
