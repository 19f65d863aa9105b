/- Chapter 9: how the program measures. -/
import Derived.Test.YtoklehndfncmnaaM9a
namespace Go.Proofs.Ytoklehndfncmnaa
set_option linter.unusedVariables false
set_option linter.unusedSimpArgs false
open Go.RowKit

theorem tyF : Ty Try.prog 95 94 (Int × Int) := Ty.of (z := .agg #[.int .i64 0, .int .i64 0]) (size := 2) (bytes := 16) Try.underlying95 (by kernel_rfl) rfl (by decide) rfl
theorem mkI (n : Nat) (hn : n ≤ 1000000) (w : World) : (Instr.makeSlice 67 (.int .i64 (n : Int)) (.int .i64 (n : Int))).run Try.prog w = .ok (.slice (some ⟨w.heap.size, 0, none⟩) n n) (w.alloc (.cells (madeCells #[.int .i64 0] n) 3)) :=
  run_make_row' 67 3 (.int .i64 0) 8 Try.underlying67 (by kernel_rfl) rfl .i64 .i64 n (by omega) (by omega) w
/-- a new slice of zeros, of one cell each -/
theorem own_made {α : Type} [Flat α] {w : World} {B n : Nat} {E : TypeId} {z : Value} {z0 : α} (he : Flat.enc z0 = [z]) (hB : B ≤ w.heap.size) (hn : n ≤ 1000000) : Own (w.alloc (.cells (madeCells #[z] n) E)) B E (some ⟨w.heap.size, 0, none⟩) n (List.replicate n z0) := by
  have hlen : Flat.n α = 1 := by rw [← Flat.len z0, he]; rfl
  have e : (List.replicate n z0).flatMap Flat.enc = List.replicate n z := by
    induction n with
    | zero => rfl
    | succ n ih => rw [List.replicate_succ, List.flatMap_cons, ih (by omega), he]; rfl
  unfold Own
  rw [e, hlen, List.length_replicate]
  have hs : (madeCells #[z] n).size = n * 1 := by
    have := congrArg List.length (toList_madeCells_one z n)
    simpa using this
  refine ⟨by simp, .inr ⟨w.heap.size, n, _, rfl, hB, heap_alloc_new w _, Nat.le_refl _, by simp only [maxLen]; omega, hs, ?_⟩⟩
  rw [toList_madeCells_one]
  simp

def MeasPost (w : World) (l : List OpD) (e : Ending) (w' : World) : Prop :=
  (well l = true → (∃ S a1 c1 a2 c2, measL l = some S ∧ e = .returned (.tuple #[.slice a1 l.length c1, .slice a2 l.length c2, .int .i64 (S.st.getLast?.getD (0, 0)).2, .int .i64 0]) ∧ Own w' w.heap.size 3 a1 c1 S.sz ∧ Own w' w.heap.size 3 a2 c2 S.rd) ∨
    (measL l = none ∧ e = .returned (.tuple #[.slice none 0 0, .slice none 0 0, .int .i64 0, .int .i64 9]))) ∧
  (well l = false → e = .returned (.tuple #[.slice none 0 0, .slice none 0 0, .int .i64 0, .int .i64 6])) ∧ Below w.heap.size w w'

/-- a slice that was just built -/
theorem own_built {α : Type} [Flat α] {w : World} {B : Nat} {E : TypeId} {cs : Array Value} (l : List α) (hcs : cs.toList = l.flatMap Flat.enc) (hB : B ≤ w.heap.size) (hl : l.length ≤ 1000000) : Own (w.alloc (.cells cs E)) B E (some ⟨w.heap.size, 0, none⟩) l.length l := by
  unfold Own
  have hs : cs.size = l.length * Flat.n α := by rw [← enc_length, ← hcs]; simp
  refine ⟨enc_length l, .inr ⟨w.heap.size, l.length, cs, rfl, hB, heap_alloc_new w _, Nat.le_refl _, by simp only [maxLen]; omega, hs, ?_⟩⟩
  rw [hcs, ← enc_length l, List.take_length]

theorem block_q (n : Int) (v : UInt64) (w : World) (h0 : 0 ≤ n) : Calls Try.prog 54 #[.int .i64 n, .int .u64 (v.toNat : Int)] w fun e w' => e = .returned (.tuple #[.int .i64 ((blkS n v).getD 0), .bool (blkS n v).isSome]) ∧ w' = w :=
  (block_calls n v w h0).mono fun e w' ⟨h1, h2⟩ => ⟨h1, h2.symm⟩
theorem writes_of {x : OpD} (h1 : 1 ≤ x.kind) (h2 : x.kind ≤ 6) (w : World) : Calls Try.prog 56 #[.agg #[.int .i64 x.kind, .int .i64 x.d, .int .i64 x.a, .int .i64 x.b, .int .u64 (x.v.toNat : Int)]] w fun e w' => e = .returned (.tuple #[.int .i64 x.d, .bool true]) ∧ Below w.heap.size w w' := by
  have := Writes7_calls x w
  rw [dOf_true h1 h2] at this
  simpa using this
theorem wellF_cons {n : Nat} {x : OpD} {r : List OpD} (h : wellF n (x :: r) = true) : 0 ≤ x.kind ∧ x.kind ≤ 7 ∧ (x.kind = 7 → wellF (n + 1) r = true) ∧ (x.kind = 0 → 0 < n ∧ wellF (n - 1) r = true) ∧ (x.kind ≠ 7 → x.kind ≠ 0 → wellF n r = true) := by
  rw [wellF] at h
  by_cases h1 : x.kind < 0 ∨ 7 < x.kind
  · rw [if_pos h1] at h; cases h
  · rw [if_neg h1] at h
    refine ⟨by omega, by omega, fun h7 => ?_, fun h0 => ?_, fun h7 h0 => ?_⟩
    · rwa [if_pos h7] at h
    · rw [if_neg (by omega), if_pos h0] at h
      by_cases hn : n = 0
      · rw [if_pos hn] at h; cases h
      · rw [if_neg hn] at h; exact ⟨by omega, h⟩
    · rwa [if_neg h7, if_neg h0] at h

set_option maxRecDepth 100000 in
set_option maxHeartbeats 1600000 in
theorem measure_bad (a : Option Addr) (c : Nat) (l : List OpD) (w : World) (h : At w a l) (hl : l.length ≤ 1000000) (hw : well l = false) : Calls Try.prog 39 #[.slice a l.length c] w (MeasPost w l) := by
  have HM := hide (MatchN a c l w h hl hw)
  have HW := hide hw
  clear hw
  go_enter Try.func39, Try.ntmps39
  go_wp2
  go_step3
  go_wp2_with (go_at_call 32; ((with_reducible refine (HM.out).mono ?_); rintro e w1 ⟨a1, c1, rfl, hb⟩))
  try rw [Exit.noGoto_ret]
  refine bodyPost_ret (v := .tuple #[.slice none 0 0, .slice none 0 0, .int .i64 0, .int .i64 6]) (by simp [results, Try.results39, go_sem]) rfl ?_
  unfold MeasPost
  rw [HW.out]
  exact ⟨(fun h => by cases h), fun _ => rfl, hb⟩

end Go.Proofs.Ytoklehndfncmnaa
