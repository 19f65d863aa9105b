/- Strings in a slice of the call's own, sorted and turned round by the library. -/
import Derived.Sort.OwnSorted
import Derived.Sort.KeysCollected
import Derived.Test.YtcamcnahkdiefaaLs
import Derived.Test.YtcamcnahkdiefaaMp
import Derived.Test.YtcamcnahkdiefaaQb
namespace Go.Proofs.Ytcamcnahkdiefaa
set_option linter.unusedVariables false
set_option linter.unusedSimpArgs false
open Go.RowKit Go.Sort
/-- A string. -/
instance : Flat (List UInt8) := ⟨1, fun x => [encStr x], fun _ => rfl, fun x u hu => by simp at hu; subst hu; rfl, by decide⟩
theorem flat_str (ss : List (List UInt8)) : ss.flatMap Flat.enc = ss.map encStr := by
  induction ss with
  | nil => rfl
  | cons x ss ih => rw [List.flatMap_cons, List.map_cons, ih]; rfl
theorem Own.str {w : World} {B : Nat} {E : TypeId} {a : Option Addr} {c : Nat} {ss : List (List UInt8)} (h : Own w B E a c ss) : w.ownsRow B E 1 (.slice a ss.length c) ss.length (ss.map encStr) := by
  unfold Own at h; rw [flat_str] at h; exact h
theorem Own.ofStr {w : World} {B : Nat} {E : TypeId} {a : Option Addr} {c : Nat} {ss : List (List UInt8)} (h : w.ownsRow B E 1 (.slice a ss.length c) ss.length (ss.map encStr)) : Own w B E a c ss := by
  unfold Own; rw [flat_str]; exact h
theorem Len64_zero (w : World) : Calls Try.prog 77 #[.int .u64 0] w fun e w' => e = .returned (.int .i64 0) ∧ w' = w := by
  have e : Lib.len8 0 = 0 := by kernel_rfl
  go_enter Try.func77, Try.ntmps77
  go_wp2
  go_ret
  exact ⟨by simp [e], rfl⟩
theorem Len_zero (w : World) : Calls Try.prog 64 #[.int .u64 0] w fun e w' => e = .returned (.int .i64 0) ∧ w' = w := by
  go_enter Try.func64, Try.ntmps64
  go_wp2_with (go_at_call 77; refine (Len64_zero _).mono ?_; rintro e w' ⟨rfl, rfl⟩)
  go_ret
  exact ⟨rfl, rfl⟩
theorem Insert_nil (p : Option Addr) (cap : Nat) (w : World) : Calls Try.prog 67 #[.slice p 0 cap, .int .i64 0, .int .i64 0] w fun e w' => e = .returned (.tuple #[]) ∧ w' = w := by
  go_enter Try.func67, Try.ntmps67
  go_wp2
  refine wp_loop_rounds 1 ?_
  rw [rounds_succ]
  go_wp2
  go_end0
  exact ⟨rfl, rfl⟩
set_option maxRecDepth 100000 in
theorem Pdq_nil (p : Option Addr) (cap : Nat) (w : World) : Calls Try.prog 63 #[.slice p 0 cap, .int .i64 0, .int .i64 0, .int .i64 0] w fun e w' => e = .returned (.tuple #[]) ∧ w' = w := by
  go_enter Try.func63, Try.ntmps63
  go_wp2
  refine wp_loop_rounds 1 ?_
  rw [rounds_succ]
  go_wp2_with (first | (go_at_call 67; refine (Insert_nil p cap _).mono ?_; rintro e w' ⟨rfl, rfl⟩))
  refine bodyPost_ret (results_none rfl _ _ _) rfl ?_
  exact ⟨rfl, rfl⟩
set_option maxRecDepth 100000 in
theorem Sort_nil (p : Option Addr) (cap : Nat) (w : World) : Calls Try.prog 54 #[.slice p 0 cap] w fun e w' => e = .returned (.tuple #[]) ∧ w' = w := by
  go_enter Try.func54, Try.ntmps54
  go_wp2_with (first
    | (go_at_call 64; refine (Len_zero _).mono ?_; rintro e w' ⟨rfl, rfl⟩)
    | (go_at_call 63; refine (Pdq_nil p cap _).mono ?_; rintro e w' ⟨rfl, rfl⟩))
  go_end0
  exact ⟨rfl, rfl⟩
theorem SortS_calls (w : World) (B : Nat) (E : TypeId) (a : Option Addr) (n c : Nat) (ss : List (List UInt8)) (hn : n = ss.length) (h : Own w B E a c ss) (hl : n ≤ 1000000000) :
    Calls Try.prog 54 #[.slice a n c] w fun v w' => v = .returned (.tuple #[]) ∧ Own w' B E a c (ss.mergeSort leB) ∧ w.grownBy w' (a.map (·.block)) := by
  subst hn
  have hcap := h.cap
  rcases h.str.2 with ⟨h0, _⟩ | ⟨g, cap, cur, h0, hbase, hb, h1, h2, h3, h4⟩
  · injection h0 with e1 e2 e3
    subst e1 e3
    have hs : ss = [] := List.eq_nil_of_length_eq_zero e2
    subst hs
    refine (Sort_nil none 0 w).mono ?_
    rintro e w' ⟨rfl, rfl⟩
    exact ⟨rfl, by simpa using h, grown_drewN w' 0 _⟩
  · injection h0 with e1 e2 e3
    subst e1 e3
    have hH : Holds encStr w g 0 ss.toArray := holds_of_block hb (by simpa using h4)
    have hgl : g < w.heap.size := (Array.getElem?_eq_some_iff.1 hb).1
    have hmx : ss.length < 4611686018427387904 := by omega
    refine (Any.slices_Sort_string lays190 g 0 c ss w hH hgl hmx).mono ?_
    rintro e w' ⟨rfl, nn, os, rfl⟩
    refine ⟨rfl, Own.ofStr ?_, grownBy_sorted _⟩
    have := ownsRow_sorted (n := nn) (os := os) (ts := ss.mergeSort leB) (by simp) hbase hb h1 h2 h3
    simpa using this
theorem RevS_calls (w : World) (B : Nat) (E : TypeId) (a : Option Addr) (n c : Nat) (ss : List (List UInt8)) (hn : n = ss.length) (h : Own w B E a c ss) :
    Calls Try.prog 55 #[.slice a n c] w fun v w' => v = .returned (.tuple #[]) ∧ Own w' B E a c ss.reverse ∧ w.grownBy w' (a.map (·.block)) := by
  subst hn
  have hcap := h.cap
  rcases h.str.2 with ⟨h0, _⟩ | ⟨g, cap, cur, h0, hbase, hb, h1, h2, h3, h4⟩
  · injection h0 with e1 e2 e3
    subst e1 e3
    have hs : ss = [] := List.eq_nil_of_length_eq_zero e2
    subst hs
    refine (Any.slices_Reverse_string_empty lays17 none 0 w).mono ?_
    rintro e w' ⟨rfl, rfl⟩
    exact ⟨rfl, by simpa using h, grown_drewN w' 0 _⟩
  · injection h0 with e1 e2 e3
    subst e1 e3
    have hH : Holds encStr w g 0 ss.toArray := holds_of_block hb (by simpa using h4)
    have hmx : ss.length ≤ 9223372036854775807 := Nat.le_trans (Nat.le_trans hcap.1 hcap.2) (by unfold maxLen; decide)
    refine (Any.slices_Reverse_string lays17 g 0 c ss w hH hmx).mono ?_
    rintro e w' ⟨rfl, nn, rfl⟩
    have hz : ∀ W : World, grow W #[] = W := fun W => by simp [grow]
    rw [← hz (putRow encStr (Sort.ahead w nn) g 0 ss.reverse.toArray)]
    refine ⟨rfl, Own.ofStr ?_, grownBy_sorted _⟩
    have := ownsRow_sorted (n := nn) (os := #[]) (ts := ss.reverse) (by simp) hbase hb h1 h2 h3
    simpa using this
end Go.Proofs.Ytcamcnahkdiefaa
