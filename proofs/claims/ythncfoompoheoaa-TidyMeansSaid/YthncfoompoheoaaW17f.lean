/- Chapter 17: tidy.asked (pointers to the registers of an operation). -/
import Derived.Test.YthncfoompoheoaaW17a
import Derived.Test.YthncfoompoheoaaQc
import Derived.Test.YthncfoompoheoaaQa
namespace Go.Proofs.Ythncfoompoheoaa
set_option linter.unusedVariables false
set_option linter.unusedSimpArgs false
open Go.RowKit
instance : Flat Addr := ⟨1, fun x => [.pointer (some x)], fun _ => rfl, fun x u hu => by simp at hu; subst hu; rfl, by decide⟩
theorem tyPt : Ty Try.prog 153 156 Addr := Ty.of (z := .pointer none) (size := 1) (bytes := 8) Try.underlying153 (by kernel_rfl) rfl (by decide) rfl
/-- where an operation's registers stand, as it asks for them -/
def askP (g off : Nat) (x : OpD) : List Addr := (if dOf x.kind = true then [⟨g, off + 1, none⟩] else []) ++ (if aOf x.kind = true then (if bOf x.kind = true then [⟨g, off + 2, none⟩, ⟨g, off + 3, none⟩] else [⟨g, off + 2, none⟩]) else [])
theorem readsL_le (x : OpD) : (readsL x).length ≤ 2 := by
  unfold readsL
  split
  · split <;> simp
  · simp
theorem askP_eq (g off : Nat) (x : OpD) (rn : Nat) (hrn : rn = (readsL x).length) (D : List Addr) (hD : (if dOf x.kind = true then [⟨g, off + 1, none⟩] else []) = D) : D ++ ([⟨g, off + 2, none⟩, ⟨g, off + 3, none⟩] : List Addr).take rn = askP g off x := by
  subst hrn
  unfold askP
  rw [hD]
  congr 1
  unfold readsL
  split
  · split <;> rfl
  · rfl
set_option maxRecDepth 100000 in
set_option maxHeartbeats 6400000 in
theorem asked_calls (g off : Nat) (x : OpD) (w : World) (x0 : w.cell? ⟨g, off, none⟩ = some (.int .i64 x.kind)) (x1 : w.cell? ⟨g, off + 1, none⟩ = some (.int .i64 x.d)) (x2 : w.cell? ⟨g, off + 2, none⟩ = some (.int .i64 x.a)) (x3 : w.cell? ⟨g, off + 3, none⟩ = some (.int .i64 x.b)) (x4 : w.cell? ⟨g, off + 4, none⟩ = some (.int .u64 (x.v.toNat : Int))) :
    Calls Try.prog 99 #[.pointer (some ⟨g, off, none⟩)] w fun e w' => ∃ a' c' n, e = .returned (.slice a' n c') ∧ n = (askP g off x).length ∧ Own w' w.heap.size 156 a' c' (askP g off x) ∧ Below w.heap.size w w' := by
  have hg := World.block_lt_of_cell? _ _ x0
  have HW := hide (fun W => Writes7_calls x W)
  have HR := hide (fun W => Reads_calls x W)
  have HO0 : Hid (∀ W : World, Own W w.heap.size 156 none 0 ([] : List Addr)) := hide (fun W => Own.none _ _ _)
  obtain ⟨rn, hrn⟩ : ∃ rn, rn = (readsL x).length := ⟨_, rfl⟩
  unfold ReadsPost at HR
  rw [← hrn] at HR
  have hrn2 : rn ≤ 2 := by rw [hrn]; exact readsL_le x
  obtain ⟨A, hA⟩ : ∃ A, A = askP g off x := ⟨_, rfl⟩
  rw [← hA]
  obtain ⟨dz, hdz⟩ : ∃ dz, dOf x.kind = dz := ⟨_, rfl⟩
  rw [hdz] at HW
  cases dz with
  | true =>
    rw [if_pos rfl] at HW
    have HRN := hide hrn
    have HA := hide hA
    have HAA := hide (askP_eq g off x rn hrn [⟨g, off + 1, none⟩] (by rw [hdz]; rfl))
    rw [← hA] at HAA
    clear hrn hA hdz
    go_enter Try.func99, Try.ntmps99
    go_wp2_with (first
      | (go_at_call 60; go_must ((with_reducible refine (HW.out _).mono ?_); rintro e w1 ⟨rfl, hb1⟩; obtain ⟨y0, _⟩ := bcell hb1; have q0 := (y0 g off hg).trans x0; have q1 := (y0 g (off + 1) hg).trans x1; have q2 := (y0 g (off + 2) hg).trans x2; have q3 := (y0 g (off + 3) hg).trans x3; have q4 := (y0 g (off + 4) hg).trans x4; clear y0))
      | (go_at_call 136; go_must ((with_reducible refine (HR.out _).mono ?_); rintro e w3 ⟨a3, c3, rfl, hown3, hb3⟩; have hB3 := hB2.trans (hb3.mono hB2.size)))
      | (at_builtin; go_must (refine wpList_push tyPt (HO0.out w1) (⟨g, off + 1, none⟩ : Addr) rfl rfl rfl rfl rfl (by simp) rfl hb1.size (by omega) ?_; intro a2 c2 w2 hown2 hg2 _; have hB2 := below_push hb1 (HO0.out w1) hg2 hb1.size; obtain ⟨y0, _⟩ := bcell hB2; have u0 := (y0 g off hg).trans x0; have u1 := (y0 g (off + 1) hg).trans x1; have u2 := (y0 g (off + 2) hg).trans x2; have u3 := (y0 g (off + 3) hg).trans x3; have u4 := (y0 g (off + 4) hg).trans x4; clear y0)))
    have hn9 := below_new12 w3 (.cells #[.pointer (some ⟨g, off + 2, none⟩), .pointer (some ⟨g, off + 3, none⟩)] 156)
    have hN9 : Below w3.heap.size w3 (w3.alloc (.cells #[.pointer (some ⟨g, off + 2, none⟩), .pointer (some ⟨g, off + 3, none⟩)] 156)).drew := Below.drew hn9
    have hO9 : Own (w3.alloc (.cells #[.pointer (some ⟨g, off + 2, none⟩), .pointer (some ⟨g, off + 3, none⟩)] 156)).drew w.heap.size 156 a2 c2 ([⟨g, off + 1, none⟩] : List Addr) := (hown2.belowN hb3).belowN hN9
    have hS9 : At (w3.alloc (.cells #[.pointer (some ⟨g, off + 2, none⟩), .pointer (some ⟨g, off + 3, none⟩)] 156)).drew (some ⟨w3.heap.size, 0, none⟩) (([⟨g, off + 2, none⟩, ⟨g, off + 3, none⟩] : List Addr).take rn) := (At.ofBlk (Blk.new w3 156 #[.pointer (some ⟨g, off + 2, none⟩), .pointer (some ⟨g, off + 3, none⟩)]) ([⟨g, off + 2, none⟩, ⟨g, off + 3, none⟩] : List Addr) rfl).take rn
    have HTK := hide (show rn = (([⟨g, off + 2, none⟩, ⟨g, off + 3, none⟩] : List Addr).take rn).length by rw [List.length_take]; simp; omega)
    have hz9 : w.heap.size ≤ (w3.alloc (.cells #[.pointer (some ⟨g, off + 2, none⟩), .pointer (some ⟨g, off + 3, none⟩)] 156)).drew.heap.size := Nat.le_trans hB3.size hN9.size
    have hc3 : rn = 0 ∨ rn = 1 ∨ rn = 2 := by omega
    rcases hc3 with rfl | rfl | rfl
    all_goals
      go_region_law (refine step_pushAll tyPt hO9 hS9 rfl rfl rfl rfl rfl HTK.out hz9 (by omega) (by omega) ?_; intro a4 c4 w4 hown4 hg4 hcs4)
      have hB4 := below_push (hB3.trans (hN9.mono hB3.size)) hO9 hg4 hz9
      go_wp2
      go_ret
      exact ⟨a4, c4, _, rfl, by rw [← HAA.out, List.length_append, ← HTK.out]; rfl, by rw [← HAA.out]; exact hown4, hB4⟩
  | false =>
    rw [if_neg (by decide)] at HW
    have HRN := hide hrn
    have HA := hide hA
    have HAA := hide (askP_eq g off x rn hrn [] (by rw [hdz]; rfl))
    rw [← hA] at HAA
    clear hrn hA hdz
    go_enter Try.func99, Try.ntmps99
    go_wp2_with (first
      | (go_at_call 60; go_must ((with_reducible refine (HW.out _).mono ?_); rintro e w1 ⟨rfl, hb1⟩; obtain ⟨y0, _⟩ := bcell hb1; have q0 := (y0 g off hg).trans x0; have q1 := (y0 g (off + 1) hg).trans x1; have q2 := (y0 g (off + 2) hg).trans x2; have q3 := (y0 g (off + 3) hg).trans x3; have q4 := (y0 g (off + 4) hg).trans x4; clear y0))
      | (go_at_call 136; go_must ((with_reducible refine (HR.out _).mono ?_); rintro e w3 ⟨a3, c3, rfl, hown3, hb3⟩; have hB3 := hb1.trans (hb3.mono hb1.size))))
    have hn9 := below_new12 w3 (.cells #[.pointer (some ⟨g, off + 2, none⟩), .pointer (some ⟨g, off + 3, none⟩)] 156)
    have hN9 : Below w3.heap.size w3 (w3.alloc (.cells #[.pointer (some ⟨g, off + 2, none⟩), .pointer (some ⟨g, off + 3, none⟩)] 156)).drew := Below.drew hn9
    have hO9 : Own (w3.alloc (.cells #[.pointer (some ⟨g, off + 2, none⟩), .pointer (some ⟨g, off + 3, none⟩)] 156)).drew w.heap.size 156 none 0 ([] : List Addr) := (HO0.out w3).belowN hN9
    have hS9 : At (w3.alloc (.cells #[.pointer (some ⟨g, off + 2, none⟩), .pointer (some ⟨g, off + 3, none⟩)] 156)).drew (some ⟨w3.heap.size, 0, none⟩) (([⟨g, off + 2, none⟩, ⟨g, off + 3, none⟩] : List Addr).take rn) := (At.ofBlk (Blk.new w3 156 #[.pointer (some ⟨g, off + 2, none⟩), .pointer (some ⟨g, off + 3, none⟩)]) ([⟨g, off + 2, none⟩, ⟨g, off + 3, none⟩] : List Addr) rfl).take rn
    have HTK := hide (show rn = (([⟨g, off + 2, none⟩, ⟨g, off + 3, none⟩] : List Addr).take rn).length by rw [List.length_take]; simp; omega)
    have hz9 : w.heap.size ≤ (w3.alloc (.cells #[.pointer (some ⟨g, off + 2, none⟩), .pointer (some ⟨g, off + 3, none⟩)] 156)).drew.heap.size := Nat.le_trans hB3.size hN9.size
    have hc3 : rn = 0 ∨ rn = 1 ∨ rn = 2 := by omega
    rcases hc3 with rfl | rfl | rfl
    all_goals
      go_region_law (refine step_pushAll tyPt hO9 hS9 rfl rfl rfl rfl rfl HTK.out hz9 (by omega) (by omega) ?_; intro a4 c4 w4 hown4 hg4 hcs4)
      have hB4 := below_push (hB3.trans (hN9.mono hB3.size)) hO9 hg4 hz9
      go_wp2
      go_ret
      exact ⟨a4, c4, _, rfl, by rw [← HAA.out, List.length_append, ← HTK.out]; rfl, by rw [← HAA.out]; exact hown4, hB4⟩
end Go.Proofs.Ythncfoompoheoaa
