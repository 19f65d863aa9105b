/- Chapter 9: a block's writes, sums; stores into a slice of structs of the call's own. -/
import Derived.Test.YtoklehndfncmnaaOd
import Derived.Test.YtoklehndfncmnaaN8h
import Derived.Deep.CutRange
import Derived.Deep.DeepCutAuto
import Derived.Deep.LoopGhost
import Derived.Deep.OwnRows
namespace Go.Proofs.Ytoklehndfncmnaa
set_option linter.unusedVariables false
set_option linter.unusedSimpArgs false
open Go.RowKit

theorem set_flat2 {α : Type} [Flat α] (l : List α) (i f : Nat) (y x : α) (u : Value) (hx : l[i]? = some x) (hf : f < Flat.n α) (hu : Flat.enc y = (Flat.enc x).set f u) : (l.flatMap Flat.enc).set (i * Flat.n α + f) u = (l.set i y).flatMap Flat.enc := by
  induction l generalizing i with
  | nil => simp at hx
  | cons z r ih =>
    cases i with
    | zero =>
      simp at hx
      subst hx
      simp only [List.flatMap_cons, List.set_cons_zero, Nat.zero_mul, Nat.zero_add]
      rw [List.set_append_left _ _ (by rw [Flat.len]; exact hf), hu]
    | succ i =>
      simp only [List.flatMap_cons, List.set_cons_succ]
      rw [List.set_append_right _ _ (by rw [Flat.len, Nat.add_mul]; omega), Flat.len, ← ih i (by simpa using hx)]
      congr 2
      rw [Nat.add_mul]; omega
/-- A store into one cell of an element of a slice of the call's own. -/
theorem Own.setAt {α : Type} [Flat α] {w : World} {B : Nat} {E : TypeId} {g c : Nat} {l : List α} (h : Own w B E (some ⟨g, 0, .none⟩) c l) (i f : Nat) (y x : α) (u : Value) (hx : l[i]? = some x) (hf : f < Flat.n α) (hu : Flat.enc y = (Flat.enc x).set f u) :
    Own (w.setCell ⟨g, i * Flat.n α + f, .none⟩ u) B E (some ⟨g, 0, .none⟩) c (l.set i y) := by
  have := (World.ownsRow.stored h (i * Flat.n α + f) u).1
  unfold Own
  rw [← set_flat2 l i f y x u hx hf hu, List.length_set]
  exact this
/-- A cell of an element of a slice of the call's own. -/
theorem Own.cellAt {α : Type} [Flat α] {w : World} {B : Nat} {E : TypeId} {g c : Nat} {l : List α} (h : Own w B E (some ⟨g, 0, .none⟩) c l) {i f : Nat} {x : α} {u : Value} (hx : l[i]? = some x) (hu : (Flat.enc x)[f]? = some u) : w.cell? ⟨g, i * Flat.n α + f, .none⟩ = some u := by
  obtain ⟨b, off, e, h2⟩ := h.at_ i x hx
  simp at e
  obtain ⟨rfl, rfl⟩ := e
  have := h2 f u hu
  rwa [Nat.zero_add] at this

/-- Slices of the call's own of unlike elements lie apart. -/
theorem Own.ne_E {α β : Type} [Flat α] [Flat β] {w : World} {B B' : Nat} {E E' : TypeId} {g g' c c' : Nat} {l : List α} {l' : List β} (h : Own w B E (some ⟨g, 0, .none⟩) c l) (h' : Own w B' E' (some ⟨g', 0, .none⟩) c' l') (hE : E ≠ E') : g ≠ g' := by
  rintro rfl
  rcases h.2 with ⟨hv, _⟩ | ⟨g1, cap, cur, hv, _, hg, _⟩
  · injection hv with h1; cases h1
  · rcases h'.2 with ⟨hv', _⟩ | ⟨g2, cap', cur', hv', _, hg', _⟩
    · injection hv' with h1; cases h1
    · injection hv with h1
      injection hv' with h2
      simp at h1 h2
      subst h1 h2
      rw [hg] at hg'
      injection hg' with hg'
      injection hg' with _ hg'
      exact hE hg'
theorem blk_div {n : Int} {v : UInt64} (h0 : 0 < n) : (n * (v.toNat : Int) ≤ 65536 ↔ (v.toNat : Int) ≤ 65536 / n) := by
  rw [Int.le_ediv_iff_mul_le h0, Int.mul_comm]
theorem block_calls (n : Int) (v : UInt64) (w : World) (h0 : 0 ≤ n) : Calls Try.prog 54 #[.int .i64 n, .int .u64 (v.toNat : Int)] w fun e w' => e = .returned (.tuple #[.int .i64 ((blkS n v).getD 0), .bool (blkS n v).isSome]) ∧ w = w' := by
  by_cases hz : n = 0
  · subst hz
    have e : blkS 0 v = some 0 := by simp [blkS]
    rw [e]
    clear e
    go_enter Try.func54, Try.ntmps54
    go_wp2
    go_ret2
    exact ⟨rfl, rfl⟩
  · have hnz : (n == 0) = false := by simpa using hz
    by_cases hb : n ≤ 65536
    · have hd := blk_div (n := n) (v := v) (by omega)
      have hd0 : 0 ≤ 65536 / n := Int.ediv_nonneg (by omega) h0
      have hd1 : 65536 / n ≤ 65536 := Int.ediv_le_self _ (by omega)
      have hp : 0 < n := by omega
      by_cases hc : n * (v.toNat : Int) ≤ 65536
      · have e : blkS n v = some (n * (v.toNat : Int)) := by unfold blkS; rw [if_pos ⟨hb, hc⟩]
        have hc2 := hd.1 hc
        have hc3 : 0 ≤ n * (v.toNat : Int) := Int.mul_nonneg h0 (by omega)
        have hv : (v.toNat : Int) ≤ 65536 := by omega
        rw [e]
        clear e hd hz
        go_enter Try.func54, Try.ntmps54
        go_wp2
        go_ret2
        exact ⟨rfl, rfl⟩
      · have e : blkS n v = none := by unfold blkS; rw [if_neg (fun h => hc h.2)]
        have hc2 : 65536 / n < (v.toNat : Int) := by have := mt hd.2 hc; omega
        rw [e]
        clear e hd hz hc
        go_enter Try.func54, Try.ntmps54
        go_wp2
        go_ret2
        exact ⟨rfl, rfl⟩
    · have e : blkS n v = none := by unfold blkS; rw [if_neg (fun h => hb h.1)]
      rw [e]
      clear e hz
      go_enter Try.func54, Try.ntmps54
      go_wp2
      go_ret2
      exact ⟨rfl, rfl⟩

theorem add_calls (a : Option Addr) (c : Nat) (x y : Int) (w : World) (h : At w a [x, y]) (hx : 0 ≤ x ∧ x ≤ 1000000000000000) (hy : 0 ≤ y ∧ y ≤ 1000000000000000) : Calls Try.prog 55 #[.slice a 2 c] w fun e w' => e = .returned (.int .i64 (x + y)) ∧ w = w' := by
  obtain ⟨b, off, e, h0⟩ := h 0 x rfl
  obtain ⟨b', off', e', h1⟩ := h 1 y rfl
  subst e
  simp at e'
  obtain ⟨rfl, rfl⟩ := e'
  have c0 : w.cell? ⟨b, off, none⟩ = some (.int .i64 x) := by simpa [Flat.n] using h0 0 _ rfl
  have c1 : w.cell? ⟨b, off + 1, none⟩ = some (.int .i64 y) := by simpa [Flat.n] using h1 0 _ rfl
  obtain ⟨x0, x1⟩ := hx
  obtain ⟨y0, y1⟩ := hy
  clear h0 h1 h
  go_enter Try.func55, Try.ntmps55
  go_wp2
  go_loopw [3, 8] (fun s i wr => ((i = .int .i64 0 ∧ s = .int .i64 0) ∨ (i = .int .i64 1 ∧ s = .int .i64 x) ∨ (i = .int .i64 2 ∧ s = .int .i64 (x + y))) ∧ w = wr) (fun _ i _ => 2 - (intOf i).toNat)
  case atStart => exact ⟨.inl ⟨rfl, rfl⟩, rfl⟩
  case round =>
    obtain ⟨⟨rfl, rfl⟩ | ⟨rfl, rfl⟩ | ⟨rfl, rfl⟩, rfl⟩ := hrel
    · go_wp2
      go_roundw
      case rel => exact ⟨.inr (.inl ⟨rfl, rfl⟩), by trivial⟩
      case measure => simp [intOf]
    · go_wp2
      go_roundw
      case rel => exact ⟨.inr (.inr ⟨rfl, rfl⟩), by trivial⟩
      case measure => simp [intOf]
    · go_wp2
      go_ret
      exact ⟨rfl, rfl⟩
end Go.Proofs.Ytoklehndfncmnaa
