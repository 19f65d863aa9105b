/- Chapter 23, plain: what a chain's steps and losses are. -/
import Derived.Test.YtjfpnbnkfcgjcaaC23a
import Derived.Test.YtjfpnbnkfcgjcaaQk
namespace Go.Proofs.Ytjfpnbnkfcgjcaa
set_option linter.unusedVariables false
set_option linter.unusedSimpArgs false
open Go.RowKit
/-- a chain's programs, how many numbers a state has, the fixed numbers -/
structure ChD where
  p : PrD
  q : PrD
  x : Int
  th : List UInt64
def ChD.bad (c : ChD) : Int := if pairS c.p c.q ≠ 0 then pairS c.p c.q else dimsC c.p.regs c.q.regs c.x c.th.length
structure ChD.Ok (c : ChD) : Prop where
  hp : ∃ f : Fo, c.p.l = f.flat ∧ Good c.p.regs f
  hq : ∃ f : Fo, c.q.l = f.flat ∧ Good c.q.regs f
  x1 : 1 ≤ c.x
  x2 : c.x ≤ 64
  t2 : c.th.length ≤ 64
  r1 : c.x + c.th.length + 1 ≤ c.p.regs
  r2 : c.x + c.th.length ≤ c.q.regs
theorem ChD.ok_of {c : ChD} (h : c.bad = 0) : c.Ok := by
  unfold ChD.bad at h
  by_cases h1 : pairS c.p c.q = 0
  · rw [if_neg (by simpa using h1)] at h
    obtain ⟨k1, k2⟩ := pairS_ok h1
    have hd : ¬ ((c.x < 1 ∨ 64 < c.x ∨ (c.th.length : Int) < 0 ∨ 64 < (c.th.length : Int)) ∨ c.p.regs < c.x + c.th.length + 1 ∨ c.q.regs < c.x + c.th.length) := by
      intro hh
      unfold dimsC at h
      rw [if_pos hh] at h
      omega
    exact ⟨good_of_check k1, good_of_check k2, by omega, by omega, by omega, by omega, by omega⟩
  · rw [if_pos h1] at h; exact absurd h h1
/-- may a state of so many numbers be at a time? -/
def ChD.may (c : ChD) (t : Int) (n : Nat) : Int := if t < 0 ∨ 65536 ≤ t then 2 else if (n : Int) ≠ c.x then 10 else 0
/-- what a step begins with -/
def ChD.beg (c : ChD) (t : Int) (xs : List UInt64) : List UInt64 := xs ++ c.th ++ [UInt64.ofNat t.toNat]
noncomputable def ChD.step (c : ChD) (t : Int) (xs : List UInt64) : List UInt64 := (uptoS c.p.regs c.p.l (c.beg t xs) (-1)).take c.x.toNat
noncomputable def ChD.loss (c : ChD) (xs : List UInt64) : UInt64 := (uptoS c.q.regs c.q.l (xs ++ c.th) (-1)).getD 0 0
noncomputable def ChD.iter (c : ChD) (xs : List UInt64) : Nat → List UInt64
  | 0 => xs
  | t + 1 => c.step (t : Int) (c.iter xs t)
noncomputable def ChD.states (c : ChD) (xs : List UInt64) (l : Nat) : List (List UInt64) := (List.range (l + 1)).map (c.iter xs)
section
variable {c : ChD} (hc : c.Ok)
include hc
theorem ChD.step_run {t : Int} {xs : List UInt64} (hx : (xs.length : Int) = c.x) : dimsS c.p.regs c.p.l (c.beg t xs).length = 0 ∧ (uptoS c.p.regs c.p.l (c.beg t xs) (-1)).length = c.p.regs.toNat := by
  obtain ⟨f, hf, g⟩ := hc.hp
  have h1 := hc.r1
  have h2 := hc.x1
  have hl : ((c.beg t xs).length : Int) ≤ c.p.regs := by unfold ChD.beg; simp; omega
  rw [hf]
  refine ⟨dims_of_good g hl, ?_⟩
  rw [uptoS_good g hl, runR_length, startR_length _ _ (by omega)]
theorem ChD.step_length {t : Int} {xs : List UInt64} (hx : (xs.length : Int) = c.x) : ((c.step t xs).length : Int) = c.x := by
  have h1 := hc.r1
  have h2 := hc.x1
  unfold ChD.step
  rw [List.length_take, (c.step_run hc hx).2]
  omega
theorem ChD.loss_run {xs : List UInt64} (hx : (xs.length : Int) = c.x) : dimsS c.q.regs c.q.l (xs ++ c.th).length = 0 ∧ (uptoS c.q.regs c.q.l (xs ++ c.th) (-1)).length = c.q.regs.toNat := by
  obtain ⟨f, hf, g⟩ := hc.hq
  have h1 := hc.r2
  have h2 := hc.x1
  have hl : ((xs ++ c.th).length : Int) ≤ c.q.regs := by simp; omega
  rw [hf]
  refine ⟨dims_of_good g hl, ?_⟩
  rw [uptoS_good g hl, runR_length, startR_length _ _ (by omega)]
theorem ChD.iter_length {xs : List UInt64} (hx : (xs.length : Int) = c.x) : ∀ t, ((c.iter xs t).length : Int) = c.x
  | 0 => hx
  | t + 1 => c.step_length hc (ChD.iter_length hx t)
end
theorem ChD.states_length (c : ChD) (xs : List UInt64) (l : Nat) : (c.states xs l).length = l + 1 := by unfold ChD.states; simp
theorem ChD.states_at (c : ChD) (xs : List UInt64) (l : Nat) {k : Nat} (h : k ≤ l) : (c.states xs l)[k]? = some (c.iter xs k) := by
  unfold ChD.states; rw [List.getElem?_map, List.getElem?_range (by omega)]; rfl
theorem ChD.states_succ (c : ChD) (xs : List UInt64) (l : Nat) : c.states xs (l + 1) = c.states xs l ++ [c.iter xs (l + 1)] := by
  unfold ChD.states; rw [List.range_succ, List.map_append]; rfl
theorem ChD.states_take (c : ChD) (xs : List UInt64) {l m : Nat} (h : l ≤ m) : (c.states xs m).take (l + 1) = c.states xs l := by
  unfold ChD.states; rw [← List.map_take, List.take_range, Nat.min_eq_left (by omega)]
end Go.Proofs.Ytjfpnbnkfcgjcaa
