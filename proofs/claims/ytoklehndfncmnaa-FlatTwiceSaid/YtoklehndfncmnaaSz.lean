/- Plain facts on operations: what a kind asks for, what an operation makes of numbers, how many writes a forest has, its sizes and rounds. No program is named here. -/
import Derived.Test.YtoklehndfncmnaaNest2
namespace Go.Proofs.Ytoklehndfncmnaa
set_option linter.unusedVariables false
set_option linter.unusedSimpArgs false
open Go.RowKit

/-! ### What a kind asks for -/
def dOf (k : Int) : Bool := decide (1 ≤ k) && decide (k ≤ 6)
def aOf (k : Int) : Bool := (decide (1 ≤ k) && decide (k ≤ 4)) || decide (k = 6)
def bOf (k : Int) : Bool := decide (1 ≤ k) && decide (k ≤ 3)
def vOf (k : Int) : Bool := decide (k = 5) || decide (k = 7)
def regB (n : Int) (asked : Bool) : Bool := if asked then decide (0 ≤ n) && decide (n ≤ 2147483647) else decide (n = 0)
def rightB (x : OpD) : Bool := decide (0 ≤ x.kind) && decide (x.kind ≤ 7) && regB x.d (dOf x.kind) && regB x.a (aOf x.kind) && regB x.b (bOf x.kind) && (vOf x.kind || decide (x.v = 0))
def readsL (x : OpD) : List Int := if aOf x.kind then (if bOf x.kind then [x.a, x.b] else [x.a]) else []
def offB (regs : Int) (x : OpD) : Bool := (aOf x.kind && decide (regs ≤ x.a)) || (bOf x.kind && decide (regs ≤ x.b)) || (dOf x.kind && decide (regs ≤ x.d))
def applyU (x : OpD) (a b : UInt64) : UInt64 :=
  if x.kind = 1 then a + b else if x.kind = 2 then a - b else if x.kind = 3 then a * b else if x.kind = 4 then 0 - a else if x.kind = 5 then x.v else if x.kind = 6 then a else 0
def partU (x : OpD) (a b : UInt64) : UInt64 × UInt64 :=
  if x.kind = 1 then (1, 1) else if x.kind = 2 then (1, 0 - 1) else if x.kind = 3 then (b, a) else if x.kind = 4 then (0 - 1, 0) else if x.kind = 6 then (1, 0) else (0, 0)

theorem kind8 (k : Int) : k < 0 ∨ k = 0 ∨ k = 1 ∨ k = 2 ∨ k = 3 ∨ k = 4 ∨ k = 5 ∨ k = 6 ∨ k = 7 ∨ 7 < k := by omega
theorem dOf_true {k : Int} (h1 : 1 ≤ k) (h2 : k ≤ 6) : dOf k = true := by simp [dOf, h1, h2]
theorem dOf_false {k : Int} (h : k = 0 ∨ k = 7) : dOf k = false := by rcases h with rfl | rfl <;> rfl

/-! ### Writes of a forest -/
namespace Fo
def wr : Fo → Nat
  | nil => 0
  | leaf _ r => wr r + 1
  | rep op b _ r => wr b * op.v.toNat + wr r
/-- may all blocks be? -/
def may : Fo → Bool
  | nil => true
  | leaf _ r => may r
  | rep op b _ r => may b && decide (wr b ≤ 65536) && decide (wr b * op.v.toNat ≤ 65536) && may r
def sizes : Fo → List Int
  | nil => []
  | leaf _ r => 1 :: sizes r
  | rep op b _ r => ((wr b * op.v.toNat : Nat) : Int) :: (sizes b ++ 0 :: sizes r)
def rounds : Fo → List Int
  | nil => []
  | leaf _ r => 0 :: rounds r
  | rep op b _ r => (wr b : Int) :: (rounds b ++ 0 :: rounds r)
theorem sizes_length (f : Fo) : f.sizes.length = f.size := by
  induction f with
  | nil => rfl
  | leaf op r ih => simp [sizes, ih, size_leaf]
  | rep op b fin r ihb ihr => simp [sizes, ihb, ihr, size_rep]; omega
theorem rounds_length (f : Fo) : f.rounds.length = f.size := by
  induction f with
  | nil => rfl
  | leaf op r ih => simp [rounds, ih, size_leaf]
  | rep op b fin r ihb ihr => simp [rounds, ihb, ihr, size_rep]; omega
theorem wr_app (f g : Fo) : (f.app g).wr = f.wr + g.wr := by
  induction f with
  | nil => simp [app, wr]
  | leaf op r ih => simp [app, wr, ih]; omega
  | rep op b fin r _ ih => simp [app, wr, ih]; omega
theorem may_app (f g : Fo) : (f.app g).may = (f.may && g.may) := by
  induction f with
  | nil => simp [app, may]
  | leaf op r ih => simp [app, may, ih]
  | rep op b fin r _ ih => simp [app, may, ih, Bool.and_assoc]
end Fo

/-! ### How the program measures: the open blocks, sizes, rounds -/
structure Ms where
  st : List (Int × Int)
  sz : List Int
  rd : List Int
def addTop (st : List (Int × Int)) (n : Int) : List (Int × Int) := st.dropLast ++ [((st.getLast?.getD (0, 0)).1, (st.getLast?.getD (0, 0)).2 + n)]
def vAt (l : List OpD) (i : Int) : UInt64 := (l[i.toNat]?.map (·.v)).getD 0
/-- a block's writes; none: it may not be -/
def blkS (n : Int) (v : UInt64) : Option Int := if n ≤ 65536 ∧ n * (v.toNat : Int) ≤ 65536 then some (n * (v.toNat : Int)) else none
def msStep (l : List OpD) (i : Nat) (x : OpD) (s : Ms) : Option Ms :=
  if x.kind = 7 then some { s with st := s.st ++ [((i : Int), 0)] }
  else if x.kind = 0 then
    (blkS (s.st.getLast?.getD (0, 0)).2 (vAt l (s.st.getLast?.getD (0, 0)).1)).map fun n =>
      { st := addTop s.st.dropLast n, sz := s.sz.set (s.st.getLast?.getD (0, 0)).1.toNat n, rd := s.rd.set (s.st.getLast?.getD (0, 0)).1.toNat (s.st.getLast?.getD (0, 0)).2 }
  else some { s with st := addTop s.st 1, sz := s.sz.set i 1 }
def msF (l : List OpD) : Nat → Ms → List OpD → Option Ms
  | _, s, [] => some s
  | i, s, x :: r => (msStep l i x s).bind fun s' => msF l (i + 1) s' r
theorem msF_append (l : List OpD) (i : Nat) (s : Ms) (a b : List OpD) : msF l i s (a ++ b) = (msF l i s a).bind fun s' => msF l (i + a.length) s' b := by
  induction a generalizing i s with
  | nil => simp [msF]
  | cons x r ih =>
    simp only [List.cons_append, msF, List.length_cons]
    cases msStep l i x s with
    | none => rfl
    | some s' =>
      simp only [Option.bind_some]
      rw [ih]
      congr 2
      funext s''
      rw [show i + 1 + r.length = i + (r.length + 1) by omega]
theorem addTop_append (st : List (Int × Int)) (a n m : Int) : addTop (st ++ [(a, n)]) m = st ++ [(a, n + m)] := by simp [addTop]
theorem addTop_addTop (st : List (Int × Int)) (n m : Int) : addTop (addTop st n) m = addTop st (n + m) := by simp [addTop, Int.add_assoc]
theorem addTop_zero (st : List (Int × Int)) (h : st ≠ []) : addTop st 0 = st := by
  obtain ⟨r, x, rfl⟩ : ∃ r x, st = r ++ [x] := ⟨st.dropLast, st.getLast h, (List.dropLast_concat_getLast h).symm⟩
  simp [addTop]
theorem addTop_ne (st : List (Int × Int)) (n : Int) : addTop st n ≠ [] := by simp [addTop]
theorem vAt_mid (pre : List OpD) (x : OpD) (post : List OpD) (i : Nat) (h : i = pre.length) : vAt (pre ++ x :: post) (i : Int) = x.v := by subst h; simp [vAt]

theorem set_mid' (pre post : List Int) (n : Nat) (hn : n = pre.length) (x v : Int) : (pre ++ x :: post).set n v = pre ++ v :: post := by subst hn; simp

/-- A forest is measured. -/
theorem msF_flat (f : Fo) (hf : f.ok) : ∀ (l preL postL : List OpD) (i : Nat) (st : List (Int × Int)) (sp sq rp rq : List Int), l = preL ++ f.flat ++ postL → preL.length = i → sp.length = i → rp.length = i → st ≠ [] →
    msF l i ⟨st, sp ++ List.replicate f.size 0 ++ sq, rp ++ List.replicate f.size 0 ++ rq⟩ f.flat = if f.may = true then some ⟨addTop st f.wr, sp ++ f.sizes ++ sq, rp ++ f.rounds ++ rq⟩ else none := by
  induction f with
  | nil =>
    intro l preL postL i st sp sq rp rq _ _ _ _ hst
    simp [Fo.flat, msF, Fo.may, Fo.wr, Fo.sizes, Fo.rounds, Fo.size, addTop_zero st hst]
  | leaf op r ih =>
    intro l preL postL i st sp sq rp rq hl hp hs hr hst
    obtain ⟨h1, h2, h3⟩ := hf
    rw [Fo.size_leaf, List.replicate_succ]
    show (msStep l i op _).bind (fun s' => msF l (i + 1) s' r.flat) = _
    unfold msStep
    rw [if_neg (by omega), if_neg (by omega)]
    simp only [Option.bind_some]
    rw [List.append_assoc, List.cons_append, set_mid' sp _ i hs.symm]
    have e1 : sp ++ 1 :: (List.replicate r.size 0 ++ sq) = (sp ++ [1]) ++ List.replicate r.size 0 ++ sq := by simp
    have e2 : rp ++ 0 :: List.replicate r.size 0 ++ rq = (rp ++ [0]) ++ List.replicate r.size 0 ++ rq := by simp
    rw [e1, e2, ih h3 l (preL ++ [op]) postL (i + 1) _ _ _ _ _ (by rw [hl]; simp [Fo.flat]) (by simp [hp]) (by simp [hs]) (by simp [hr]) (addTop_ne _ _), addTop_addTop]
    simp only [Fo.may, Fo.wr, Fo.sizes, Fo.rounds]
    by_cases hm : r.may = true
    · rw [if_pos hm, show ((1 : Int) + (r.wr : Int)) = ((r.wr + 1 : Nat) : Int) by omega]
      refine Eq.trans ?_ (if_pos hm).symm
      simp
    · rw [if_neg hm]
      exact (if_neg hm).symm
  | rep op b fin r ihb ihr =>
    intro l preL postL i st sp sq rp rq hl hp hs hr hst
    obtain ⟨h1, h2, h3, h4⟩ := hf
    have hsz : List.replicate (Fo.rep op b fin r).size (0 : Int) = 0 :: (List.replicate b.size 0 ++ 0 :: List.replicate r.size 0) := by
      rw [Fo.size_rep, show b.size + r.size + 2 = (b.size + (r.size + 1)) + 1 by omega, List.replicate_succ, ← List.replicate_append_replicate, List.replicate_succ]
    rw [hsz]
    show (msStep l i op _).bind (fun s' => msF l (i + 1) s' (b.flat ++ fin :: r.flat)) = _
    rw [show msStep l i op ⟨st, sp ++ 0 :: (List.replicate b.size 0 ++ 0 :: List.replicate r.size 0) ++ sq, rp ++ 0 :: (List.replicate b.size 0 ++ 0 :: List.replicate r.size 0) ++ rq⟩ = some ⟨st ++ [((i : Int), 0)], sp ++ 0 :: (List.replicate b.size 0 ++ 0 :: List.replicate r.size 0) ++ sq, rp ++ 0 :: (List.replicate b.size 0 ++ 0 :: List.replicate r.size 0) ++ rq⟩ by unfold msStep; rw [if_pos h1]]
    simp only [Option.bind_some]
    rw [msF_append]
    have e1 : sp ++ 0 :: (List.replicate b.size 0 ++ 0 :: List.replicate r.size 0) ++ sq = (sp ++ [0]) ++ List.replicate b.size 0 ++ (0 :: (List.replicate r.size 0 ++ sq)) := by simp
    have e2 : rp ++ 0 :: (List.replicate b.size 0 ++ 0 :: List.replicate r.size 0) ++ rq = (rp ++ [0]) ++ List.replicate b.size 0 ++ (0 :: (List.replicate r.size 0 ++ rq)) := by simp
    rw [e1, e2, ihb h2 l (preL ++ [op]) (fin :: r.flat ++ postL) (i + 1) _ _ _ _ _ (by rw [hl]; simp [Fo.flat]) (by simp [hp]) (by simp [hs]) (by simp [hr]) (by simp)]
    by_cases hm : b.may = true
    · rw [if_pos hm]
      simp only [Option.bind_some, msF]
      unfold msStep
      rw [if_neg (by omega), if_pos h3, addTop_append]
      simp only [List.getLast?_append, List.getLast?_singleton, Option.some_or, Option.getD_some, List.dropLast_concat, Int.toNat_natCast]
      have hv : vAt l (i : Int) = op.v := by rw [hl, List.append_assoc]; exact vAt_mid preL op _ i hp.symm
      rw [hv]
      unfold blkS
      rw [Int.zero_add]
      by_cases hc : b.wr ≤ 65536 ∧ b.wr * op.v.toNat ≤ 65536
      · have hc2 : ((b.wr : Int) ≤ 65536 ∧ (b.wr : Int) * (op.v.toNat : Int) ≤ 65536) := ⟨by omega, by have := hc.2; rw [← Int.natCast_mul]; omega⟩
        rw [if_pos hc2]
        simp only [Option.map_some, Option.bind_some]
        have g1 : sp ++ [0] ++ b.sizes ++ 0 :: (List.replicate r.size 0 ++ sq) = sp ++ 0 :: (b.sizes ++ 0 :: (List.replicate r.size 0 ++ sq)) := by simp
        have g2 : rp ++ [0] ++ b.rounds ++ 0 :: (List.replicate r.size 0 ++ rq) = rp ++ 0 :: (b.rounds ++ 0 :: (List.replicate r.size 0 ++ rq)) := by simp
        rw [g1, g2, set_mid' sp _ i hs.symm, set_mid' rp _ i hr.symm]
        have k1 : sp ++ (b.wr : Int) * (op.v.toNat : Int) :: (b.sizes ++ 0 :: (List.replicate r.size 0 ++ sq)) = (sp ++ (b.wr : Int) * (op.v.toNat : Int) :: (b.sizes ++ [0])) ++ List.replicate r.size 0 ++ sq := by simp
        have k2 : rp ++ (b.wr : Int) :: (b.rounds ++ 0 :: (List.replicate r.size 0 ++ rq)) = (rp ++ (b.wr : Int) :: (b.rounds ++ [0])) ++ List.replicate r.size 0 ++ rq := by simp
        have hbl : b.flat.length = b.size := rfl
        rw [k1, k2, ihr h4 l (preL ++ op :: (b.flat ++ [fin])) postL _ _ _ _ _ _ (by rw [hl]; simp [Fo.flat]) (by simp [hp]; omega) (by simp [hs, Fo.sizes_length]; omega) (by simp [hr, Fo.rounds_length]; omega) (addTop_ne _ _), addTop_addTop]
        simp only [Fo.may, Fo.wr, Fo.sizes, Fo.rounds, hm, hc.1, hc.2, decide_true, Bool.true_and]
        by_cases hm2 : r.may = true
        · rw [if_pos hm2, show ((b.wr : Int) * (op.v.toNat : Int) + (r.wr : Int)) = ((b.wr * op.v.toNat + r.wr : Nat) : Int) by simp]
          refine Eq.trans ?_ (if_pos hm2).symm
          simp
        · rw [if_neg hm2]
          exact (if_neg hm2).symm
      · have hc2 : ¬((b.wr : Int) ≤ 65536 ∧ (b.wr : Int) * (op.v.toNat : Int) ≤ 65536) := fun h => hc ⟨by omega, by have := h.2; rw [← Int.natCast_mul] at this; omega⟩
        rw [if_neg hc2]
        simp only [Option.map_none, Option.bind_none]
        rw [if_neg]
        simp only [Fo.may, Bool.and_eq_true, decide_eq_true_eq]
        exact fun h => hc ⟨h.1.1.2, h.1.2⟩
    · rw [if_neg hm]
      simp only [Option.bind_none]
      rw [if_neg]
      simp only [Fo.may, Bool.and_eq_true, decide_eq_true_eq]
      exact fun h => hm h.1.1.1

/-- What measuring a whole list tells: sizes, rounds, all writes; none: too many. -/
def measL (l : List OpD) : Option Ms := (msF l 0 ⟨[(0, 0)], List.replicate l.length 0, List.replicate l.length 0⟩ l).bind fun s => if (s.st.getLast?.getD (0, 0)).2 ≤ 65536 then some s else none
def Fo.big (f : Fo) : Bool := !(f.may && decide (f.wr ≤ 65536))
theorem measL_flat (f : Fo) (hf : f.ok) : measL f.flat = if f.may = true ∧ f.wr ≤ 65536 then some ⟨[(0, (f.wr : Int))], f.sizes, f.rounds⟩ else none := by
  have h := msF_flat f hf f.flat [] [] 0 [(0, 0)] [] [] [] [] (by simp) rfl rfl rfl (by simp)
  unfold measL
  simp only [List.nil_append, List.append_nil] at h
  rw [show f.flat.length = f.size from rfl, h]
  by_cases hm : f.may = true
  · rw [if_pos hm]
    by_cases hw : f.wr ≤ 65536
    · rw [if_pos ⟨hm, hw⟩]
      simp only [Option.bind_some]
      rw [if_pos (by simp [addTop]; omega)]
      simp [addTop]
    · rw [if_neg (fun h => hw h.2)]
      simp only [Option.bind_some]
      rw [if_neg (by simp [addTop]; omega)]
  · rw [if_neg hm, if_neg (fun h => hm h.1)]
    rfl

/-- Within bounds. -/
def MsBd (k N : Nat) (s : Ms) : Prop := (∀ x ∈ s.st, 0 ≤ x.1 ∧ x.1 ≤ (k : Int) ∧ 0 ≤ x.2 ∧ x.2 ≤ 65536 * (k : Int)) ∧ s.sz.length = N ∧ s.rd.length = N
theorem mem_last {α : Type} {st : List α} {d : α} (h : st ≠ []) : st.getLast?.getD d ∈ st := by
  obtain ⟨r, x, rfl⟩ : ∃ r x, st = r ++ [x] := ⟨st.dropLast, st.getLast h, (List.dropLast_concat_getLast h).symm⟩
  simp
theorem MsBd.addTop_ {k N : Nat} {st : List (Int × Int)} (h : ∀ x ∈ st, 0 ≤ x.1 ∧ x.1 ≤ (k : Int) ∧ 0 ≤ x.2 ∧ x.2 ≤ 65536 * (k : Int)) (n : Int) (h0 : 0 ≤ n) (h1 : n ≤ 65536) :
    ∀ x ∈ addTop st n, 0 ≤ x.1 ∧ x.1 ≤ ((k + 1 : Nat) : Int) ∧ 0 ≤ x.2 ∧ x.2 ≤ 65536 * ((k + 1 : Nat) : Int) := by
  intro x hx
  unfold addTop at hx
  rcases List.mem_append.1 hx with hx | hx
  · have := h x (List.dropLast_subset _ hx); omega
  · simp only [List.mem_singleton] at hx
    subst hx
    by_cases h0 : st = []
    · subst h0; simp; omega
    · have := h _ (mem_last (d := (0, 0)) h0); simp only; omega
theorem MsBd.step {k N : Nat} {l : List OpD} {s s' : Ms} {x : OpD} (h : MsBd k N s) (he : msStep l k x s = some s') : MsBd (k + 1) N s' := by
  unfold msStep at he
  by_cases h7 : x.kind = 7
  · rw [if_pos h7] at he
    injection he with he
    subst he
    refine ⟨fun y hy => ?_, h.2⟩
    rcases List.mem_append.1 hy with hy | hy
    · have := h.1 y hy; omega
    · simp at hy; subst hy; simp; omega
  · rw [if_neg h7] at he
    by_cases h0 : x.kind = 0
    · rw [if_pos h0] at he
      unfold blkS at he
      split at he
      · rename_i hc
        simp only [Option.map_some, Option.some.injEq] at he
        subst he
        refine ⟨MsBd.addTop_ (N := N) (fun y hy => h.1 y (List.dropLast_subset _ hy)) _ ?_ hc.2, by simp [h.2.1], by simp [h.2.2]⟩
        by_cases hs : s.st = []
        · simp [hs]
        · have := h.1 _ (mem_last (d := (0, 0)) hs)
          exact Int.mul_nonneg this.2.2.1 (by omega)
      · cases he
    · rw [if_neg h0] at he
      injection he with he
      subst he
      exact ⟨MsBd.addTop_ (N := N) h.1 1 (by omega) (by omega), by simp [h.2.1], by simp [h.2.2]⟩
end Go.Proofs.Ytoklehndfncmnaa
