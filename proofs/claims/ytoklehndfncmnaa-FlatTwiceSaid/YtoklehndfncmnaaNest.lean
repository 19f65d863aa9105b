/- Plain facts on operations that are nested in blocks: well nestedness, forests, what belongs together, depth, parts. No program is named here. -/
import Derived.Test.YtoklehndfncmnaaPre
namespace Go.Proofs.Ytoklehndfncmnaa
set_option linter.unusedVariables false
set_option linter.unusedSimpArgs false
open Go.RowKit

/-- Are operations well nested, behind `n` open blocks? -/
def wellF : Nat → List OpD → Bool
  | n, [] => n == 0
  | n, x :: r => if x.kind < 0 ∨ 7 < x.kind then false else if x.kind = 7 then wellF (n + 1) r else if x.kind = 0 then (if n = 0 then false else wellF (n - 1) r) else wellF n r
def well (l : List OpD) : Bool := wellF 0 l

/-- A forest of operations. -/
inductive Fo where
  | nil
  | leaf (op : OpD) (rest : Fo)
  | rep (op : OpD) (body : Fo) (fin : OpD) (rest : Fo)

namespace Fo
def flat : Fo → List OpD
  | nil => []
  | leaf op r => op :: flat r
  | rep op b fin r => op :: (flat b ++ fin :: flat r)
def ok : Fo → Prop
  | nil => True
  | leaf op r => 1 ≤ op.kind ∧ op.kind ≤ 6 ∧ ok r
  | rep op b fin r => op.kind = 7 ∧ ok b ∧ fin.kind = 0 ∧ ok r
def app : Fo → Fo → Fo
  | nil, g => g
  | leaf op r, g => leaf op (app r g)
  | rep op b fin r, g => rep op b fin (app r g)
theorem flat_app (f g : Fo) : (f.app g).flat = f.flat ++ g.flat := by
  induction f with
  | nil => rfl
  | leaf op r ih => simp [app, flat, ih]
  | rep op b fin r _ ih => simp [app, flat, ih]
theorem ok_app {f g : Fo} (hf : f.ok) (hg : g.ok) : (f.app g).ok := by
  induction f with
  | nil => exact hg
  | leaf op r ih => exact ⟨hf.1, hf.2.1, ih hf.2.2⟩
  | rep op b fin r _ ih => exact ⟨hf.1, hf.2.1, hf.2.2.1, ih hf.2.2.2⟩
def size (f : Fo) : Nat := f.flat.length
end Fo

theorem wellF_flat (f : Fo) (hf : f.ok) (n : Nat) (r : List OpD) : wellF n (f.flat ++ r) = wellF n r := by
  induction f generalizing n r with
  | nil => rfl
  | leaf op s ih =>
    obtain ⟨h1, h2, h3⟩ := hf
    show wellF n (op :: (s.flat ++ r)) = _
    rw [wellF, if_neg (by omega), if_neg (by omega), if_neg (by omega), ih h3]
  | rep op b fin s ihb ihs =>
    obtain ⟨h1, h2, h3, h4⟩ := hf
    show wellF n (op :: ((b.flat ++ fin :: s.flat) ++ r)) = _
    rw [wellF, if_neg (by omega), if_pos h1, List.append_assoc, ihb h2]
    show wellF (n + 1) (fin :: (s.flat ++ r)) = _
    rw [wellF, if_neg (by omega), if_neg (by omega), if_pos h3, if_neg (by omega)]
    exact ihs h4 n r

theorem well_of_flat (f : Fo) (hf : f.ok) : well f.flat = true := by
  have := wellF_flat f hf 0 []
  simpa [well, wellF] using this

/-- What is well nested is a forest; behind open blocks: a forest up to the end of the inmost one. -/
theorem wellF_split : ∀ (m : Nat) (l : List OpD) (n : Nat), l.length ≤ m → wellF n l = true →
    (n = 0 → ∃ f : Fo, f.ok ∧ l = f.flat) ∧ (∀ k, n = k + 1 → ∃ (f : Fo) (e : OpD) (r : List OpD), f.ok ∧ e.kind = 0 ∧ l = f.flat ++ e :: r ∧ wellF k r = true) := by
  intro m
  induction m with
  | zero =>
    intro l n hl h
    have : l = [] := List.eq_nil_of_length_eq_zero (by omega)
    subst this
    simp [wellF] at h
    exact ⟨fun _ => ⟨.nil, trivial, rfl⟩, fun k hk => by omega⟩
  | succ m ih =>
    intro l n hl h
    cases l with
    | nil =>
      simp [wellF] at h
      exact ⟨fun _ => ⟨.nil, trivial, rfl⟩, fun k hk => by omega⟩
    | cons x r =>
      simp only [List.length_cons] at hl
      rw [wellF] at h
      by_cases h1 : x.kind < 0 ∨ 7 < x.kind
      · rw [if_pos h1] at h; cases h
      · rw [if_neg h1] at h
        by_cases h7 : x.kind = 7
        · rw [if_pos h7] at h
          obtain ⟨b, e, s, hb, he, rfl, hs⟩ := (ih r (n + 1) (by omega) h).2 n rfl
          have hsl : s.length ≤ m := by simp at hl; omega
          obtain ⟨i1, i2⟩ := ih s n hsl hs
          refine ⟨fun hn => ?_, fun k hk => ?_⟩
          · obtain ⟨g, hg, rfl⟩ := i1 hn
            exact ⟨.rep x b e g, ⟨h7, hb, he, hg⟩, rfl⟩
          · obtain ⟨g, e', t, hg, he', rfl, ht⟩ := i2 k hk
            exact ⟨.rep x b e g, e', t, ⟨h7, hb, he, hg⟩, he', by simp [Fo.flat], ht⟩
        · rw [if_neg h7] at h
          by_cases h0 : x.kind = 0
          · rw [if_pos h0] at h
            by_cases hn : n = 0
            · rw [if_pos hn] at h; cases h
            · rw [if_neg hn] at h
              refine ⟨fun hn' => absurd hn' hn, fun k hk => ⟨.nil, x, r, trivial, h0, rfl, ?_⟩⟩
              have : n - 1 = k := by omega
              rw [← this]
              exact h
          · rw [if_neg h0] at h
            obtain ⟨i1, i2⟩ := ih r n (by omega) h
            refine ⟨fun hn => ?_, fun k hk => ?_⟩
            · obtain ⟨g, hg, rfl⟩ := i1 hn
              exact ⟨.leaf x g, ⟨by omega, by omega, hg⟩, rfl⟩
            · obtain ⟨g, e', t, hg, he', rfl, ht⟩ := i2 k hk
              exact ⟨.leaf x g, e', t, ⟨by omega, by omega, hg⟩, he', rfl, ht⟩

theorem forest_of_well (l : List OpD) (h : well l = true) : ∃ f : Fo, f.ok ∧ l = f.flat := (wellF_split l.length l 0 (Nat.le_refl _) h).1 rfl

/-! ### What belongs together -/

/-- by the forest -/
def mtT : Nat → Fo → List Int
  | _, .nil => []
  | o, .leaf _ r => -1 :: mtT (o + 1) r
  | o, .rep _ b _ r => ((o + b.size + 1 : Nat) : Int) :: (mtT (o + 1) b ++ (o : Int) :: mtT (o + b.size + 2) r)

theorem mtT_length (f : Fo) (o : Nat) : (mtT o f).length = f.size := by
  induction f generalizing o with
  | nil => rfl
  | leaf op r ih => simp [mtT, Fo.size, Fo.flat] at *; exact ih _
  | rep op b fin r ihb ihr =>
    have h1 := ihb (o + 1)
    have h2 := ihr (o + b.size + 2)
    simp [mtT, Fo.size, Fo.flat] at *
    omega

/-- The program's own way: the places of the open blocks, and what is known so far. -/
def stk (st : List Int) (i : Nat) (x : OpD) : List Int := if x.kind = 7 then st ++ [(i : Int)] else if x.kind = 0 then st.dropLast else st
def arnd (st : List Int) (x : OpD) : List Int := if x.kind = 0 then st.dropLast else st
def mstep (st : List Int) (out : List Int) (i : Nat) (x : OpD) : List Int :=
  if x.kind = 0 then ((out.set i (-1)).set i (st.getLast?.getD 0)).set (st.getLast?.getD 0).toNat i else out.set i (-1)

/-- stack, and what is known, behind the first operations -/
def stF : Nat → List Int → List OpD → List Int
  | _, st, [] => st
  | i, st, x :: r => stF (i + 1) (stk st i x) r
def mF : Nat → List Int → List Int → List OpD → List Int
  | _, _, out, [] => out
  | i, st, out, x :: r => mF (i + 1) (stk st i x) (mstep st out i x) r
theorem stF_append (i : Nat) (st : List Int) (a b : List OpD) : stF i st (a ++ b) = stF (i + a.length) (stF i st a) b := by
  induction a generalizing i st with
  | nil => rfl
  | cons x r ih => simp only [List.cons_append, stF, List.length_cons]; rw [ih]; congr 1; omega
theorem mF_append (i : Nat) (st out : List Int) (a b : List OpD) : mF i st out (a ++ b) = mF (i + a.length) (stF i st a) (mF i st out a) b := by
  induction a generalizing i st out with
  | nil => rfl
  | cons x r ih => simp only [List.cons_append, mF, stF, List.length_cons]; rw [ih]; congr 1; omega
theorem mF_length (i : Nat) (st out : List Int) (l : List OpD) : (mF i st out l).length = out.length := by
  induction l generalizing i st out with
  | nil => rfl
  | cons x r ih => rw [mF, ih]; unfold mstep; split <;> simp

/-- A forest leaves the stack as it was. -/
theorem stF_flat (f : Fo) (hf : f.ok) (i : Nat) (st : List Int) : stF i st f.flat = st := by
  induction f generalizing i st with
  | nil => rfl
  | leaf op r ih =>
    obtain ⟨h1, h2, h3⟩ := hf
    show stF (i + 1) (stk st i op) r.flat = st
    rw [show stk st i op = st by unfold stk; rw [if_neg (by omega), if_neg (by omega)], ih h3]
  | rep op b fin r ihb ihr =>
    obtain ⟨h1, h2, h3, h4⟩ := hf
    show stF (i + 1) (stk st i op) (b.flat ++ fin :: r.flat) = st
    rw [show stk st i op = st ++ [(i : Int)] by unfold stk; rw [if_pos h1], stF_append, ihb h2, stF]
    rw [show stk (st ++ [(i : Int)]) (i + 1 + b.flat.length) fin = st by unfold stk; rw [if_neg (by omega), if_pos h3]; simp, ihr h4]

theorem set_mid (pre seg post : List Int) (v : Int) (n : Nat) (hn : n = pre.length) (x : Int) : (pre ++ x :: post).set n v = pre ++ v :: post := by
  subst hn
  simp

/-- What a forest's own part of the answer becomes. -/
theorem mF_flat (f : Fo) (hf : f.ok) : ∀ (i : Nat) (st : List Int) (pre seg post : List Int), pre.length = i → seg.length = f.size → mF i st (pre ++ seg ++ post) f.flat = pre ++ mtT i f ++ post := by
  induction f with
  | nil =>
    intro i st pre seg post _ hs
    have : seg = [] := List.eq_nil_of_length_eq_zero (by simpa [Fo.size, Fo.flat] using hs)
    subst this
    rfl
  | leaf op r ih =>
    intro i st pre seg post hp hs
    obtain ⟨h1, h2, h3⟩ := hf
    cases seg with
    | nil => simp [Fo.size, Fo.flat] at hs
    | cons x s =>
      show mF (i + 1) (stk st i op) (mstep st (pre ++ x :: s ++ post) i op) r.flat = _
      have e1 : mstep st (pre ++ x :: s ++ post) i op = (pre ++ [-1]) ++ s ++ post := by
        unfold mstep
        rw [if_neg (by omega), List.append_assoc, List.cons_append, set_mid pre [] (s ++ post) (-1) i hp.symm]
        simp
      rw [e1, ih h3 (i + 1) _ (pre ++ [-1]) s post (by simp; omega) (by simp [Fo.size, Fo.flat] at hs ⊢; omega)]
      simp [mtT]
  | rep op b fin r ihb ihr =>
    intro i st pre seg post hp hs
    obtain ⟨h1, h2, h3, h4⟩ := hf
    have hs' : seg.length = b.size + r.size + 2 := by simp [Fo.size, Fo.flat] at hs ⊢; omega
    cases seg with
    | nil => simp at hs'
    | cons x s =>
      obtain ⟨s1, y, s2, rfl, hs1, hs2⟩ : ∃ s1 y s2, s = s1 ++ y :: s2 ∧ s1.length = b.size ∧ s2.length = r.size := by
        simp only [List.length_cons] at hs'
        have hlt : b.size < s.length := by omega
        refine ⟨s.take b.size, s[b.size], s.drop (b.size + 1), ?_, by simp; omega, by simp; omega⟩
        rw [← List.drop_eq_getElem_cons hlt, List.take_append_drop]
      show mF (i + 1) (stk st i op) (mstep st (pre ++ x :: (s1 ++ y :: s2) ++ post) i op) (b.flat ++ fin :: r.flat) = _
      have e1 : mstep st (pre ++ x :: (s1 ++ y :: s2) ++ post) i op = (pre ++ [-1]) ++ s1 ++ (y :: s2 ++ post) := by
        unfold mstep
        rw [if_neg (by omega), List.append_assoc, List.cons_append, set_mid pre [] _ (-1) i hp.symm]
        simp
      have e2 : stk st i op = st ++ [(i : Int)] := by unfold stk; rw [if_pos h1]
      rw [e1, e2, mF_append, ihb h2 (i + 1) _ (pre ++ [-1]) s1 (y :: s2 ++ post) (by simp; omega) hs1, stF_flat b h2, mF]
      have e3 : stk (st ++ [(i : Int)]) (i + 1 + b.flat.length) fin = st := by unfold stk; rw [if_neg (by omega), if_pos h3]; simp
      have hj : i + 1 + b.flat.length = (pre ++ -1 :: mtT (i + 1) b).length := by simp [mtT_length, Fo.size]; omega
      have e4 : mstep (st ++ [(i : Int)]) (pre ++ [-1] ++ mtT (i + 1) b ++ (y :: s2 ++ post)) (i + 1 + b.flat.length) fin = (pre ++ ((i + b.size + 1 : Nat) : Int) :: mtT (i + 1) b ++ [(i : Int)]) ++ s2 ++ post := by
        unfold mstep
        rw [if_pos h3]
        have a1 : pre ++ [-1] ++ mtT (i + 1) b ++ (y :: s2 ++ post) = (pre ++ -1 :: mtT (i + 1) b) ++ y :: (s2 ++ post) := by simp
        rw [a1, set_mid _ [] _ (-1) _ hj, set_mid _ [] _ _ _ hj]
        simp only [List.getLast?_append, List.getLast?_singleton, Option.getD_some, Option.some_or, Int.toNat_natCast]
        rw [List.append_assoc, List.cons_append, set_mid pre [] _ _ i hp.symm]
        simp [Fo.size]
        omega
      rw [e3, e4, ihr h4 _ _ _ s2 post (by simp [mtT_length, Fo.size]; omega) hs2]
      simp [mtT, Fo.size]
      congr 1
      omega

/-- What belongs together in operations: where they are well nested. -/
def matchL (l : List OpD) : List Int := mF 0 [] (List.replicate l.length 0) l
theorem matchL_flat (f : Fo) (hf : f.ok) : matchL f.flat = mtT 0 f := by
  have := mF_flat f hf 0 [] [] (List.replicate f.size 0) [] rfl (by simp)
  simpa [matchL, Fo.size] using this
end Go.Proofs.Ytoklehndfncmnaa
