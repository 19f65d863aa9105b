/- Plain facts on operations that are nested in blocks, as the document's answers find them. No program is named here. -/
import Derived.Test.YtoklehndfncmnaaNest
namespace Go.Proofs.Ytoklehndfncmnaa
set_option linter.unusedVariables false
set_option linter.unusedSimpArgs false
open Go.RowKit

theorem Fo.size_rep (op : OpD) (b : Fo) (fin : OpD) (r : Fo) : (Fo.rep op b fin r).size = b.size + r.size + 2 := by simp [Fo.size, Fo.flat]; omega
theorem Fo.size_leaf (op : OpD) (r : Fo) : (Fo.leaf op r).size = r.size + 1 := by simp [Fo.size, Fo.flat]

/-- Where a block begins: its inside, its end. -/
theorem at_rep (f : Fo) (hf : f.ok) : ∀ (o j : Nat) (x : OpD), f.flat[j]? = some x → x.kind = 7 →
    ∃ (b : Fo) (fin : OpD) (pre rest : List OpD), b.ok ∧ fin.kind = 0 ∧ f.flat = pre ++ x :: (b.flat ++ fin :: rest) ∧ pre.length = j ∧ (mtT o f)[j]? = some ((o + j + b.size + 1 : Nat) : Int) := by
  induction f with
  | nil => intro o j x h; simp [Fo.flat] at h
  | leaf op r ih =>
    intro o j x h h7
    obtain ⟨h1, h2, h3⟩ := hf
    cases j with
    | zero => simp [Fo.flat] at h; subst h; omega
    | succ j =>
      obtain ⟨b, fin, pre, rest, g1, g2, g3, g4, g5⟩ := ih h3 (o + 1) j x (by simpa [Fo.flat] using h) h7
      exact ⟨b, fin, op :: pre, rest, g1, g2, by simp [Fo.flat, g3], by simp [g4], by simp [mtT, g5]; omega⟩
  | rep op b fin r ihb ihr =>
    intro o j x h h7
    obtain ⟨h1, h2, h3, h4⟩ := hf
    cases j with
    | zero =>
      simp [Fo.flat] at h
      subst h
      exact ⟨b, fin, [], r.flat, h2, h3, by simp [Fo.flat], rfl, by simp [mtT]⟩
    | succ j =>
      have h' : (b.flat ++ fin :: r.flat)[j]? = some x := by simpa [Fo.flat] using h
      have hml : (mtT (o + 1) b).length = b.flat.length := by rw [mtT_length]; rfl
      by_cases hj : j < b.flat.length
      · rw [List.getElem?_append_left hj] at h'
        obtain ⟨b', fin', pre, rest, g1, g2, g3, g4, g5⟩ := ihb h2 (o + 1) j x h' h7
        refine ⟨b', fin', op :: pre, rest ++ fin :: r.flat, g1, g2, by simp [Fo.flat, g3], by simp [g4], ?_⟩
        simp only [mtT, List.getElem?_cons_succ]
        rw [List.getElem?_append_left (by omega), g5]
        congr 2
        omega
      · rw [List.getElem?_append_right (by omega)] at h'
        obtain ⟨j', hj'⟩ : ∃ j', j - b.flat.length = j' := ⟨_, rfl⟩
        rw [hj'] at h'
        cases j' with
        | zero => simp at h'; subst h'; omega
        | succ j' =>
          obtain ⟨b', fin', pre, rest, g1, g2, g3, g4, g5⟩ := ihr h4 (o + b.size + 2) j' x (by simpa using h') h7
          refine ⟨b', fin', op :: (b.flat ++ fin :: pre), rest, g1, g2, by simp [Fo.flat, g3], by simp [g4]; omega, ?_⟩
          simp only [mtT, List.getElem?_cons_succ]
          rw [List.getElem?_append_right (by omega), hml, hj', List.getElem?_cons_succ, g5]
          congr 2
          simp only [Fo.size] at *
          omega

/-- how many blocks are open, from `n` on -/
def hI : Int → List OpD → Int
  | n, [] => n
  | n, x :: r => hI (if x.kind = 7 then n + 1 else if x.kind = 0 then n - 1 else n) r
theorem hI_append (n : Int) (a b : List OpD) : hI n (a ++ b) = hI (hI n a) b := by
  induction a generalizing n with
  | nil => rfl
  | cons x r ih => exact ih _
theorem hI_flat (f : Fo) (hf : f.ok) (n : Int) : hI n f.flat = n := by
  induction f generalizing n with
  | nil => rfl
  | leaf op r ih =>
    obtain ⟨h1, h2, h3⟩ := hf
    show hI (if op.kind = 7 then n + 1 else if op.kind = 0 then n - 1 else n) r.flat = n
    rw [if_neg (by omega), if_neg (by omega), ih h3]
  | rep op b fin r ihb ihr =>
    obtain ⟨h1, h2, h3, h4⟩ := hf
    show hI (if op.kind = 7 then n + 1 else if op.kind = 0 then n - 1 else n) (b.flat ++ fin :: r.flat) = n
    rw [if_pos h1, hI_append, ihb h2]
    show hI (if fin.kind = 7 then n + 1 + 1 else if fin.kind = 0 then n + 1 - 1 else n + 1) r.flat = n
    rw [if_neg (by omega), if_pos h3, ihr h4]
    omega
/-- Within a forest never fewer are open than ahead of it. -/
theorem hI_ge (f : Fo) (hf : f.ok) : ∀ (n : Int) (j : Nat), n ≤ hI n (f.flat.take j) := by
  induction f with
  | nil => intro n j; simp [Fo.flat, hI]
  | leaf op r ih =>
    intro n j
    obtain ⟨h1, h2, h3⟩ := hf
    cases j with
    | zero => simp [hI]
    | succ j =>
      show n ≤ hI (if op.kind = 7 then n + 1 else if op.kind = 0 then n - 1 else n) (r.flat.take j)
      rw [if_neg (by omega), if_neg (by omega)]
      exact ih h3 n j
  | rep op b fin r ihb ihr =>
    intro n j
    obtain ⟨h1, h2, h3, h4⟩ := hf
    cases j with
    | zero => simp [hI]
    | succ j =>
      show n ≤ hI (if op.kind = 7 then n + 1 else if op.kind = 0 then n - 1 else n) ((b.flat ++ fin :: r.flat).take j)
      rw [if_pos h1, List.take_append, hI_append]
      by_cases hj : j ≤ b.flat.length
      · rw [show j - b.flat.length = 0 by omega]
        have := ihb h2 (n + 1) j
        simp [hI]
        omega
      · rw [List.take_of_length_le (by omega), hI_flat b h2]
        obtain ⟨j', hj'⟩ : ∃ j', j - b.flat.length = j' + 1 := ⟨j - b.flat.length - 1, by omega⟩
        rw [hj']
        show n ≤ hI (if fin.kind = 7 then n + 1 + 1 else if fin.kind = 0 then n + 1 - 1 else n + 1) (r.flat.take j')
        rw [if_neg (by omega), if_pos h3]
        have := ihr h4 (n + 1 - 1) j'
        omega

/-! ### What belongs together, as the document finds it -/
def rF : Nat → List Int → List OpD → List Int → List Int
  | i, out, x :: r, m :: ms => rF (i + 1) (if x.kind = 7 then (out.set i m).set m.toNat i else out) r ms
  | _, out, _, _ => out
theorem rF_append (i : Nat) (out : List Int) (a b : List OpD) (ma mb : List Int) (h : a.length = ma.length) : rF i out (a ++ b) (ma ++ mb) = rF (i + a.length) (rF i out a ma) b mb := by
  induction a generalizing i out ma with
  | nil => cases ma with
    | nil => simp [rF]
    | cons m ms => simp at h
  | cons x r ih => cases ma with
    | nil => simp at h
    | cons m ms =>
      simp only [List.cons_append, rF, List.length_cons]
      rw [ih _ _ _ (by simpa using h)]
      congr 1
      omega
theorem rF_length (i : Nat) (out : List Int) (a : List OpD) (ms : List Int) : (rF i out a ms).length = out.length := by
  induction a generalizing i out ms with
  | nil => simp [rF]
  | cons x r ih => cases ms with
    | nil => simp [rF]
    | cons m ms => rw [rF, ih]; split <;> simp
theorem rF_flat (f : Fo) (hf : f.ok) : ∀ (i : Nat) (pre post : List Int), pre.length = i → rF i (pre ++ List.replicate f.size (-1) ++ post) f.flat (mtT i f) = pre ++ mtT i f ++ post := by
  induction f with
  | nil => intro i pre post _; simp [Fo.size, Fo.flat, mtT, rF]
  | leaf op r ih =>
    intro i pre post hp
    obtain ⟨h1, h2, h3⟩ := hf
    rw [Fo.size_leaf, List.replicate_succ]
    show rF (i + 1) (if op.kind = 7 then _ else _) r.flat (mtT (i + 1) r) = _
    rw [if_neg (by omega)]
    have := ih h3 (i + 1) (pre ++ [-1]) post (by simp; omega)
    simpa [mtT] using this
  | rep op b fin r ihb ihr =>
    intro i pre post hp
    obtain ⟨h1, h2, h3, h4⟩ := hf
    have e0 : List.replicate (Fo.rep op b fin r).size (-1 : Int) = -1 :: (List.replicate b.size (-1) ++ -1 :: List.replicate r.size (-1)) := by
      rw [Fo.size_rep, show b.size + r.size + 2 = (b.size + (r.size + 1)) + 1 by omega, List.replicate_succ, ← List.replicate_append_replicate, List.replicate_succ]
    rw [e0]
    show rF (i + 1) (if op.kind = 7 then ((pre ++ -1 :: (List.replicate b.size (-1) ++ -1 :: List.replicate r.size (-1)) ++ post).set i ((i + b.size + 1 : Nat) : Int)).set ((i + b.size + 1 : Nat) : Int).toNat i else _) (b.flat ++ fin :: r.flat) (mtT (i + 1) b ++ (i : Int) :: mtT (i + b.size + 2) r) = _
    rw [if_pos h1, Int.toNat_natCast, List.append_assoc, List.cons_append, set_mid pre [] _ _ i hp.symm]
    have a1 : pre ++ ((i + b.size + 1 : Nat) : Int) :: (List.replicate b.size (-1) ++ -1 :: List.replicate r.size (-1) ++ post) = (pre ++ ((i + b.size + 1 : Nat) : Int) :: List.replicate b.size (-1)) ++ -1 :: (List.replicate r.size (-1) ++ post) := by simp
    rw [a1, set_mid _ [] _ _ (i + b.size + 1) (by simp; omega), rF_append _ _ _ _ _ _ (by rw [mtT_length]; rfl)]
    have a2 : (pre ++ ((i + b.size + 1 : Nat) : Int) :: List.replicate b.size (-1)) ++ (i : Int) :: (List.replicate r.size (-1) ++ post) = (pre ++ [((i + b.size + 1 : Nat) : Int)]) ++ List.replicate b.size (-1) ++ ((i : Int) :: (List.replicate r.size (-1) ++ post)) := by simp
    rw [a2, ihb h2 (i + 1) _ _ (by simp; omega)]
    show rF (i + 1 + b.flat.length + 1) (if fin.kind = 7 then _ else _) r.flat (mtT (i + b.size + 2) r) = _
    rw [if_neg (by omega)]
    have a3 : pre ++ [((i + b.size + 1 : Nat) : Int)] ++ mtT (i + 1) b ++ ((i : Int) :: (List.replicate r.size (-1) ++ post)) = (pre ++ ((i + b.size + 1 : Nat) : Int) :: mtT (i + 1) b ++ [(i : Int)]) ++ List.replicate r.size (-1) ++ post := by simp
    have a4 : i + 1 + b.flat.length + 1 = i + b.size + 2 := by simp only [Fo.size]; omega
    rw [a3, a4, ihr h4 (i + b.size + 2) _ post (by simp [mtT_length]; omega)]
    simp [mtT]

/-! ### The blocks around -/
def encl : Nat → Fo → Nat → List Int
  | _, .nil, _ => []
  | o, .leaf _ r, j => if j = 0 then [] else encl (o + 1) r (j - 1)
  | o, .rep _ b _ r, j => if j = 0 then [] else if j ≤ b.size then (o : Int) :: encl (o + 1) b (j - 1) else if j = b.size + 1 then [] else encl (o + b.size + 2) r (j - b.size - 2)

theorem encl_stack (f : Fo) (hf : f.ok) : ∀ (o : Nat) (st : List Int) (j : Nat) (x : OpD), f.flat[j]? = some x → arnd (stF o st (f.flat.take j)) x = st ++ encl o f j := by
  induction f with
  | nil => intro o st j x h; simp [Fo.flat] at h
  | leaf op r ih =>
    intro o st j x h
    obtain ⟨h1, h2, h3⟩ := hf
    cases j with
    | zero =>
      simp [Fo.flat] at h
      subst h
      simp [stF, arnd, encl]
      omega
    | succ j =>
      show arnd (stF (o + 1) (stk st o op) (r.flat.take j)) x = _
      rw [show stk st o op = st by unfold stk; rw [if_neg (by omega), if_neg (by omega)], ih h3 _ _ _ _ (by simpa [Fo.flat] using h)]
      simp [encl]
  | rep op b fin r ihb ihr =>
    intro o st j x h
    obtain ⟨h1, h2, h3, h4⟩ := hf
    cases j with
    | zero =>
      simp [Fo.flat] at h
      subst h
      simp [stF, arnd, encl]
      omega
    | succ j =>
      have h' : (b.flat ++ fin :: r.flat)[j]? = some x := by simpa [Fo.flat] using h
      show arnd (stF (o + 1) (stk st o op) ((b.flat ++ fin :: r.flat).take j)) x = _
      rw [show stk st o op = st ++ [(o : Int)] by unfold stk; rw [if_pos h1]]
      have hbs : b.size = b.flat.length := rfl
      by_cases hj : j < b.flat.length
      · rw [List.getElem?_append_left hj] at h'
        rw [List.take_append_of_le_length (by omega), ihb h2 _ _ _ _ h']
        simp only [encl]
        rw [if_neg (by omega), if_pos (by omega)]
        simp
      · rw [List.getElem?_append_right (by omega)] at h'
        rw [List.take_append, List.take_of_length_le (by omega), stF_append, stF_flat b h2]
        obtain ⟨j', hj'⟩ : ∃ j', j - b.flat.length = j' := ⟨_, rfl⟩
        rw [hj'] at h' ⊢
        cases j' with
        | zero =>
          simp at h'
          subst h'
          simp only [List.take_zero, stF, encl]
          rw [if_neg (by omega), if_neg (by omega), if_pos (by omega)]
          simp [arnd, h3]
        | succ j' =>
          show arnd (stF (o + 1 + b.flat.length + 1) (stk (st ++ [(o : Int)]) (o + 1 + b.flat.length) fin) (r.flat.take j')) x = _
          rw [show stk (st ++ [(o : Int)]) (o + 1 + b.flat.length) fin = st by unfold stk; rw [if_neg (by omega), if_pos h3]; simp, ihr h4 _ _ _ _ (by simpa using h')]
          simp only [encl]
          rw [if_neg (by omega), if_neg (by omega), if_neg (by omega)]
          congr 2
          · omega
          · omega

/-- as the document finds them: by the places of all blocks -/
def raF (i : Int) : Nat → List OpD → List Int → List Int
  | o, x :: r, m :: ms => (if x.kind = 7 ∧ i < m then [(o : Int)] else []) ++ raF i (o + 1) r ms
  | _, _, _ => []
theorem raF_append (i : Int) (o : Nat) (a b : List OpD) (ma mb : List Int) (h : a.length = ma.length) : raF i o (a ++ b) (ma ++ mb) = raF i o a ma ++ raF i (o + a.length) b mb := by
  induction a generalizing o ma with
  | nil => cases ma with
    | nil => simp [raF]
    | cons m ms => simp at h
  | cons x r ih => cases ma with
    | nil => simp at h
    | cons m ms =>
      simp only [List.cons_append, raF, List.length_cons]
      rw [ih _ _ (by simpa using h), List.append_assoc, show o + 1 + r.length = o + (r.length + 1) by omega]
theorem mtT_lt (f : Fo) (o : Nat) : ∀ z ∈ mtT o f, z < ((o + f.size : Nat) : Int) := by
  induction f generalizing o with
  | nil => intro z h; simp [mtT] at h
  | leaf op r ih =>
    intro z h
    rw [Fo.size_leaf]
    simp only [mtT, List.mem_cons] at h
    rcases h with rfl | h
    · omega
    · have := ih _ z h; omega
  | rep op b fin r ihb ihr =>
    intro z h
    rw [Fo.size_rep]
    simp only [mtT, List.mem_cons, List.mem_append] at h
    rcases h with rfl | h | rfl | h
    · omega
    · have := ihb _ z h; omega
    · omega
    · have := ihr _ z h; omega
theorem raF_none (i : Int) (o : Nat) (l : List OpD) (ms : List Int) (h : ∀ z ∈ ms, z ≤ i) : raF i o l ms = [] := by
  induction l generalizing o ms with
  | nil => simp [raF]
  | cons x r ih => cases ms with
    | nil => simp [raF]
    | cons m ms =>
      simp only [raF]
      rw [if_neg (fun hh => by have := h m (by simp); omega), ih _ _ (fun z hz => h z (by simp [hz]))]
      rfl
theorem raF_take (i : Int) (o : Nat) (l : List OpD) (ms : List Int) (j : Nat) : raF i o (l.take j) (ms.take j) = raF i o (l.take j) ms := by
  induction l generalizing o ms j with
  | nil => simp [raF]
  | cons x r ih => cases ms with
    | nil => simp
    | cons m ms => cases j with
      | zero => simp [raF]
      | succ j => simp only [List.take_succ_cons, raF]; rw [ih]
theorem encl_filter (f : Fo) (hf : f.ok) : ∀ (o j : Nat), j < f.size → raF ((o + j : Nat) : Int) o (f.flat.take j) ((mtT o f).take j) = encl o f j := by
  induction f with
  | nil => intro o j h; simp [Fo.size, Fo.flat] at h
  | leaf op r ih =>
    intro o j h
    obtain ⟨h1, h2, h3⟩ := hf
    rw [Fo.size_leaf] at h
    cases j with
    | zero => simp [raF, encl]
    | succ j =>
      show (if op.kind = 7 ∧ _ then _ else _) ++ raF ((o + (j + 1) : Nat) : Int) (o + 1) (r.flat.take j) ((mtT (o + 1) r).take j) = _
      rw [if_neg (fun hh => by omega)]
      have := ih h3 (o + 1) j (by omega)
      rw [show o + 1 + j = o + (j + 1) by omega] at this
      rw [this]
      simp [encl]
  | rep op b fin r ihb ihr =>
    intro o j h
    obtain ⟨h1, h2, h3, h4⟩ := hf
    rw [Fo.size_rep] at h
    have hbs : b.size = b.flat.length := rfl
    have hml : (mtT (o + 1) b).length = b.flat.length := by rw [mtT_length]; rfl
    cases j with
    | zero => simp [raF, encl]
    | succ j =>
      show (if op.kind = 7 ∧ ((o + (j + 1) : Nat) : Int) < ((o + b.size + 1 : Nat) : Int) then [(o : Int)] else []) ++ raF ((o + (j + 1) : Nat) : Int) (o + 1) ((b.flat ++ fin :: r.flat).take j) ((mtT (o + 1) b ++ (o : Int) :: mtT (o + b.size + 2) r).take j) = _
      by_cases hj : j < b.flat.length
      · rw [if_pos ⟨h1, by omega⟩, List.take_append_of_le_length (by omega), List.take_append_of_le_length (by omega)]
        have := ihb h2 (o + 1) j (by omega)
        rw [show o + 1 + j = o + (j + 1) by omega] at this
        rw [this]
        simp only [encl]
        rw [if_neg (by omega), if_pos (by omega)]
        simp
      · rw [if_neg (fun hh => by omega), List.take_append, List.take_append, List.take_of_length_le (by omega : b.flat.length ≤ j), List.take_of_length_le (by omega : (mtT (o + 1) b).length ≤ j), raF_append _ _ _ _ _ _ hml.symm, hml,
          raF_none _ _ b.flat _ (fun z hz => by have := mtT_lt b (o + 1) z hz; omega)]
        obtain ⟨j', hj'⟩ : ∃ j', j - b.flat.length = j' := ⟨_, rfl⟩
        rw [hj']
        cases j' with
        | zero =>
          simp only [encl]
          rw [if_neg (by omega), if_neg (by omega), if_pos (by omega)]
          simp [raF]
        | succ j' =>
          show [] ++ ([] ++ ((if fin.kind = 7 ∧ _ then _ else _) ++ raF ((o + (j + 1) : Nat) : Int) (o + 1 + b.flat.length + 1) (r.flat.take j') ((mtT (o + b.size + 2) r).take j'))) = _
          rw [if_neg (fun hh => by omega)]
          have := ihr h4 (o + b.size + 2) j' (by omega)
          rw [show o + b.size + 2 + j' = o + (j + 1) by omega, show o + b.size + 2 = o + 1 + b.flat.length + 1 by omega] at this
          rw [show o + b.size + 2 = o + 1 + b.flat.length + 1 by omega]
          simp only [encl]
          rw [if_neg (by omega), if_neg (by omega), if_neg (by omega), show o + b.size + 2 = o + 1 + b.flat.length + 1 by omega, show j + 1 - b.size - 2 = j' by omega]
          simpa using this

/-! ### What stands in no block -/
def partsT : Nat → Fo → List (Int × Int)
  | _, .nil => []
  | o, .leaf _ r => ((o : Int), ((o + 1 : Nat) : Int)) :: partsT (o + 1) r
  | o, .rep _ b _ r => ((o : Int), ((o + b.size + 2 : Nat) : Int)) :: partsT (o + b.size + 2) r
/-- as the document finds it: `n` blocks are open -/
def rpF : Int → Nat → List OpD → List Int → List (Int × Int)
  | n, o, x :: r, m :: ms => (if 0 < n ∨ x.kind = 0 then [] else [((o : Int), if x.kind = 7 then m + 1 else (o : Int) + 1)]) ++ rpF (if x.kind = 7 then n + 1 else if x.kind = 0 then n - 1 else n) (o + 1) r ms
  | _, _, _, _ => []
theorem rpF_append (n : Int) (o : Nat) (a b : List OpD) (ma mb : List Int) (h : a.length = ma.length) : rpF n o (a ++ b) (ma ++ mb) = rpF n o a ma ++ rpF (hI n a) (o + a.length) b mb := by
  induction a generalizing n o ma with
  | nil => cases ma with
    | nil => simp [rpF, hI]
    | cons m ms => simp at h
  | cons x r ih => cases ma with
    | nil => simp at h
    | cons m ms =>
      simp only [List.cons_append, rpF, List.length_cons, hI]
      rw [ih _ _ _ (by simpa using h), List.append_assoc, show o + 1 + r.length = o + (r.length + 1) by omega]
theorem rpF_in (f : Fo) (hf : f.ok) : ∀ (n : Int) (o : Nat) (ms : List Int), 0 < n → ms.length = f.size → rpF n o f.flat ms = [] := by
  induction f with
  | nil => intro n o ms _ _; simp [Fo.flat, rpF]
  | leaf op r ih =>
    intro n o ms hn hm
    obtain ⟨h1, h2, h3⟩ := hf
    rw [Fo.size_leaf] at hm
    cases ms with
    | nil => simp at hm
    | cons m ms =>
      show (if 0 < n ∨ op.kind = 0 then [] else _) ++ rpF _ (o + 1) r.flat ms = []
      rw [if_pos (.inl hn), if_neg (by omega), if_neg (by omega), ih h3 _ _ _ hn (by simpa using hm)]
      rfl
  | rep op b fin r ihb ihr =>
    intro n o ms hn hm
    obtain ⟨h1, h2, h3, h4⟩ := hf
    rw [Fo.size_rep] at hm
    cases ms with
    | nil => simp at hm
    | cons m ms =>
      obtain ⟨s1, y, s2, rfl, hs1, hs2⟩ : ∃ s1 y s2, ms = s1 ++ y :: s2 ∧ s1.length = b.size ∧ s2.length = r.size := by
        simp only [List.length_cons] at hm
        have hlt : b.size < ms.length := by omega
        refine ⟨ms.take b.size, ms[b.size], ms.drop (b.size + 1), ?_, by simp; omega, by simp; omega⟩
        rw [← List.drop_eq_getElem_cons hlt, List.take_append_drop]
      show (if 0 < n ∨ op.kind = 0 then [] else _) ++ rpF (if op.kind = 7 then n + 1 else _) (o + 1) (b.flat ++ fin :: r.flat) (s1 ++ y :: s2) = []
      rw [if_pos (.inl hn), if_pos h1, rpF_append _ _ _ _ _ _ (by rw [hs1]; rfl), ihb h2 _ _ _ (by omega) hs1, hI_flat b h2]
      show [] ++ ([] ++ ((if 0 < n + 1 ∨ fin.kind = 0 then [] else _) ++ rpF (if fin.kind = 7 then _ else if fin.kind = 0 then n + 1 - 1 else _) _ r.flat s2)) = []
      rw [if_pos (.inr h3), if_neg (by omega), if_pos h3, ihr h4 _ _ _ (by omega) hs2]
      rfl
theorem rpF_flat (f : Fo) (hf : f.ok) : ∀ (o : Nat), rpF 0 o f.flat (mtT o f) = partsT o f := by
  induction f with
  | nil => intro o; rfl
  | leaf op r ih =>
    intro o
    obtain ⟨h1, h2, h3⟩ := hf
    show (if 0 < (0 : Int) ∨ op.kind = 0 then [] else [((o : Int), if op.kind = 7 then _ else (o : Int) + 1)]) ++ rpF _ (o + 1) r.flat (mtT (o + 1) r) = _
    rw [if_neg (by omega), if_neg (by omega), if_neg (by omega), if_neg (by omega), ih h3]
    simp [partsT]
  | rep op b fin r ihb ihr =>
    intro o
    obtain ⟨h1, h2, h3, h4⟩ := hf
    show (if 0 < (0 : Int) ∨ op.kind = 0 then [] else [((o : Int), if op.kind = 7 then ((o + b.size + 1 : Nat) : Int) + 1 else _)]) ++ rpF (if op.kind = 7 then 0 + 1 else _) (o + 1) (b.flat ++ fin :: r.flat) (mtT (o + 1) b ++ (o : Int) :: mtT (o + b.size + 2) r) = _
    rw [if_neg (by omega), if_pos h1, if_pos h1, rpF_append _ _ _ _ _ _ (by rw [mtT_length]; rfl), rpF_in b h2 _ _ _ (by omega) (mtT_length b _), hI_flat b h2]
    show _ ++ ([] ++ ((if 0 < (0 + 1 : Int) ∨ fin.kind = 0 then [] else _) ++ rpF (if fin.kind = 7 then _ else if fin.kind = 0 then 0 + 1 - 1 else _) (o + 1 + b.flat.length + 1) r.flat (mtT (o + b.size + 2) r))) = _
    rw [if_pos (.inr h3), if_neg (by omega), if_pos h3, show (0 + 1 - 1 : Int) = 0 by omega, show o + 1 + b.flat.length + 1 = o + b.size + 2 by simp only [Fo.size]; omega, ihr h4]
    simp [partsT]
    omega
end Go.Proofs.Ytoklehndfncmnaa
