/- Plain facts on opened programs: which places are gone, by the loop over the list. No program is named here. -/
import Derived.Test.YthncfoompoheoaaTd
namespace Go.Proofs.Ythncfoompoheoaa
set_option linter.unusedVariables false
set_option linter.unusedSimpArgs false
open Go.RowKit

/-- the places from i, n of them, set -/
def setR (g : List Bool) (i n : Nat) : List Bool := g.take i ++ List.replicate (min n (g.length - i)) true ++ g.drop (i + n)
theorem setR_length (g : List Bool) (i n : Nat) : (setR g i n).length = g.length := by
  unfold setR
  simp only [List.length_append, List.length_take, List.length_replicate, List.length_drop]
  omega
theorem setR_zero (g : List Bool) (i : Nat) : setR g i 0 = g := by
  unfold setR
  simp
theorem setR_succ (g : List Bool) (i n : Nat) (h : i + n < g.length) : (setR g i n).set (i + n) true = setR g i (n + 1) := by
  unfold setR
  have e1 : min n (g.length - i) = n := by omega
  have e2 : min (n + 1) (g.length - i) = n + 1 := by omega
  rw [e1, e2, List.drop_eq_getElem_cons h, List.set_append_right _ _ (by simp; omega)]
  have e3 : i + n - (List.take i g ++ List.replicate n true).length = 0 := by simp; omega
  rw [e3, List.set_cons_zero, List.replicate_succ', List.append_assoc, List.append_assoc, List.append_assoc]
  rw [show i + n + 1 = i + (n + 1) by omega]
  rfl
theorem setR_mid (pre seg post : List Bool) (i n : Nat) (hi : pre.length = i) (hn : seg.length = n) : setR (pre ++ seg ++ post) i n = pre ++ List.replicate n true ++ post := by
  subst hi hn
  have e1 : (pre ++ seg ++ post).take pre.length = pre := by rw [List.append_assoc, List.take_left]
  have e2 : (pre ++ seg ++ post).drop (pre.length + seg.length) = post := by rw [← List.length_append, List.drop_left]
  have e3 : min seg.length ((pre ++ seg ++ post).length - pre.length) = seg.length := by simp only [List.length_append]; omega
  unfold setR
  rw [e1, e2, e3]
/-- one look of the loop -/
def gstep (g : List Bool) (i : Nat) (x : OpD) (m z : Int) : List Bool :=
  if x.kind = 7 then (if z = 0 then setR g i (m.toNat + 1 - i) else if x.v = 1 then (g.set i true).set m.toNat true else g) else g
theorem gstep_length (g : List Bool) (i : Nat) (x : OpD) (m z : Int) : (gstep g i x m z).length = g.length := by
  unfold gstep
  split
  · split
    · exact setR_length _ _ _
    · split
      · simp
      · rfl
  · rfl
def gF : Nat → List Bool → List OpD → List Int → List Int → List Bool
  | i, g, x :: r, m :: ms, z :: zs => gF (i + 1) (gstep g i x m z) r ms zs
  | _, g, _, _, _ => g
theorem gF_append (a b : List OpD) : ∀ (ma mb za zb : List Int) (i : Nat) (g : List Bool), ma.length = a.length → za.length = a.length → gF i g (a ++ b) (ma ++ mb) (za ++ zb) = gF (i + a.length) (gF i g a ma za) b mb zb := by
  induction a with
  | nil =>
    intro ma mb za zb i g h1 h2
    obtain rfl := List.eq_nil_of_length_eq_zero h1
    obtain rfl := List.eq_nil_of_length_eq_zero h2
    cases b <;> rfl
  | cons x r ih =>
    intro ma mb za zb i g h1 h2
    cases ma with
    | nil => cases h1
    | cons m ms =>
      cases za with
      | nil => cases h2
      | cons z zs =>
        simp only [List.cons_append, gF]
        rw [ih ms mb zs zb _ _ (by simpa using h1) (by simpa using h2)]
        simp only [List.length_cons]
        rw [show i + 1 + r.length = i + (r.length + 1) by omega]
theorem gF_length (a : List OpD) : ∀ (ma za : List Int) (i : Nat) (g : List Bool), (gF i g a ma za).length = g.length := by
  induction a with
  | nil => intro ma za i g; rfl
  | cons x r ih =>
    intro ma za i g
    cases ma with
    | nil => rfl
    | cons m ms =>
      cases za with
      | nil => rfl
      | cons z zs => simp only [gF]; rw [ih, gstep_length]
/-- by the forest -/
def gon : Fo → List Bool
  | .nil => []
  | .leaf _ r => false :: gon r
  | .rep op b _ r => if b.wr * op.v.toNat = 0 then List.replicate (b.size + 2) true ++ gon r else if op.v.toNat = 1 then true :: (gon b ++ true :: gon r) else false :: (gon b ++ false :: gon r)
theorem gon_length (f : Fo) : (gon f).length = f.size := by
  induction f with
  | nil => rfl
  | leaf op r ih => simp [gon, ih, Fo.size_leaf]
  | rep op b fin r ihb ihr =>
    unfold gon
    split
    · simp [ihr, Fo.size_rep]; omega
    · split <;> (simp [ihb, ihr, Fo.size_rep]; omega)
def orL : List Bool → List Bool → List Bool
  | x :: a, y :: b => (x || y) :: orL a b
  | _, _ => []
theorem orL_length : ∀ (a b : List Bool), a.length = b.length → (orL a b).length = a.length := by
  intro a
  induction a with
  | nil => intro b _; rfl
  | cons x a ih =>
    intro b h
    cases b with
    | nil => cases h
    | cons y b => simp only [orL, List.length_cons]; rw [ih b (by simpa using h)]
theorem orL_append : ∀ (a b c d : List Bool), a.length = c.length → orL (a ++ b) (c ++ d) = orL a c ++ orL b d := by
  intro a
  induction a with
  | nil =>
    intro b c d h
    obtain rfl := List.eq_nil_of_length_eq_zero h.symm
    rfl
  | cons x a ih =>
    intro b c d h
    cases c with
    | nil => cases h
    | cons y c => simp only [List.cons_append, orL]; rw [ih b c d (by simpa using h)]
theorem orL_true : ∀ (n : Nat) (b : List Bool), b.length = n → orL (List.replicate n true) b = List.replicate n true := by
  intro n
  induction n with
  | zero => intro b _; rfl
  | succ n ih =>
    intro b h
    cases b with
    | nil => cases h
    | cons y b => simp only [List.replicate_succ, orL, Bool.true_or]; rw [ih b (by simpa using h)]
theorem orL_true' : ∀ (n : Nat) (b : List Bool), b.length = n → orL b (List.replicate n true) = List.replicate n true := by
  intro n
  induction n with
  | zero =>
    intro b h
    obtain rfl := List.eq_nil_of_length_eq_zero h
    rfl
  | succ n ih =>
    intro b h
    cases b with
    | nil => cases h
    | cons y b => simp only [List.replicate_succ, orL, Bool.or_true]; rw [ih b (by simpa using h)]
theorem orL_false : ∀ (n : Nat) (b : List Bool), b.length = n → orL (List.replicate n false) b = b := by
  intro n
  induction n with
  | zero =>
    intro b h
    obtain rfl := List.eq_nil_of_length_eq_zero h
    rfl
  | succ n ih =>
    intro b h
    cases b with
    | nil => cases h
    | cons y b => simp only [List.replicate_succ, orL, Bool.false_or]; rw [ih b (by simpa using h)]
theorem split4 (f : Nat) (b r : Nat) (seg : List Bool) (h : seg.length = b + r + 2) : ∃ x s1 y s2, seg = x :: (s1 ++ y :: s2) ∧ s1.length = b ∧ s2.length = r := by
  cases seg with
  | nil => simp at h
  | cons x s =>
    have hs : s.length = b + r + 1 := by simp at h; omega
    have hb : b < s.length := by omega
    refine ⟨x, s.take b, s[b], s.drop (b + 1), ?_, by simp; omega, by simp; omega⟩
    rw [← List.drop_eq_getElem_cons hb, List.take_append_drop]
theorem set_at (pre post : List Bool) (x v : Bool) (n : Nat) (h : pre.length = n) : (pre ++ x :: post).set n v = pre ++ v :: post := by
  subst h
  rw [List.set_append_right _ _ (Nat.le_refl _), Nat.sub_self, List.set_cons_zero]
theorem gF_flat (f : Fo) (hf : f.ok) : ∀ (i : Nat) (pre seg post : List Bool), pre.length = i → seg.length = f.size → gF i (pre ++ seg ++ post) f.flat (mtT i f) f.sizes = pre ++ orL seg (gon f) ++ post := by
  induction f with
  | nil =>
    intro i pre seg post h1 h2
    obtain rfl := List.eq_nil_of_length_eq_zero h2
    rfl
  | leaf op r ih =>
    intro i pre seg post h1 h2
    obtain ⟨k1, k2, k3⟩ := hf
    cases seg with
    | nil => rw [Fo.size_leaf] at h2; cases h2
    | cons x s =>
      have hs : s.length = r.size := by rw [Fo.size_leaf] at h2; simpa using h2
      simp only [Fo.flat, mtT, Fo.sizes, gF]
      have hg : gstep (pre ++ x :: s ++ post) i op (-1) 1 = pre ++ x :: s ++ post := by unfold gstep; rw [if_neg (by omega)]
      rw [hg]
      have := ih k3 (i + 1) (pre ++ [x]) s post (by simp [h1]) hs
      rw [show pre ++ [x] ++ s ++ post = pre ++ x :: s ++ post by simp] at this
      rw [this]
      simp [gon, orL]
  | rep op b fin r ihb ihr =>
    intro i pre seg post h1 h2
    obtain ⟨k1, k2, k3, k4⟩ := hf
    rw [Fo.size_rep] at h2
    obtain ⟨x, s1, y, s2, rfl, hs1, hs2⟩ := split4 0 b.size r.size seg h2
    have hbs : b.flat.length = b.size := rfl
    have e1 : (Fo.rep op b fin r).flat = op :: (b.flat ++ fin :: r.flat) := rfl
    rw [e1]
    simp only [mtT, Fo.sizes, gF]
    rw [gF_append _ _ _ _ _ _ _ _ (by rw [mtT_length]; rfl) (by rw [Fo.sizes_length]; rfl)]
    simp only [gF, hbs]
    have hfin : ∀ g j m z, gstep g j fin m z = g := fun g j m z => by unfold gstep; rw [if_neg (by rw [k3]; decide)]
    rw [hfin]
    have hmt : ((i + b.size + 1 : Nat) : Int).toNat = i + b.size + 1 := Int.toNat_natCast _
    -- what the block sets
    have hstep : gstep (pre ++ x :: (s1 ++ y :: s2) ++ post) i op ((i + b.size + 1 : Nat) : Int) ((b.wr * op.v.toNat : Nat) : Int)
        = if b.wr * op.v.toNat = 0 then pre ++ true :: (List.replicate b.size true ++ true :: s2) ++ post else if op.v.toNat = 1 then pre ++ true :: (s1 ++ true :: s2) ++ post else pre ++ x :: (s1 ++ y :: s2) ++ post := by
      unfold gstep
      rw [if_pos k1, hmt]
      by_cases h0 : b.wr * op.v.toNat = 0
      · rw [if_pos (by rw [h0]; rfl), if_pos h0, show i + b.size + 1 + 1 - i = b.size + 2 by omega]
        have := setR_mid pre (x :: (s1 ++ [y])) (s2 ++ post) i (b.size + 2) h1 (by simp [hs1])
        rw [show pre ++ x :: (s1 ++ y :: s2) ++ post = pre ++ x :: (s1 ++ [y]) ++ (s2 ++ post) by simp, this, List.replicate_succ, List.replicate_succ']
        simp
      · rw [if_neg (by intro h; exact h0 (by exact_mod_cast h)), if_neg h0]
        have hv : (op.v = 1) ↔ op.v.toNat = 1 := ⟨fun h => by rw [h]; rfl, fun h => UInt64.toNat_inj.1 (by rw [h]; rfl)⟩
        by_cases hv1 : op.v.toNat = 1
        · rw [if_pos (hv.2 hv1), if_pos hv1]
          rw [show pre ++ x :: (s1 ++ y :: s2) ++ post = pre ++ x :: (s1 ++ y :: s2 ++ post) by simp, set_at pre _ x true i h1]
          rw [show pre ++ true :: (s1 ++ y :: s2 ++ post) = (pre ++ true :: s1) ++ y :: (s2 ++ post) by simp, set_at _ _ y true (i + b.size + 1) (by simp [h1, hs1]; omega)]
          simp
        · rw [if_neg (fun h => hv1 (hv.1 h)), if_neg hv1]
    rw [hstep]
    have tail : ∀ (p' : List Bool), p'.length = i + b.size + 2 → gF (i + 1 + b.size + 1) (p' ++ s2 ++ post) r.flat (mtT (i + b.size + 2) r) r.sizes = p' ++ orL s2 (gon r) ++ post := by
      intro p' hp'
      rw [show i + 1 + b.size + 1 = i + b.size + 2 by omega]
      exact ihr k4 (i + b.size + 2) p' s2 post hp' hs2
    unfold gon
    by_cases h0 : b.wr * op.v.toNat = 0
    · rw [if_pos h0, if_pos h0]
      have hb := ihb k2 (i + 1) (pre ++ [true]) (List.replicate b.size true) (true :: s2 ++ post) (by simp [h1]) (by simp)
      rw [orL_true _ _ (gon_length b)] at hb
      rw [show pre ++ true :: (List.replicate b.size true ++ true :: s2) ++ post = pre ++ [true] ++ List.replicate b.size true ++ (true :: s2 ++ post) by simp, hb]
      have ht := tail (pre ++ [true] ++ List.replicate b.size true ++ [true]) (by simp [h1]; omega)
      rw [show pre ++ [true] ++ List.replicate b.size true ++ (true :: s2 ++ post) = pre ++ [true] ++ List.replicate b.size true ++ [true] ++ s2 ++ post by simp, ht]
      rw [show x :: (s1 ++ y :: s2) = (x :: (s1 ++ [y])) ++ s2 by simp, orL_append _ _ _ _ (by simp [hs1]), orL_true' _ _ (by simp [hs1])]
      rw [show b.size + 2 = b.size + 1 + 1 by omega, List.replicate_succ, List.replicate_succ']
      simp
    · rw [if_neg h0, if_neg h0]
      by_cases hv1 : op.v.toNat = 1
      · rw [if_pos hv1, if_pos hv1]
        have hb := ihb k2 (i + 1) (pre ++ [true]) s1 (true :: s2 ++ post) (by simp [h1]) hs1
        rw [show pre ++ true :: (s1 ++ true :: s2) ++ post = pre ++ [true] ++ s1 ++ (true :: s2 ++ post) by simp, hb]
        have ht := tail (pre ++ [true] ++ orL s1 (gon b) ++ [true]) (by simp [h1, orL_length _ _ (hs1.trans (gon_length b).symm), hs1]; omega)
        rw [show pre ++ [true] ++ orL s1 (gon b) ++ (true :: s2 ++ post) = pre ++ [true] ++ orL s1 (gon b) ++ [true] ++ s2 ++ post by simp, ht]
        simp only [orL]
        rw [orL_append _ _ _ _ (hs1.trans (gon_length b).symm)]
        simp [orL]
      · rw [if_neg hv1, if_neg hv1]
        have hb := ihb k2 (i + 1) (pre ++ [x]) s1 (y :: s2 ++ post) (by simp [h1]) hs1
        rw [show pre ++ x :: (s1 ++ y :: s2) ++ post = pre ++ [x] ++ s1 ++ (y :: s2 ++ post) by simp, hb]
        have ht := tail (pre ++ [x] ++ orL s1 (gon b) ++ [y]) (by simp [h1, orL_length _ _ (hs1.trans (gon_length b).symm), hs1]; omega)
        rw [show pre ++ [x] ++ orL s1 (gon b) ++ (y :: s2 ++ post) = pre ++ [x] ++ orL s1 (gon b) ++ [y] ++ s2 ++ post by simp, ht]
        simp only [orL]
        rw [orL_append _ _ _ _ (hs1.trans (gon_length b).symm)]
        simp [orL]
/-- all that stays -/
def staysG : List Bool → List OpD → List OpD
  | g :: gs, x :: r => if g = true then staysG gs r else x :: staysG gs r
  | _, _ => []
theorem staysG_append (a b : List OpD) : ∀ (ga gb : List Bool), ga.length = a.length → staysG (ga ++ gb) (a ++ b) = staysG ga a ++ staysG gb b := by
  induction a with
  | nil =>
    intro ga gb h
    obtain rfl := List.eq_nil_of_length_eq_zero h
    rfl
  | cons x r ih =>
    intro ga gb h
    cases ga with
    | nil => cases h
    | cons g gs =>
      simp only [List.cons_append, staysG]
      rw [ih gs gb (by simpa using h)]
      split <;> rfl
theorem staysG_true (a : List OpD) : ∀ n, n = a.length → staysG (List.replicate n true) a = [] := by
  induction a with
  | nil => intro n h; subst h; rfl
  | cons x r ih => intro n h; subst h; simp only [List.length_cons, List.replicate_succ, staysG, if_true]; exact ih _ rfl
theorem gon_flat (f : Fo) : staysG (gon f) f.flat = f.opn.flat := by
  induction f with
  | nil => rfl
  | leaf op r ih => simp [gon, Fo.flat, staysG, Fo.opn, ih]
  | rep op b fin r ihb ihr =>
    have hbs : b.flat.length = b.size := rfl
    have e1 : (Fo.rep op b fin r).flat = (op :: (b.flat ++ [fin])) ++ r.flat := by simp [Fo.flat]
    unfold gon Fo.opn
    by_cases h0 : b.wr * op.v.toNat = 0
    · rw [if_pos h0, if_pos h0, e1, staysG_append _ _ _ _ (by simp [hbs]), staysG_true _ _ (by simp [hbs]), ihr]
      rfl
    · rw [if_neg h0, if_neg h0, e1]
      by_cases hv1 : op.v.toNat = 1
      · rw [if_pos hv1, if_pos hv1, show true :: (gon b ++ true :: gon r) = (true :: (gon b ++ [true])) ++ gon r by simp, staysG_append _ _ _ _ (by simp [hbs, gon_length]), ihr]
        simp only [staysG, if_true]
        rw [staysG_append _ _ _ _ (by rw [gon_length]; rfl), ihb, Fo.flat_app]
        simp [staysG]
      · rw [if_neg hv1, if_neg hv1, show false :: (gon b ++ false :: gon r) = (false :: (gon b ++ [false])) ++ gon r by simp, staysG_append _ _ _ _ (by simp [hbs, gon_length]), ihr]
        simp only [staysG]
        rw [staysG_append _ _ _ _ (by rw [gon_length]; rfl), ihb]
        simp [staysG, Fo.flat]
theorem gone_all (f : Fo) (hf : f.ok) : gF 0 (List.replicate f.size false) f.flat (mtT 0 f) f.sizes = gon f := by
  have := gF_flat f hf 0 [] (List.replicate f.size false) [] rfl (by simp)
  rw [orL_false _ _ (gon_length f)] at this
  simpa using this
end Go.Proofs.Ythncfoompoheoaa
