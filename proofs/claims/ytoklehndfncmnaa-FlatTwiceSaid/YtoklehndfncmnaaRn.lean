/- Plain facts on programs that may be: which ones they are, their registers, what a run makes of them. No program is named here. -/
import Derived.Test.YtoklehndfncmnaaFl
import Derived.Test.YtoklehndfncmnaaN8d
namespace Go.Proofs.Ytoklehndfncmnaa
set_option linter.unusedVariables false
set_option linter.unusedSimpArgs false
open Go.RowKit

theorem dpF_flat (f : Fo) (hf : f.ok) : ∀ (n m : Nat) (r : List OpD), n ≤ m → dpF n m (f.flat ++ r) = dpF n (max m (n + f.dp)) r := by
  induction f with
  | nil => intro n m r h; simp [Fo.flat, Fo.dp]; rw [Nat.max_eq_left h]
  | leaf op s ih =>
    intro n m r h
    obtain ⟨h1, h2, h3⟩ := hf
    show dpF n m (op :: (s.flat ++ r)) = _
    rw [dpF, if_neg (by omega), if_neg (by omega), ih h3 n m r h]
    rfl
  | rep op b fin s ihb ihs =>
    intro n m r h
    obtain ⟨h1, h2, h3, h4⟩ := hf
    show dpF n m (op :: ((b.flat ++ fin :: s.flat) ++ r)) = _
    rw [dpF, if_pos h1, List.append_assoc, ihb h2 _ _ _ (by omega)]
    show dpF (n + 1) _ (fin :: (s.flat ++ r)) = _
    rw [dpF, if_neg (by omega), if_pos h3, ihs h4 _ _ _ (by omega)]
    simp only [Fo.dp]
    congr 1
    omega
theorem deepL_flat (f : Fo) (hf : f.ok) : deepL f.flat = f.dp := by
  have := dpF_flat f hf 0 0 [] (Nat.le_refl _)
  simpa [deepL, dpF] using this

/-! ### Programs that may be -/
def formB (l : List OpD) : Bool := decide (l.length ≤ 4096) && well l && l.all rightB
def regsB (regs : Int) (l : List OpD) : Bool := decide (1 ≤ regs) && decide (regs ≤ 64) && l.all (fun x => !offB regs x)
def checkS (regs : Int) (l : List OpD) : Int :=
  if formB l = true then (if regsB regs l = true then (if deepL l ≤ 8 then (if (measL l).isSome = true then 0 else 9) else 8) else 7) else 6
theorem checkS_cases (regs : Int) (l : List OpD) : checkS regs l = 0 ∨ checkS regs l = 6 ∨ checkS regs l = 7 ∨ checkS regs l = 8 ∨ checkS regs l = 9 := by
  unfold checkS; split
  · split
    · split
      · split <;> simp
      · simp
    · simp
  · simp
structure Good (regs : Int) (f : Fo) : Prop where
  ok : f.ok
  len : f.size ≤ 4096
  right : ∀ x ∈ f.flat, rightB x = true
  r1 : 1 ≤ regs
  r2 : regs ≤ 64
  off : ∀ x ∈ f.flat, offB regs x = false
  deep : f.dp ≤ 8
  may : f.may = true
  few : f.wr ≤ 65536
theorem good_of_check {regs : Int} {l : List OpD} (h : checkS regs l = 0) : ∃ f : Fo, l = f.flat ∧ Good regs f := by
  unfold checkS at h
  by_cases h1 : formB l = true
  · rw [if_pos h1] at h
    by_cases h2 : regsB regs l = true
    · rw [if_pos h2] at h
      by_cases h3 : deepL l ≤ 8
      · rw [if_pos h3] at h
        by_cases h4 : (measL l).isSome = true
        · unfold formB at h1
          simp only [Bool.and_eq_true, decide_eq_true_eq, List.all_eq_true] at h1
          unfold regsB at h2
          simp only [Bool.and_eq_true, decide_eq_true_eq, List.all_eq_true, Bool.not_eq_true'] at h2
          obtain ⟨f, hf, rfl⟩ := forest_of_well l h1.1.2
          rw [measL_flat f hf] at h4
          by_cases h5 : f.may = true ∧ f.wr ≤ 65536
          · exact ⟨f, rfl, hf, h1.1.1, h1.2, h2.1.1, h2.1.2, h2.2, by rw [← deepL_flat f hf]; exact h3, h5.1, h5.2⟩
          · rw [if_neg h5] at h4; cases h4
        · rw [if_neg h4] at h; omega
      · rw [if_neg h3] at h; omega
    · rw [if_neg h2] at h; omega
  · rw [if_neg h1] at h; omega
theorem Good.check {regs : Int} {f : Fo} (g : Good regs f) : checkS regs f.flat = 0 := by
  unfold checkS
  rw [if_pos, if_pos, if_pos, if_pos]
  · rw [measL_flat f g.ok, if_pos ⟨g.may, g.few⟩]; rfl
  · rw [deepL_flat f g.ok]; exact g.deep
  · unfold regsB
    simp only [Bool.and_eq_true, decide_eq_true_eq, List.all_eq_true, Bool.not_eq_true']
    exact ⟨⟨g.r1, g.r2⟩, g.off⟩
  · unfold formB
    simp only [Bool.and_eq_true, decide_eq_true_eq, List.all_eq_true]
    exact ⟨⟨g.len, well_of_flat f g.ok⟩, g.right⟩
theorem Fo.flat_inj (f : Fo) (hf : f.ok) : ∀ (g : Fo), g.ok → ∀ (a b : OpD) (ra rb : List OpD), a.kind = 0 → b.kind = 0 → f.flat ++ a :: ra = g.flat ++ b :: rb → f = g ∧ a = b ∧ ra = rb := by
  induction f with
  | nil =>
    intro g hg a b ra rb ha hb h
    cases g with
    | nil => simp [flat] at h; exact ⟨rfl, h⟩
    | leaf op r => simp [flat] at h; have := hg.1; rw [← h.1] at this; omega
    | rep op c fin r => simp [flat] at h; have := hg.1; rw [← h.1] at this; omega
  | leaf op r ih =>
    intro g hg a b ra rb ha hb h
    obtain ⟨h1, h2, h3⟩ := hf
    cases g with
    | nil => simp [flat] at h; rw [h.1] at h1; omega
    | leaf op' r' =>
      simp only [flat, List.cons_append, List.cons.injEq] at h
      obtain ⟨rfl, h⟩ := h
      obtain ⟨rfl, e2, e3⟩ := ih h3 r' hg.2.2 a b ra rb ha hb h
      exact ⟨rfl, e2, e3⟩
    | rep op' c fin r' =>
      simp only [flat, List.cons_append, List.cons.injEq] at h
      have := hg.1; rw [← h.1] at this; omega
  | rep op c fin r ihc ihr =>
    intro g hg a b ra rb ha hb h
    obtain ⟨h1, h2, h3, h4⟩ := hf
    cases g with
    | nil => simp [flat] at h; rw [h.1] at h1; omega
    | leaf op' r' =>
      simp only [flat, List.cons_append, List.cons.injEq] at h
      have := hg.2.1; rw [← h.1] at this; omega
    | rep op' c' fin' r' =>
      simp only [flat, List.cons_append, List.cons.injEq, List.append_assoc] at h
      obtain ⟨rfl, h⟩ := h
      obtain ⟨rfl, rfl, h'⟩ := ihc h2 c' hg.2.1 _ _ _ _ h3 hg.2.2.1 h
      obtain ⟨rfl, e2, e3⟩ := ihr h4 r' hg.2.2.2 a b ra rb ha hb h'
      exact ⟨rfl, e2, e3⟩
theorem Fo.flat_eq {f g : Fo} (hf : f.ok) (hg : g.ok) (h : f.flat = g.flat) : f = g :=
  (Fo.flat_inj f hf g hg ⟨0, 0, 0, 0, 0⟩ ⟨0, 0, 0, 0, 0⟩ [] [] rfl rfl (by rw [h])).1
/-- the forest of operations that are well nested -/
noncomputable def fo (l : List OpD) : Fo := if h : well l = true then Classical.choose (forest_of_well l h) else .nil
theorem fo_flat {f : Fo} (hf : f.ok) : fo f.flat = f := by
  unfold fo
  rw [dif_pos (well_of_flat f hf)]
  have := Classical.choose_spec (forest_of_well f.flat (well_of_flat f hf))
  exact Fo.flat_eq this.1 hf this.2.symm

/-! ### Registers -/
def getR (r : List UInt64) (i : Int) : UInt64 := (r[i.toNat]?).getD 0
def stepR (r : List UInt64) (x : OpD) : List UInt64 := r.set x.d.toNat (applyU x (getR r x.a) (getR r x.b))
def runR (l : List OpD) (r : List UInt64) : List UInt64 := l.foldl stepR r
theorem stepR_length (r : List UInt64) (x : OpD) : (stepR r x).length = r.length := by simp [stepR]
theorem runR_length (l : List OpD) (r : List UInt64) : (runR l r).length = r.length := by
  induction l generalizing r with
  | nil => rfl
  | cons x l ih => show (runR l (stepR r x)).length = _; rw [ih, stepR_length]
theorem runR_append (a b : List OpD) (r : List UInt64) : runR (a ++ b) r = runR b (runR a r) := List.foldl_append ..
/-- An operation's registers are there. -/
def InR (regs : Int) (x : OpD) : Prop := (0 ≤ x.d ∧ x.d < regs) ∧ (0 ≤ x.a ∧ x.a < regs) ∧ (0 ≤ x.b ∧ x.b < regs)
theorem inR_of {regs : Int} {x : OpD} (h1 : rightB x = true) (h2 : offB regs x = false) (h3 : 1 ≤ regs) (k1 : 1 ≤ x.kind) (k2 : x.kind ≤ 6) : InR regs x := by
  obtain ⟨k, d, a, b, v⟩ := x
  have hk : k = 1 ∨ k = 2 ∨ k = 3 ∨ k = 4 ∨ k = 5 ∨ k = 6 := by simp only at k1 k2; omega
  rcases hk with rfl | rfl | rfl | rfl | rfl | rfl <;> simp [rightB, regB, offB, dOf, aOf, bOf, vOf] at h1 h2 <;> unfold InR <;> simp only <;> omega
theorem Good.inR {regs : Int} {f : Fo} (g : Good regs f) : ∀ x ∈ f.unroll, InR regs x := fun x hx => by
  obtain ⟨h1, h2, h3⟩ := f.unroll_mem g.ok x hx
  exact inR_of (g.right x h1) (g.off x h1) g.r1 h2 h3
theorem Good.inF {regs : Int} {f : Fo} (g : Good regs f) : ∀ x ∈ f.flat, 1 ≤ x.kind → x.kind ≤ 6 → InR regs x := fun x hx h2 h3 => inR_of (g.right x hx) (g.off x hx) g.r1 h2 h3
theorem Good.code_length {regs : Int} {f : Fo} (g : Good regs f) : (f.bare.code 0).length ≤ 4096 := by
  rw [Fo.code_length]; exact Nat.le_trans f.bare_size g.len
theorem Good.gone_le {regs : Int} {f : Fo} (g : Good regs f) : f.bare.gone.length ≤ 65536 * 17 := by
  have := f.bare.gone_le f.bare_full 8 (Nat.le_trans f.bare_dp g.deep)
  rw [f.bare_wr] at this
  have h2 : f.wr * (1 + 2 * 8) ≤ 65536 * 17 := Nat.mul_le_mul g.few (by omega)
  omega
/-- registers at first: those that are handed in, 0 in the others -/
def startR (n : Nat) (r : List UInt64) : List UInt64 := r ++ List.replicate (n - r.length) 0
theorem startR_length (n : Nat) (r : List UInt64) (h : r.length ≤ n) : (startR n r).length = n := by simp [startR] <;> omega
/-- The machine's steps. -/
def Fo.steps (f : Fo) : List Tk := f.bare.tr 0 []
theorem Good.chn {regs : Int} {f : Fo} (g : Good regs f) : Chn (f.bare.code 0) (0, []) f.steps ((f.bare.code 0).length, []) := by
  have := f.bare.tr_chn (f.bare_ok g.ok) f.bare_full (f.bare.code 0) [] [] 0 [] (by simp) rfl
  rw [Fo.code_length]
  simpa [Fo.steps] using this
theorem Good.tk {regs : Int} {f : Fo} (g : Good regs f) : ∀ x ∈ f.steps, TkOk (f.bare.code 0).length 8 f.bare.flat x := by
  have := f.bare.tr_tk (f.bare_ok g.ok) 0 8 [] (by simpa using Nat.le_trans f.bare_dp g.deep)
  rw [Fo.code_length]
  simpa [Fo.steps] using this
theorem Good.steps_ops {regs : Int} {f : Fo} (g : Good regs f) : wrs (f.steps.map (·.op)) = f.unroll := by
  unfold Fo.steps
  rw [Fo.tr_ops, Fo.gone_wrs _ (f.bare_ok g.ok), Fo.bare_unroll]
theorem steps_length (f : Fo) : f.steps.length = f.bare.gone.length := by
  have := congrArg List.length (f.bare.tr_ops 0 [])
  simpa [Fo.steps] using this
end Go.Proofs.Ytoklehndfncmnaa
