/- Plain facts on tapes: what a run has written so far, what has been taken back so far; the machine's steps back. No program is named here. -/
import Derived.Test.YtmmepffdjmpblaaGreatAd
import Derived.Test.YtmmepffdjmpblaaGreatQb
namespace Go.Proofs.YtmmepffdjmpblaaGreat
set_option linter.unusedVariables false
set_option linter.unusedSimpArgs false
open Go.RowKit

theorem tapeR_snoc (l : List OpD) (x : OpD) (r : List UInt64) : tapeR (l ++ [x]) r = tapeR l r ++ [getR (runR l r) x.d] := by
  induction l generalizing r with
  | nil => rfl
  | cons y l ih =>
    show getR r y.d :: tapeR (l ++ [x]) (stepR r y) = _
    rw [ih]; rfl
/-- a tape, as far as it is written -/
def tpR (P : List OpD) (r t : List UInt64) : List UInt64 := tapeR P r ++ t.drop P.length
theorem tpR_nil (r t : List UInt64) : tpR [] r t = t := rfl
theorem tpR_length (P : List OpD) (r t : List UInt64) (h : P.length ≤ t.length) : (tpR P r t).length = t.length := by
  unfold tpR
  rw [List.length_append, tapeR_length, List.length_drop]; omega
theorem tpR_snoc (P : List OpD) (x : OpD) (r t : List UInt64) (h : P.length < t.length) : tpR (P ++ [x]) r t = (tpR P r t).set P.length (getR (runR P r) x.d) := by
  unfold tpR
  rw [tapeR_snoc, List.set_append, if_neg (by rw [tapeR_length]; omega), tapeR_length, Nat.sub_self, List.drop_eq_getElem_cons h, List.set_cons_zero, List.append_assoc, List.length_append]
  rfl
/-- registers and adjoints, as far as they are taken back: `Q` is done with -/
def bkR (n : Nat) (t r w : List UInt64) (Q : List OpD) : List UInt64 × List UInt64 := backR Q (t.drop (n - Q.length)) r w
def unR (n : Nat) (t r : List UInt64) (Q : List OpD) : List UInt64 := undoR Q (t.drop (n - Q.length)) r
theorem drop_pre {t : List UInt64} {n q : Nat} {v : UInt64} (hn : q + 1 ≤ n) (hv : t[n - q - 1]? = some v) : t.drop (n - (q + 1)) = v :: t.drop (n - q) := by
  have h := drop_at hv
  rw [show n - (q + 1) = n - q - 1 by omega, h, show n - q - 1 + 1 = n - q by omega]
theorem bkR_cons {n : Nat} {t r w : List UInt64} {Q : List OpD} {x : OpD} {v : UInt64} (hn : Q.length + 1 ≤ n) (hv : t[n - Q.length - 1]? = some v) :
    bkR n t r w (x :: Q) = ((bkR n t r w Q).1.set x.d.toNat v, takeA x ((bkR n t r w Q).1.set x.d.toNat v) (bkR n t r w Q).2) := by
  unfold bkR
  rw [List.length_cons, drop_pre hn hv]
  rfl
theorem unR_cons {n : Nat} {t r : List UInt64} {Q : List OpD} {x : OpD} {v : UInt64} (hn : Q.length + 1 ≤ n) (hv : t[n - Q.length - 1]? = some v) :
    unR n t r (x :: Q) = (unR n t r Q).set x.d.toNat v := by
  unfold unR
  rw [List.length_cons, drop_pre hn hv]
  rfl
theorem bkR_nil (n : Nat) (t r w : List UInt64) : bkR n t r w [] = (r, w) := rfl
theorem unR_nil (n : Nat) (t r : List UInt64) : unR n t r [] = r := rfl
theorem bkR_all (U : List OpD) (t r w : List UInt64) : bkR U.length t r w U = backR U t r w := by unfold bkR; rw [Nat.sub_self, List.drop_zero]
theorem unR_all (U : List OpD) (t r : List UInt64) : unR U.length t r U = undoR U t r := by unfold unR; rw [Nat.sub_self, List.drop_zero]
theorem unR_length (n : Nat) (t r : List UInt64) (Q : List OpD) : (unR n t r Q).length = r.length := undoR_length _ _ _
theorem bkR_fst (n : Nat) (t r w : List UInt64) (Q : List OpD) : (bkR n t r w Q).1 = unR n t r Q := backR_undo _ _ _ _
theorem bkR_len1 (n : Nat) (t r w : List UInt64) (Q : List OpD) : (bkR n t r w Q).1.length = r.length := by rw [bkR_fst, unR_length]
theorem bkR_len2 (n : Nat) (t r w : List UInt64) (Q : List OpD) : (bkR n t r w Q).2.length = w.length := backR_length _ _ _ _
/-- what stands behind on a tape does not matter -/
theorem undoR_more (U : List OpD) : ∀ (t s r : List UInt64), U.length ≤ t.length → undoR U (t ++ s) r = undoR U t r := by
  induction U with
  | nil => intro t s r _; cases t <;> cases s <;> rfl
  | cons x U ih =>
    intro t s r h
    cases t with
    | nil => simp at h
    | cons v t => show (undoR U (t ++ s) r).set x.d.toNat v = _; rw [ih t s r (by simpa using h)]; rfl
theorem backR_more (U : List OpD) : ∀ (t s r w : List UInt64), U.length ≤ t.length → backR U (t ++ s) r w = backR U t r w := by
  induction U with
  | nil => intro t s r w _; cases t <;> cases s <;> rfl
  | cons x U ih =>
    intro t s r w h
    cases t with
    | nil => simp at h
    | cons v t => simp only [List.cons_append, backR]; rw [ih t s r w (by simpa using h)]
/-- by the tape of the run itself, whatever stands behind on it -/
theorem undo_tp (U : List OpD) (r t : List UInt64) : undoR U (tpR U r t) (runR U r) = r := by
  unfold tpR
  rw [undoR_more U _ _ _ (by rw [tapeR_length]; exact Nat.le_refl _), undo_tape]
theorem back_tp (U : List OpD) (r t w : List UInt64) : backR U (tpR U r t) (runR U r) w = (r, backA U r w) := by
  unfold tpR
  rw [backR_more U _ _ _ _ (by rw [tapeR_length]; exact Nat.le_refl _), backR_tape]

/-! ### The machine's steps back -/
theorem trRB_all {b : List UInt64 → List Tk} {o : Nat} {op : OpD} {to : Int} {st : List UInt64} {P : Tk → Prop} (N : Nat) (hb : ∀ k : Nat, ∀ x ∈ b (st ++ [UInt64.ofNat (k + 1)]), P x) (he : ∀ k : Nat, k < N → P ⟨o, st ++ [UInt64.ofNat (k + 1)], op, to⟩) : ∀ k, k ≤ N → ∀ x ∈ trRB b o op to st k, P x := by
  intro k
  induction k with
  | zero => intro _ x hx; cases hx
  | succ k ih =>
    intro hk x hx
    unfold trRB at hx
    rcases List.mem_append.1 hx with hx | hx
    · exact hb k x hx
    · rcases List.mem_cons.1 hx with rfl | hx
      · exact he k (by omega)
      · exact ih (by omega) x hx
theorem Fo.trB_pos (f : Fo) (hf : f.ok) : ∀ (o : Nat) (st : List UInt64), ∀ x ∈ f.trB o st, x.op.kind = 7 → 1 ≤ (x.st.getLast?.getD 0).toNat := by
  induction f with
  | nil => intro o st x hx; cases hx
  | leaf op r ih =>
    intro o st x hx h0
    obtain ⟨h1, h2, h3⟩ := hf
    rcases List.mem_append.1 hx with hx | hx
    · exact ih h3 _ _ x hx h0
    · simp only [List.mem_singleton] at hx
      subst hx
      simp at h0; omega
  | rep op b fin r ihb ihr =>
    intro o st x hx h0
    obtain ⟨h1, h2, h3, h4⟩ := hf
    rcases List.mem_append.1 hx with hx | hx
    · exact ihr h4 _ _ x hx h0
    · rcases List.mem_cons.1 hx with rfl | hx
      · simp [h3] at h0
      · refine trRB_all (P := fun x => x.op.kind = 7 → 1 ≤ (x.st.getLast?.getD 0).toNat) op.v.toNat (fun k y hy => ihb h2 _ _ y hy) (fun k hk _ => ?_) _ (Nat.le_refl _) x hx h0
        have := op.v.toNat_lt
        simp only [List.getLast?_append, List.getLast?_singleton, Option.some_or, Option.getD_some]
        rw [toNat_ofNat' (by omega)]
        omega
def Fo.stepsB (f : Fo) : List Tk := f.bare.trB 0 []
theorem Good.chnB {regs : Int} {f : Fo} (g : Good regs f) : ChnB (f.bare.code 0) (((f.bare.code 0).length : Int) - 1, []) f.stepsB (-1, []) := by
  have := f.bare.trB_chn (f.bare_ok g.ok) f.bare_full (f.bare.code 0) [] [] 0 [] (by simp) rfl
  rw [Fo.code_length]
  simpa [Fo.stepsB] using this
theorem Good.tkB {regs : Int} {f : Fo} (g : Good regs f) : ∀ x ∈ f.stepsB, TkB (f.bare.code 0).length 8 f.bare.flat x := by
  have := f.bare.trB_tk (f.bare_ok g.ok) 0 8 [] (by simpa using Nat.le_trans f.bare_dp g.deep)
  rw [Fo.code_length]
  simpa [Fo.stepsB] using this
theorem Good.tkB_pos {regs : Int} {f : Fo} (g : Good regs f) : ∀ x ∈ f.stepsB, x.op.kind = 7 → 1 ≤ (x.st.getLast?.getD 0).toNat := f.bare.trB_pos (f.bare_ok g.ok) 0 []
theorem Good.stepsB_ops {regs : Int} {f : Fo} (g : Good regs f) : wrs (f.stepsB.map (·.op)) = f.unroll.reverse := by
  unfold Fo.stepsB
  rw [Fo.trB_wrs _ (f.bare_ok g.ok), Fo.bare_unroll]
theorem Good.tkB_in {regs : Int} {f : Fo} (g : Good regs f) : ∀ x ∈ f.stepsB, 1 ≤ x.op.kind → x.op.kind ≤ 6 → InR regs x.op := fun x hx h1 h2 => g.inF x.op (f.bare_mem _ (g.tkB x hx).2.2.2.2.1) h1 h2
end Go.Proofs.YtmmepffdjmpblaaGreat
