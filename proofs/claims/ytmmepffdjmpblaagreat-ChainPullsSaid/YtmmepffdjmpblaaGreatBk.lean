/- Plain facts on the machine that goes back through code; tapes; adjoints. No program is named here. -/
import Derived.Test.YtmmepffdjmpblaaGreatQb
namespace Go.Proofs.YtmmepffdjmpblaaGreat
set_option linter.unusedVariables false
set_option linter.unusedSimpArgs false
open Go.RowKit

/-- a code's value at a place -/
def vC (c : List (OpD × Int)) (i : Int) : UInt64 := (c[i.toNat]?.map (·.1.v)).getD 0
/-- a step back -/
def Tk.back (c : List (OpD × Int)) (x : Tk) : Int × List UInt64 :=
  if x.op.kind = 0 then ((x.at' : Int) - 1, x.st ++ [vC c (x.to - 1)])
  else if x.op.kind = 7 then (if 1 < (x.st.getLast?.getD 0).toNat then (x.to - 2, x.st.dropLast ++ [x.st.getLast?.getD 0 - 1]) else ((x.at' : Int) - 1, x.st.dropLast))
  else ((x.at' : Int) - 1, x.st)
def ChnB (c : List (OpD × Int)) : Int × List UInt64 → List Tk → Int × List UInt64 → Prop
  | s, [], e => s = e
  | s, x :: r, e => s = ((x.at' : Int), x.st) ∧ c[x.at']? = some (x.op, x.to) ∧ ChnB c (x.back c) r e
theorem ChnB.append {c : List (OpD × Int)} {s m e : Int × List UInt64} {a b : List Tk} (h1 : ChnB c s a m) (h2 : ChnB c m b e) : ChnB c s (a ++ b) e := by
  induction a generalizing s with
  | nil => obtain rfl : s = m := h1; exact h2
  | cons x r ih => exact ⟨h1.1, h1.2.1, ih h1.2.2⟩
def trRB (b : List UInt64 → List Tk) (o : Nat) (op : OpD) (to : Int) (st : List UInt64) : Nat → List Tk
  | 0 => []
  | k + 1 => b (st ++ [UInt64.ofNat (k + 1)]) ++ ⟨o, st ++ [UInt64.ofNat (k + 1)], op, to⟩ :: trRB b o op to st k
def Fo.trB : Nat → Fo → List UInt64 → List Tk
  | _, .nil, _ => []
  | o, .leaf op r, st => trB (o + 1) r st ++ [⟨o, st, op, 0⟩]
  | o, .rep op b fin r, st => trB (o + b.size + 2) r st ++ ⟨o + b.size + 1, st, fin, ((o + 1 : Nat) : Int)⟩ :: trRB (trB (o + 1) b) o op ((o + b.size + 2 : Nat) : Int) st op.v.toNat
theorem trRB_chn {c : List (OpD × Int)} {b : List UInt64 → List Tk} {o e : Nat} {op : OpD} {to : Int} {st : List UInt64} (h0 : op.kind = 7) (hc : c[o]? = some (op, to)) (hto : to - 2 = (e : Int))
    (hb : ∀ s, ChnB c ((e : Int), s) (b s) ((o : Int), s)) : ∀ k : Nat, 1 ≤ k → k < 18446744073709551616 → ChnB c ((e : Int), st ++ [UInt64.ofNat k]) (trRB b o op to st k) ((o : Int) - 1, st) := by
  intro k
  induction k with
  | zero => intro h; omega
  | succ k ih =>
    intro _ hk
    unfold trRB
    refine ChnB.append (hb _) ⟨rfl, hc, ?_⟩
    have hl : (st ++ [UInt64.ofNat (k + 1)]).getLast?.getD 0 = UInt64.ofNat (k + 1) := by simp
    have hn : (UInt64.ofNat (k + 1)).toNat = k + 1 := toNat_ofNat' hk
    by_cases h1 : k = 0
    · subst h1
      show Tk.back _ _ = _
      unfold Tk.back
      rw [if_neg (by simp [h0]), if_pos h0]
      simp only [hl, hn]
      rw [if_neg (by omega)]
      simp
    · have : Tk.back c ⟨o, st ++ [UInt64.ofNat (k + 1)], op, to⟩ = ((e : Int), st ++ [UInt64.ofNat k]) := by
        unfold Tk.back
        rw [if_neg (by simp [h0]), if_pos h0]
        simp only [hl, hn]
        rw [if_pos (by omega), hto]
        have e2 : UInt64.ofNat (k + 1) - 1 = UInt64.ofNat k := by
          rw [show UInt64.ofNat (k + 1) = UInt64.ofNat k + 1 by simp [UInt64.ofNat_add]]
          simp
        rw [e2]
        simp
      rw [this]
      exact ih (by omega) (by omega)
theorem Fo.trB_chn (f : Fo) (hf : f.ok) (hv : f.full) : ∀ (c pre post : List (OpD × Int)) (o : Nat) (st : List UInt64), c = pre ++ f.code o ++ post → pre.length = o → ChnB c ((o : Int) + f.size - 1, st) (f.trB o st) ((o : Int) - 1, st) := by
  induction f with
  | nil => intro c pre post o st _ _; show ((o : Int) + ((0 : Nat) : Int) - 1, st) = ((o : Int) - 1, st); simp
  | leaf op r ih =>
    intro c pre post o st hc hp
    obtain ⟨h1, h2, h3⟩ := hf
    have hat : c[o]? = some (op, 0) := by subst hp; rw [hc]; simp [code]
    have i1 := ih h3 hv c (pre ++ [(op, 0)]) post (o + 1) st (by rw [hc]; simp [code]) (by simp [hp])
    rw [Fo.size_leaf]
    rw [show (((o + 1 : Nat) : Int) + r.size - 1) = ((o : Int) + ((r.size + 1 : Nat) : Int) - 1) by omega] at i1
    refine ChnB.append i1 ⟨by simp, hat, ?_⟩
    show Tk.back c ⟨o, st, op, 0⟩ = _
    unfold Tk.back
    rw [if_neg (by simp only; omega), if_neg (by simp only; omega)]
  | rep op b fin r ihb ihr =>
    intro c pre post o st hc hp
    obtain ⟨h1, h2, h3, h4⟩ := hf
    obtain ⟨v1, v2, v3, v4⟩ := hv
    have hato : c[o]? = some (op, ((o + b.size + 2 : Nat) : Int)) := by subst hp; rw [hc]; simp [code]
    have hce : c = (pre ++ (op, ((o + b.size + 2 : Nat) : Int)) :: b.code (o + 1)) ++ (fin, ((o + 1 : Nat) : Int)) :: (r.code (o + b.size + 2) ++ post) := by rw [hc]; simp [code]
    have hat : c[o + b.size + 1]? = some (fin, ((o + 1 : Nat) : Int)) := by
      rw [hce, List.getElem?_append_right (by simp [code_length] <;> omega)]
      simp only [List.length_append, List.length_cons, code_length]
      rw [show o + b.size + 1 - (pre.length + (b.size + 1)) = 0 by omega]
      rfl
    have i1 := ihr h4 v4 c (pre ++ (op, ((o + b.size + 2 : Nat) : Int)) :: (b.code (o + 1) ++ [(fin, ((o + 1 : Nat) : Int))])) post (o + b.size + 2) st (by rw [hce]; simp) (by simp [code_length, hp] <;> omega)
    rw [Fo.size_rep]
    rw [show (((o + b.size + 2 : Nat) : Int) + r.size - 1) = ((o : Int) + ((b.size + r.size + 2 : Nat) : Int) - 1) by omega] at i1
    refine ChnB.append i1 ⟨by simp <;> omega, hat, ?_⟩
    have hn : Tk.back c ⟨o + b.size + 1, st, fin, ((o + 1 : Nat) : Int)⟩ = (((o + b.size : Nat) : Int), st ++ [UInt64.ofNat op.v.toNat]) := by
      unfold Tk.back
      rw [if_pos h3]
      have e : vC c (((o + 1 : Nat) : Int) - 1) = op.v := by
        unfold vC
        rw [show (((o + 1 : Nat) : Int) - 1).toNat = o by omega, hato]
        rfl
      simp only [e, ofNat_toNat']
      congr 1
      omega
    rw [hn]
    refine trRB_chn (e := o + b.size) h1 hato (by omega) (fun s => ?_) op.v.toNat v1 op.v.toNat_lt
    have := ihb h2 v3 c (pre ++ [(op, ((o + b.size + 2 : Nat) : Int))]) ((fin, ((o + 1 : Nat) : Int)) :: (r.code (o + b.size + 2) ++ post)) (o + 1) s (by rw [hce]; simp) (by simp [hp])
    rwa [show (((o + 1 : Nat) : Int) + b.size - 1) = ((o + b.size : Nat) : Int) by omega, show (((o + 1 : Nat) : Int) - 1) = (o : Int) by omega] at this

theorem trRB_wrs {b : List UInt64 → List Tk} {g : List OpD} {o : Nat} {op : OpD} {to : Int} {st : List UInt64} (h7 : op.kind = 7) (h : ∀ s, wrs ((b s).map (·.op)) = g) : ∀ k, wrs ((trRB b o op to st k).map (·.op)) = (List.replicate k g).flatten := by
  intro k
  induction k with
  | zero => rfl
  | succ k ih =>
    have e2 : ∀ l, wrs (op :: l) = wrs l := fun l => by simp [wrs, h7]
    simp only [trRB, List.map_append, List.map_cons, wrs_append, h, e2, ih, List.replicate_succ, List.flatten_cons]
theorem rep_rev (n : Nat) (l : List OpD) : (List.replicate n l).flatten.reverse = (List.replicate n l.reverse).flatten := by
  induction n with
  | zero => rfl
  | succ n ih =>
    rw [List.replicate_succ, List.flatten_cons, List.reverse_append, ih]
    have : ∀ m : Nat, (List.replicate m l.reverse).flatten ++ l.reverse = (List.replicate (m + 1) l.reverse).flatten := by
      intro m
      rw [List.replicate_succ']
      simp
    exact this n
theorem Fo.trB_wrs (f : Fo) (hf : f.ok) : ∀ (o : Nat) (st : List UInt64), wrs ((f.trB o st).map (·.op)) = f.unroll.reverse := by
  induction f with
  | nil => intro o st; rfl
  | leaf op r ih =>
    intro o st
    obtain ⟨h1, h2, h3⟩ := hf
    simp only [trB, unroll, List.map_append, wrs_append, ih h3, List.reverse_cons, List.map_cons, List.map_nil]
    congr 1
    unfold wrs
    rw [List.filter_cons, if_pos (by simp <;> omega)]
    rfl
  | rep op b fin r ihb ihr =>
    intro o st
    obtain ⟨h1, h2, h3, h4⟩ := hf
    have e2 : ∀ l, wrs (fin :: l) = wrs l := fun l => by simp [wrs, h3]
    simp only [trB, unroll, List.map_append, List.map_cons, wrs_append, ihr h4, e2, List.reverse_append]
    rw [trRB_wrs h1 (fun s => ihb h2 _ s), rep_rev]
theorem trRB_depth {b : List UInt64 → List Tk} {o : Nat} {op : OpD} {to : Int} {st : List UInt64} {P : Tk → Prop} (hb : ∀ k : Nat, ∀ x ∈ b (st ++ [UInt64.ofNat (k + 1)]), P x) (he : ∀ k : Nat, P ⟨o, st ++ [UInt64.ofNat (k + 1)], op, to⟩) : ∀ k, ∀ x ∈ trRB b o op to st k, P x := by
  intro k
  induction k with
  | zero => intro x hx; cases hx
  | succ k ih =>
    intro x hx
    unfold trRB at hx
    rcases List.mem_append.1 hx with hx | hx
    · exact hb k x hx
    · rcases List.mem_cons.1 hx with rfl | hx
      · exact he k
      · exact ih x hx
/-- What each step back is like. -/
def TkB (n D : Nat) (ops : List OpD) (x : Tk) : Prop := x.at' < n ∧ x.st.length ≤ D ∧ (x.op.kind = 0 → x.st.length < D ∧ 1 ≤ x.to ∧ x.to ≤ (n : Int)) ∧ (x.op.kind = 7 → x.st ≠ [] ∧ 2 ≤ x.to ∧ x.to ≤ (n : Int)) ∧ x.op ∈ ops ∧ 0 ≤ x.op.kind ∧ x.op.kind ≤ 7
theorem TkB.mono {n m D : Nat} {a b : List OpD} {x : Tk} (h : TkB n D a x) (hn : n ≤ m) (hs : ∀ y ∈ a, y ∈ b) : TkB m D b x :=
  ⟨by have := h.1; omega, h.2.1, fun hk => by have := h.2.2.1 hk; omega, fun hk => ⟨(h.2.2.2.1 hk).1, by have := h.2.2.2.1 hk; omega⟩, hs _ h.2.2.2.2.1, h.2.2.2.2.2⟩
theorem Fo.trB_tk (f : Fo) (hf : f.ok) : ∀ (o D : Nat) (st : List UInt64), st.length + f.dp ≤ D → ∀ x ∈ f.trB o st, TkB (o + f.size) D f.flat x := by
  induction f with
  | nil => intro o D st _ x hx; cases hx
  | leaf op r ih =>
    intro o D st hD x hx
    obtain ⟨h1, h2, h3⟩ := hf
    rcases List.mem_append.1 hx with hx | hx
    · exact (ih h3 (o + 1) D st hD x hx).mono (by rw [Fo.size_leaf]; omega) (fun y hy => by simp [flat, hy])
    · simp only [List.mem_singleton] at hx
      subst hx
      exact ⟨by rw [Fo.size_leaf]; simp <;> omega, by simp only [dp] at hD; simp <;> omega, fun h => by simp at h; omega, fun h => by simp at h; omega, by simp [flat], by simp <;> omega, by simp <;> omega⟩
  | rep op b fin r ihb ihr =>
    intro o D st hD x hx
    obtain ⟨h1, h2, h3, h4⟩ := hf
    simp only [dp] at hD
    rcases List.mem_append.1 hx with hx | hx
    · exact (ihr h4 (o + b.size + 2) D st (by omega) x hx).mono (by rw [Fo.size_rep]; omega) (fun y hy => by simp [flat, hy])
    · rcases List.mem_cons.1 hx with rfl | hx
      · exact ⟨by rw [Fo.size_rep]; simp <;> omega, by simp <;> omega, fun h => ⟨by simp <;> omega, by simp <;> omega, by rw [Fo.size_rep]; simp <;> omega⟩, fun h => by simp [h3] at h, by simp [flat], by simp [h3], by simp [h3]⟩
      · refine trRB_depth (P := TkB (o + (Fo.rep op b fin r).size) D (Fo.rep op b fin r).flat) (fun k y hy => ?_) (fun k => ?_) _ x hx
        · exact (ihb h2 (o + 1) D _ (by simp <;> omega) y hy).mono (by rw [Fo.size_rep]; omega) (fun y hy => by simp [flat, hy])
        · exact ⟨by rw [Fo.size_rep]; simp <;> omega, by simp <;> omega, fun h => by simp [h1] at h, fun h => ⟨by simp, by simp <;> omega, by rw [Fo.size_rep]; simp <;> omega⟩, by simp [flat], by simp [h1], by simp [h1]⟩
end Go.Proofs.YtmmepffdjmpblaaGreat
