/- Plain facts on how code is laid, operation by operation. No program is named here. -/
import Derived.Test.YtoklehndfncmnaaR9b
namespace Go.Proofs.Ytoklehndfncmnaa
set_option linter.unusedVariables false
set_option linter.unusedSimpArgs false
open Go.RowKit

instance : Flat (OpD × Int) := ⟨6, fun x => [.int .i64 x.1.kind, .int .i64 x.1.d, .int .i64 x.1.a, .int .i64 x.1.b, .int .u64 (x.1.v.toNat : Int), .int .i64 x.2], fun _ => rfl,
  fun x u hu => by simp at hu; rcases hu with rfl | rfl | rfl | rfl | rfl | rfl <;> rfl, by decide⟩

/-- an open block: where its code begins, what follows it -/
structure Cf where
  bg : Nat
  op : OpD
  fin : OpD
  r : Fo
def opn (st : List Cf) : List Int := (st.map fun x => (x.bg : Int)).reverse
def CdK (l : List OpD) (m : List Int) (R : List (OpD × Int)) : Nat → List (OpD × Int) → List Cf → Prop
  | j, X, [] => j = l.length ∧ R = X
  | j, X, s :: st => l[j]? = some s.fin ∧ s.fin.kind = 0 ∧ X[s.bg]? = some (s.op, 0) ∧ Stands l m (j + 1) s.r ∧
      CdK l m R (j + 1 + s.r.size) (X.set s.bg (s.op, ((X.length + 1 : Nat) : Int)) ++ (s.fin, ((s.bg + 1 : Nat) : Int)) :: s.r.bare.code (X.length + 1)) st
/-- How far code is laid: what is to come at place `i` is `g`, then what the open blocks tell. -/
def CdOk (l : List OpD) (m : List Int) (R : List (OpD × Int)) (i : Nat) (out : List (OpD × Int)) (g : Fo) (st : List Cf) : Prop :=
  Stands l m i g ∧ CdK l m R (i + g.size) (out ++ g.bare.code out.length) st
section
variable {l : List OpD} {m : List Int} {R out : List (OpD × Int)} {i : Nat} {st : List Cf}
theorem CdOk.start {f : Fo} (hf : f.ok) : CdOk f.flat (matchL f.flat) (f.bare.code 0) 0 [] f [] :=
  ⟨Stands.whole hf, by simp [Fo.size], by simp⟩
theorem CdOk.done (h : CdOk l m R i out .nil []) : i = l.length ∧ R = out := by
  obtain ⟨_, h1, h2⟩ := h
  exact ⟨by simpa [Fo.size, Fo.flat] using h1, by simpa [Fo.bare, Fo.code] using h2⟩
theorem CdOk.leaf {op : OpD} {r : Fo} (h : CdOk l m R i out (.leaf op r) st) : l[i]? = some op ∧ 1 ≤ op.kind ∧ op.kind ≤ 6 ∧ CdOk l m R (i + 1) (out ++ [(op, 0)]) r st := by
  obtain ⟨hs, hk⟩ := h
  obtain ⟨e1, k1, k2, e2, hr⟩ := hs.leaf
  refine ⟨e1, k1, k2, hr, ?_⟩
  have e : i + 1 + r.size = i + (Fo.leaf op r).size := by rw [Fo.size_leaf]; omega
  rw [e]
  simpa [Fo.bare, Fo.code] using hk
theorem CdOk.skip {op fin : OpD} {b r : Fo} (h : CdOk l m R i out (.rep op b fin r) st) (h0 : b.wr * op.v.toNat = 0) : CdOk l m R (i + b.size + 2) out r st := by
  obtain ⟨hs, hk⟩ := h
  refine ⟨hs.rep.2.2.2.2.2.2.2, ?_⟩
  have e : i + b.size + 2 + r.size = i + (Fo.rep op b fin r).size := by rw [Fo.size_rep]; omega
  have e2 : (Fo.rep op b fin r).bare = r.bare := by rw [Fo.bare, if_pos h0]
  rw [e]
  rwa [e2] at hk
theorem CdOk.open_ {op fin : OpD} {b r : Fo} (h : CdOk l m R i out (.rep op b fin r) st) (h0 : b.wr * op.v.toNat ≠ 0) : CdOk l m R (i + 1) (out ++ [(op, 0)]) b (⟨out.length, op, fin, r⟩ :: st) := by
  obtain ⟨hs, hk⟩ := h
  obtain ⟨e1, k7, e3, e4, k0, e6, hb, hr⟩ := hs.rep
  have e2 : (Fo.rep op b fin r).bare = .rep op b.bare fin r.bare := by rw [Fo.bare, if_neg h0]
  rw [e2] at hk
  have hlen : (out ++ [(op, (0 : Int))]).length = out.length + 1 := by simp
  refine ⟨hb, by rw [show i + 1 + b.size = i + b.size + 1 by omega]; exact e4, k0, ?_, by rw [show i + 1 + b.size + 1 = i + b.size + 2 by omega]; exact hr, ?_⟩
  · simp
  · have e : i + 1 + b.size + 1 + r.size = i + (Fo.rep op b fin r).size := by rw [Fo.size_rep]; omega
    simp only
    rw [e]
    have hx : (out ++ [(op, (0 : Int))] ++ b.bare.code (out.length + 1)).length = out.length + 1 + b.bare.size := by simp [Fo.code_length]; omega
    rw [hlen, hx]
    have hset : (out ++ [(op, (0 : Int))] ++ b.bare.code (out.length + 1)).set out.length (op, ((out.length + 1 + b.bare.size + 1 : Nat) : Int)) = out ++ (op, ((out.length + 1 + b.bare.size + 1 : Nat) : Int)) :: b.bare.code (out.length + 1) := by simp
    rw [hset]
    have e5 : out.length + 1 + b.bare.size + 1 = out.length + b.bare.size + 2 := by omega
    rw [e5]
    simpa [Fo.code] using hk
theorem CdOk.end_ {s : Cf} (h : CdOk l m R i out .nil (s :: st)) : l[i]? = some s.fin ∧ s.fin.kind = 0 ∧ out[s.bg]? = some (s.op, 0) ∧ CdOk l m R (i + 1) (out.set s.bg (s.op, ((out.length + 1 : Nat) : Int)) ++ [(s.fin, ((s.bg + 1 : Nat) : Int))]) s.r st := by
  obtain ⟨hs, h1, h2, h3, h4, h5⟩ := h
  simp only [Fo.size, Fo.flat, Fo.bare, Fo.code, List.length_nil, Nat.add_zero, List.append_nil] at h1 h3 h4 h5
  refine ⟨h1, h2, h3, h4, ?_⟩
  have e : (out.set s.bg (s.op, ((out.length + 1 : Nat) : Int)) ++ [(s.fin, ((s.bg + 1 : Nat) : Int))]).length = out.length + 1 := by simp
  rw [e]
  simpa [Fo.size] using h5
theorem CdOk.last {g : Fo} (h : CdOk l m R i out g st) : i ≤ l.length ∧ (i = l.length → g = .nil ∧ st = []) := by
  have hl := h.1.lt.1
  refine ⟨by omega, fun e => ?_⟩
  cases g with
  | leaf op r => rw [Fo.size_leaf] at hl; omega
  | rep op b fin r => rw [Fo.size_rep] at hl; omega
  | nil =>
    refine ⟨rfl, ?_⟩
    cases st with
    | nil => rfl
    | cons s st => have := (List.getElem?_eq_some_iff.1 h.end_.1).1; omega
end
theorem opn_cons (s : Cf) (st : List Cf) : opn (s :: st) = opn st ++ [(s.bg : Int)] := by simp [opn]
theorem opn_length (st : List Cf) : (opn st).length = st.length := by simp [opn]
end Go.Proofs.Ytoklehndfncmnaa
