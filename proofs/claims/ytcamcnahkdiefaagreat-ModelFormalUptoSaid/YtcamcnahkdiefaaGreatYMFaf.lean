/- Several texts of mine in one file. -/
import Derived.ScopeJumps
import Derived.Scope
import Derived.WalkMore
import Derived.Deep.AppendLies
import Derived.Deep.RegionHeld3
import Derived.Test.YtcamcnahkdiefaaGreatYMFae
import Derived.Test.YtcamcnahkdiefaaGreatYMFad
import Derived.Test.YtcamcnahkdiefaaGreatYMFaa
import Derived.Laws.CopyOwn
import Derived.Deep.DeepMust
import Derived.Test.YtcamcnahkdiefaaGreatYMFac
import Derived.Lib.AppendZeros
import Derived.IntWalk
import Derived.StillTailTactics
import Derived.RegionTactic
import Derived.BigRegion
import Derived.Deep.OwnRows
import Derived.Laws.ResultCell
import Derived.Laws.Rows
import Derived.Deep.RegionLaw
/- Several texts of mine in one file: E13, E13b, E13c, E13d. -/
/- Chapter 13: the machine that runs. -/
namespace Go.Proofs.YtcamcnahkdiefaaGreat
set_option linter.unusedVariables false
set_option linter.unusedSimpArgs false
open Go.RowKit

def uptoL (U : List OpD) (m : Int) : List OpD := if m < 0 then U else U.take m.toNat
def LeftAt (w : World) (b : Nat) (st : List UInt64) : Prop := ∃ cs : Array Value, Blk w b 190 cs ∧ cs.size = 8 ∧ ∀ (i : Nat) (v : UInt64), st[i]? = some v → cs[i]? = some (.int .u64 (v.toNat : Int))
theorem LeftAt.cell {w : World} {b : Nat} {st : List UInt64} (h : LeftAt w b st) {i : Nat} {v : UInt64} (hv : st[i]? = some v) : w.cell? ⟨b, i, none⟩ = some (.int .u64 (v.toNat : Int)) := by
  obtain ⟨cs, h1, h2, h3⟩ := h
  exact h1.cell_ (h3 i v hv)
theorem LeftAt.push {w : World} {b : Nat} {st : List UInt64} (h : LeftAt w b st) (hs : st.length < 8) (v : UInt64) : LeftAt (w.setCell ⟨b, st.length, none⟩ (.int .u64 (v.toNat : Int))) b (st ++ [v]) := by
  obtain ⟨cs, h1, h2, h3⟩ := h
  refine ⟨_, h1.set_ st.length _, by simp [h2], fun i u hu => ?_⟩
  rw [Array.getElem?_setIfInBounds]
  by_cases hi : st.length = i
  · subst hi
    simp at hu
    subst hu
    rw [if_pos rfl, if_pos (by omega)]
  · rw [if_neg hi]
    refine h3 i u ?_
    rw [List.getElem?_append] at hu
    split at hu
    · exact hu
    · have := (List.getElem?_eq_some_iff.1 hu).1; simp at this; omega
theorem LeftAt.pop {w : World} {b : Nat} {st : List UInt64} {v : UInt64} (h : LeftAt w b (st ++ [v])) : LeftAt w b st := by
  obtain ⟨cs, h1, h2, h3⟩ := h
  exact ⟨cs, h1, h2, fun i x hx => h3 i x (by rw [List.getElem?_append_left (List.getElem?_eq_some_iff.1 hx).1]; exact hx)⟩
theorem LeftAt.turned {F : List Nat} {w w' : World} {b : Nat} {st : List UInt64} (h : LeftAt w b st) (hT : Turned F w w') (hb : b ∉ F) : LeftAt w' b st := by
  obtain ⟨cs, h1, h2, h3⟩ := h
  exact ⟨cs, (hT.block b h1.lt hb).trans h1, h2, h3⟩
theorem LeftAt.far {w : World} {b : Nat} {st : List UInt64} (h : LeftAt w b st) {p : Addr} (hp : b ≠ p.block) (u : Value) : LeftAt (w.setCell p u) b st := by
  obtain ⟨cs, h1, h2, h3⟩ := h
  exact ⟨cs, h1.far hp u, h2, h3⟩
theorem LeftAt.lt {w : World} {b : Nat} {st : List UInt64} (h : LeftAt w b st) : b < w.heap.size := by
  obtain ⟨cs, h1, h2, h3⟩ := h
  exact h1.lt
theorem Good.tk_in {regs : Int} {f : Fo} (g : Good regs f) : ∀ x ∈ f.steps, 1 ≤ x.op.kind → x.op.kind ≤ 6 → InR regs x.op := fun x hx h1 h2 => g.inF x.op (f.bare_mem _ (g.tk x hx).2.2.2.2.1) h1 h2
theorem wrs_snoc' (l : List OpD) (x : OpD) : wrs (l ++ [x]) = if x.kind ≠ 7 ∧ x.kind ≠ 0 then wrs l ++ [x] else wrs l := by
  rw [wrs_append]
  by_cases h : x.kind ≠ 7 ∧ x.kind ≠ 0
  · rw [if_pos h]; unfold wrs; rw [List.filter_cons, if_pos (by simp [h.1, h.2])]; rfl
  · rw [if_neg h]; have : wrs [x] = [] := by unfold wrs; rw [List.filter_cons, if_neg (by simp; intro h1; exact Classical.byContradiction fun h2 => h ⟨h1, h2⟩)]; rfl
    rw [this, List.append_nil]

section
variable {P : Program} {a : Act} {w : World} {Q : Exit → Act → World → Prop}
end

theorem below2 (W : World) (o1 o2 : Obj) : Below W.heap.size W ((W.alloc o1).alloc o2) := Below.alloc (Below.alloc (Below.refl _ _) (Nat.le_refl _) _) (by simp) _
def ExJ (code : List (OpD × Int)) (steps : List Tk) (S : Nat → World → Prop) (G0 : List Nat) (ac : Option Addr) (cc gr nr cr B Bl : Nat) (most : Int) (see : Value) (r0 : List UInt64) (W : World) (N : Nat) (a' : Act) (wr : World) : Prop :=
  ∃ (pre rest : List Tk) (p d k : Nat) (st : List UInt64), a'.defers = [] ∧ a'.tmps.size = 80 ∧
    a'.tmps.getD 0 undef = .slice ac code.length cc ∧ a'.tmps.getD 1 undef = .slice (some ⟨gr, 0, none⟩) nr cr ∧ a'.tmps.getD 2 undef = .int .i64 most ∧ a'.tmps.getD 3 undef = see ∧ a'.tmps.getD 8 undef = .pointer (some ⟨Bl, 0, none⟩) ∧
    a'.tmps.getD 9 undef = .int .i64 (p : Int) ∧ a'.tmps.getD 10 undef = .int .i64 (k : Int) ∧ a'.tmps.getD 11 undef = .int .i64 (d : Int) ∧
    rest.length = N ∧ p ≤ code.length ∧ k = st.length ∧ k ≤ 8 ∧ Chn code (p, st) rest (code.length, []) ∧ steps = pre ++ rest ∧ d = (wrs (pre.map (·.op))).length ∧ d ≤ 1200000 ∧ (most < 0 ∨ (d : Int) ≤ most) ∧
    LeftAt wr Bl st ∧ Own wr B 50 (some ⟨gr, 0, none⟩) cr (runR (wrs (pre.map (·.op))) r0) ∧ S d wr ∧ Turned (gr :: G0) W wr
theorem ExJ.measure {J : Nat → Act → World → Prop} {N : Nat} {a a' : Act} {w w' : World} (hN : N + 1 = leastOf (fun N => J N a w)) (h : J N a' w') : leastOf (fun N => J N a' w') < leastOf (fun N => J N a w) := by
  have := (leastOf_spec (p := fun N => J N a' w') ⟨N, h⟩).2 N h
  omega

end Go.Proofs.YtcamcnahkdiefaaGreat

/- Chapter 13: begin, Run, Upto, Last. -/
namespace Go.Proofs.YtcamcnahkdiefaaGreat
set_option linter.unusedVariables false
set_option linter.unusedSimpArgs false
open Go.RowKit

def dimsS (regs : Int) (l : List OpD) (n : Nat) : Int := if checkS regs l ≠ 0 then checkS regs l else if regs < (n : Int) then 10 else 0
noncomputable def uptoS (regs : Int) (l : List OpD) (r : List UInt64) (m : Int) : List UInt64 := if dimsS regs l r.length = 0 then runR (uptoL (unrS regs l) m) (startR regs.toNat r) else []
theorem enc_map (l : List UInt64) : l.flatMap Flat.enc = l.map fun x => Value.int .u64 (x.toNat : Int) := by
  induction l with
  | nil => rfl
  | cons x r ih => rw [List.flatMap_cons, ih]; rfl
end Go.Proofs.YtcamcnahkdiefaaGreat

/- Chapter 13: Run, Upto, Last. -/
namespace Go.Proofs.YtcamcnahkdiefaaGreat
set_option linter.unusedVariables false
set_option linter.unusedSimpArgs false
open Go.RowKit

theorem below_turned {F : List Nat} {w w1 w' : World} {B : Nat} (hb : Below B w w1) (hT : Turned F w1 w') (hF : ∀ b ∈ F, B ≤ b) (hB : B ≤ w1.heap.size) : Below B w w' :=
  hb.trans ⟨hT.os, hT.tape, hT.output, hT.size, fun k hk => hT.block k (by omega) (fun hm => by have := hF k hm; omega)⟩

end Go.Proofs.YtcamcnahkdiefaaGreat

/- Chapter 13: Last. -/
namespace Go.Proofs.YtcamcnahkdiefaaGreat
set_option linter.unusedVariables false
set_option linter.unusedSimpArgs false
open Go.RowKit

end Go.Proofs.YtcamcnahkdiefaaGreat

/- Several texts of mine in one file: R12a, R12b, Ur. -/
/- Chapter 12, the document's answers: bare operations, Code. -/
namespace Go.Proofs.YtcamcnahkdiefaaGreat
set_option linter.unusedVariables false
set_option linter.unusedSimpArgs false
open Go.RowKit

/-! ### Code -/
end Go.Proofs.YtcamcnahkdiefaaGreat

/- Chapter 12, the document's answers: Laid, Unroll, Steps. -/
namespace Go.Proofs.YtcamcnahkdiefaaGreat
set_option linter.unusedVariables false
set_option linter.unusedSimpArgs false
open Go.RowKit

section
variable {a am : Option Addr} {c cm : Nat} {l : List OpD} {m : List Int}
end

theorem Good.unroll_le {regs : Int} {f : Fo} (g : Good regs f) : f.unroll.length ≤ 65536 := by rw [Fo.unroll_length]; exact g.few

end Go.Proofs.YtcamcnahkdiefaaGreat

/- Contracts of chapter 12 with their results named; how long they are. -/
namespace Go.Proofs.YtcamcnahkdiefaaGreat
set_option linter.unusedVariables false
set_option linter.unusedSimpArgs false
open Go.RowKit

theorem good_of_lit {regs : Int} {f : Fo} (hf : f.ok) (h : checkS regs f.flat = 0) : Good regs f := by
  obtain ⟨f', e, g⟩ := good_of_check h
  have := Fo.flat_eq hf g.ok e
  subst this
  exact g

theorem UnrollR (regs : Int) (a : Option Addr) (c : Nat) (l : List OpD) (w : World) (R : List OpD) (E : Int) (hR : unrS regs l = R) (hE : checkS regs l = E) (h : At w a l) (hl : l.length ≤ 1000000) :
    Calls Tryz.prog 17 #[.agg #[.int .i64 regs, .slice a l.length c]] w fun e w' => ∃ a' c', e = .returned (.tuple #[.slice a' R.length c', .int .i64 E]) ∧ Own w' w.heap.size 89 a' c' R ∧ Below w.heap.size w w' := by
  subst hR hE; exact Unroll_calls regs a c l w h hl
end Go.Proofs.YtcamcnahkdiefaaGreat

/- Several texts of mine in one file: C23a, Ch, C23b, C23c, C23d. -/
/- Chapter 10: Pair and Dims, the program's and the document's. -/
namespace Go.Proofs.YtcamcnahkdiefaaGreat
set_option linter.unusedVariables false
set_option linter.unusedSimpArgs false
open Go.RowKit
def pairS (p q : PrD) : Int := firstS [p, q]
theorem firstL_pair (p q : PrD) : ∀ ks : List Nat, firstL [p, q] ks = 0 → firstL [p] ks = 0 ∧ firstL [q] ks = 0 := by
  intro ks
  induction ks with
  | nil => intro _; exact ⟨rfl, rfl⟩
  | cons k ks ih =>
    intro h
    simp only [firstL, rowE] at h ⊢
    by_cases h1 : errI k p = 0
    · by_cases h2 : errI k q = 0
      · simp only [h1, h2, ne_eq, not_true_eq_false, if_false] at h ⊢; exact ih h
      · simp only [h1, ne_eq, not_true_eq_false, if_false, h2, not_false_eq_true, if_true] at h
    · simp only [ne_eq, h1, not_false_eq_true, if_true] at h
theorem pairS_ok {p q : PrD} (h : pairS p q = 0) : checkS p.regs p.l = 0 ∧ checkS q.regs q.l = 0 := by
  obtain ⟨h1, h2⟩ := firstL_pair p q _ h
  exact ⟨(firstS_one p).symm.trans h1, (firstS_one q).symm.trans h2⟩
def dimsC (r1 r2 x t : Int) : Int := if (x < 1 ∨ 64 < x ∨ t < 0 ∨ 64 < t) ∨ r1 < x + t + 1 ∨ r2 < x + t then 10 else 0
theorem Pair_calls (p q : PrD) (w : World) (h : At w p.a p.l) (hl : p.l.length ≤ 1000000) (h' : At w q.a q.l) (hl' : q.l.length ≤ 1000000) (E : Int) (hE : pairS p q = E) :
    Calls Tryz.prog 75 #[.agg #[.int .i64 p.regs, .slice p.a p.l.length p.c], .agg #[.int .i64 q.regs, .slice q.a q.l.length q.c]] w fun e w' => e = .returned (.int .i64 E) ∧ Below w.heap.size w w' := by
  obtain ⟨w0, hw0⟩ : ∃ w0, w0 = (w.alloc (.cells #[.int .i64 p.regs, .slice p.a p.l.length p.c] 24)).alloc (.cells #[.int .i64 q.regs, .slice q.a q.l.length q.c] 24) := ⟨_, rfl⟩
  have hb0 : Below w.heap.size w w0 := by rw [hw0]; exact ((below_new _ _).alloc (by simp) _)
  have hb : Below w.heap.size w (w0.alloc (.cells #[.int .i64 p.regs, .slice p.a p.l.length p.c, .int .i64 q.regs, .slice q.a q.l.length q.c] 200)) := hb0.alloc hb0.size _
  have hat : At (w0.alloc (.cells #[.int .i64 p.regs, .slice p.a p.l.length p.c, .int .i64 q.regs, .slice q.a q.l.length q.c] 200)) (some ⟨w0.heap.size, 0, none⟩) [p, q] :=
    At.ofBlk (g := w0.heap.size) (T := 200) (Blk.new w0 200 #[.int .i64 p.regs, .slice p.a p.l.length p.c, .int .i64 q.regs, .slice q.a q.l.length q.c]) ([p, q] : List PrD) rfl
  have hg : w0.heap.size = w.heap.size + 1 + 1 := by rw [hw0]; simp
  have HF : Calls Tryz.prog 123 #[.slice (some ⟨w0.heap.size, 0, none⟩) 2 2] (w0.alloc (.cells #[.int .i64 p.regs, .slice p.a p.l.length p.c, .int .i64 q.regs, .slice q.a q.l.length q.c] 200)) fun e w' => e = .returned (.int .i64 (firstS [p, q])) ∧ Below (w0.alloc (.cells #[.int .i64 p.regs, .slice p.a p.l.length p.c, .int .i64 q.regs, .slice q.a q.l.length q.c] 200)).heap.size (w0.alloc (.cells #[.int .i64 p.regs, .slice p.a p.l.length p.c, .int .i64 q.regs, .slice q.a q.l.length q.c] 200)) w' :=
    first_calls (some ⟨w0.heap.size, 0, none⟩) 2 [p, q] _ hat (by simp) (fun r hr => by
      simp at hr
      rcases hr with rfl | rfl
      · exact ⟨h.belowN hb, hl⟩
      · exact ⟨h'.belowN hb, hl'⟩)
  have e : firstS [p, q] = E := hE
  rw [e, hg] at HF
  rw [hw0] at HF hb
  have HF := hide HF
  clear e hE hat hb0 hw0 hg
  go_enter Tryz.func75, Tryz.ntmps75
  go_wp2_with (go_at_call 123; go_must ((with_reducible refine (HF.out).mono ?_); rintro e w1 ⟨rfl, hb1⟩))
  go_ret
  exact ⟨rfl, hb.trans (hb1.mono hb.size)⟩
theorem Dims_calls (p q : PrD) (x t : Int) (hx : -9223372036854775808 ≤ x ∧ x ≤ 9223372036854775807) (ht : -9223372036854775808 ≤ t ∧ t ≤ 9223372036854775807) (w : World) :
    Calls Tryz.prog 76 #[.agg #[.int .i64 p.regs, .slice p.a p.l.length p.c], .agg #[.int .i64 q.regs, .slice q.a q.l.length q.c], .int .i64 x, .int .i64 t] w fun e w' => e = .returned (.int .i64 (dimsC p.regs q.regs x t)) ∧ Below w.heap.size w w' := by
  have hb0 : Below w.heap.size w ((w.alloc (.cells #[.int .i64 p.regs, .slice p.a p.l.length p.c] 24)).alloc (.cells #[.int .i64 q.regs, .slice q.a q.l.length q.c] 24)) := ((below_new _ _).alloc (by simp) _)
  go_enter Tryz.func76, Tryz.ntmps76
  go_wp2_with (go_at_call 124; go_must ((with_reducible refine (fail_calls _ _ _).mono ?_); rintro e w1 ⟨rfl, rfl⟩))
  all_goals
    go_ret
    refine ⟨?_, hb0⟩
    unfold dimsC
    first
      | (rw [if_pos (by omega)] <;> rfl)
      | (rw [if_neg (by omega)] <;> rfl)
end Go.Proofs.YtcamcnahkdiefaaGreat

/- Chapter 23, plain: what a chain's steps and losses are. -/
namespace Go.Proofs.YtcamcnahkdiefaaGreat
set_option linter.unusedVariables false
set_option linter.unusedSimpArgs false
open Go.RowKit
structure ChD where
  p : PrD
  q : PrD
  x : Int
  th : List UInt64
def ChD.bad (c : ChD) : Int := if pairS c.p c.q ≠ 0 then pairS c.p c.q else dimsC c.p.regs c.q.regs c.x c.th.length
structure ChD.Ok (c : ChD) : Prop where
  hp : ∃ f : Fo, c.p.l = f.flat ∧ Good c.p.regs f
  hq : ∃ f : Fo, c.q.l = f.flat ∧ Good c.q.regs f
  x1 : 1 ≤ c.x
  x2 : c.x ≤ 64
  t2 : c.th.length ≤ 64
  r1 : c.x + c.th.length + 1 ≤ c.p.regs
  r2 : c.x + c.th.length ≤ c.q.regs
theorem ChD.ok_of {c : ChD} (h : c.bad = 0) : c.Ok := by
  unfold ChD.bad at h
  by_cases h1 : pairS c.p c.q = 0
  · rw [if_neg (by simpa using h1)] at h
    obtain ⟨k1, k2⟩ := pairS_ok h1
    have hd : ¬ ((c.x < 1 ∨ 64 < c.x ∨ (c.th.length : Int) < 0 ∨ 64 < (c.th.length : Int)) ∨ c.p.regs < c.x + c.th.length + 1 ∨ c.q.regs < c.x + c.th.length) := by
      intro hh
      unfold dimsC at h
      rw [if_pos hh] at h
      omega
    exact ⟨good_of_check k1, good_of_check k2, by omega, by omega, by omega, by omega, by omega⟩
  · rw [if_pos h1] at h; exact absurd h h1
def ChD.may (c : ChD) (t : Int) (n : Nat) : Int := if t < 0 ∨ 65536 ≤ t then 2 else if (n : Int) ≠ c.x then 10 else 0
def ChD.beg (c : ChD) (t : Int) (xs : List UInt64) : List UInt64 := xs ++ c.th ++ [UInt64.ofNat t.toNat]
noncomputable def ChD.step (c : ChD) (t : Int) (xs : List UInt64) : List UInt64 := (uptoS c.p.regs c.p.l (c.beg t xs) (-1)).take c.x.toNat
noncomputable def ChD.iter (c : ChD) (xs : List UInt64) : Nat → List UInt64
  | 0 => xs
  | t + 1 => c.step (t : Int) (c.iter xs t)
section
variable {c : ChD} (hc : c.Ok)
include hc
end
end Go.Proofs.YtcamcnahkdiefaaGreat

/- Chapter 23: lists of words, one behind the other: slices.Concat, and the document's Joined. -/
namespace Go.Proofs.YtcamcnahkdiefaaGreat
set_option linter.unusedVariables false
set_option linter.unusedSimpArgs false
open Go.RowKit Go.Lib
theorem Own.takeN {α : Type} [Flat α] {w : World} {B : Nat} {E : TypeId} {a : Option Addr} {c : Nat} : ∀ (d : Nat) {l : List α} (h : Own w B E a c l) (k : Nat), l.length ≤ k + d → Own w B E a c (l.take k)
  | 0, l, h, k, hd => by rw [List.take_of_length_le (by omega)]; exact h
  | d + 1, l, h, k, hd => by
    by_cases hk : l.length ≤ k
    · rw [List.take_of_length_le hk]; exact h
    · have hl : l ≠ [] := by rintro rfl; simp at hk
      have h2 := Own.takeN d (h.pop hl) k (by rw [List.length_dropLast]; omega)
      rwa [List.dropLast_eq_take, List.take_take, Nat.min_eq_left (by omega)] at h2
end Go.Proofs.YtcamcnahkdiefaaGreat

/- Chapter 23: a chain in memory; New. -/
namespace Go.Proofs.YtcamcnahkdiefaaGreat
set_option linter.unusedVariables false
set_option linter.unusedSimpArgs false
open Go.RowKit
def ChAt (w : World) (g : Nat) (c : ChD) : Prop :=
  ∃ (a b ta : Option Addr) (ca cb tc : Nat), Blk w g 149 #[.int .i64 c.p.regs, .slice a c.p.l.length ca, .int .i64 c.q.regs, .slice b c.q.l.length cb, .int .i64 c.x, .slice ta c.th.length tc] ∧ At w a c.p.l ∧ At w b c.q.l ∧ At w ta c.th ∧ c.th.length ≤ tc
theorem ChAt.belowN {w w' : World} {g : Nat} {c : ChD} (h : ChAt w g c) (hb : Below w.heap.size w w') : ChAt w' g c := by
  obtain ⟨a, b, ta, ca, cb, tc, h0, h1, h2, h3, h4⟩ := h
  exact ⟨a, b, ta, ca, cb, tc, h0.belowN hb, h1.belowN hb, h2.belowN hb, h3.belowN hb, h4⟩
theorem ChAt.lt {w : World} {g : Nat} {c : ChD} (h : ChAt w g c) : g < w.heap.size := by
  obtain ⟨a, b, ta, ca, cb, tc, h0, _⟩ := h
  exact h0.lt
theorem results_row_one {P : Program} {fn : Func} {p : Tmp} {ty : TypeId} (h : fn.results = #[.cell p ty]) (tmps : Array Value) (w : World) (g : Nat) (t : TypeId) (cs : Array Value) (fr : Nat × Nat) (d : TypeDesc)
    (hp : tmps.getD p undef = .pointer (some ⟨g, 0, none⟩)) (hg : w.heap[g]? = some (.cells cs t fr)) (hu : P.underlying ty = some d) (hd : (match d with | .struct _ | .array _ _ => true | _ => false) = true) (hi : (P.info? ty).map (·.size) = some cs.size) :
    (results fn tmps).run P w = .ok (.agg cs) w := by
  have hp' : tmps[p]?.getD undef = .pointer (some ⟨g, 0, none⟩) := by simpa using hp
  simp only [results, h]
  simp [Sem.run_bind, hp', asAddr, run_loadVar_row w g t ty cs fr d hg hu hd hi, Result.andThen]
set_option maxHeartbeats 1600000 in
theorem New1_calls (p : PrD) (w : World) (h : At w p.a p.l) (hl : p.l.length ≤ 1000000) :
    Calls Tryz.prog 77 #[.agg #[.int .i64 p.regs, .slice p.a p.l.length p.c]] w fun e w' => ∃ a' c', e = .returned (.agg #[.int .i64 p.regs, .slice a' p.l.length c']) ∧ Own w' w.heap.size 89 a' c' p.l ∧ Below w.heap.size w w' := by
  have hb0 := (below_new w (.cells #[.int .i64 p.regs, .slice p.a p.l.length p.c] 24)).alloc (by simp) (.cells #[.int .i64 0, .slice none 0 0] 24)
  have hX := (Blk.new w 24 #[.int .i64 p.regs, .slice p.a p.l.length p.c]).alloc (.cells #[.int .i64 0, .slice none 0 0] 24)
  have hF := Blk.new (w.alloc (.cells #[.int .i64 p.regs, .slice p.a p.l.length p.c] 24)) 24 #[.int .i64 0, .slice none 0 0]
  simp only [World.size_alloc] at hF
  have h1 := h.belowN hb0
  go_enter Tryz.func77, Tryz.ntmps77
  go_wp2
  obtain ⟨w0, hw0⟩ : ∃ w0, w0 = (w.alloc (.cells #[.int .i64 p.regs, .slice p.a p.l.length p.c] 24)).alloc (.cells #[.int .i64 0, .slice none 0 0] 24) := ⟨_, rfl⟩
  rw [← hw0] at hb0 hX hF h1 ⊢
  have hz0 : w0.heap.size = w.heap.size + 2 := by rw [hw0]; simp
  clear hw0
  obtain ⟨p0, p1, p2, p3⟩ := hX.c2
  obtain ⟨q0, q1, q2, q3⟩ := hF.c2
  have hd0 := Below.drew (Below.refl w0.heap.size w0)
  have h2 := h1.belowN hd0
  go_region_held3 (fun w' => w'.cell? ⟨w.heap.size, 0, none⟩ = some (.int .i64 p.regs) ∧ w'.cell? ⟨w.heap.size, 1, none⟩ = some (.slice p.a p.l.length p.c)) (go_keep)
    ((go_at_call 78; go_must (refine (CloneO_calls _ _ _ p.l _ rfl h2 (by omega)).mono ?_; rintro e w1 ⟨a1, c1, rfl, hown1, hb1⟩; have hB1 := hd0.trans (hb1.mono hd0.size); obtain ⟨r0, r1, r2, r3⟩ := (hX.belowN hB1).c2; have hF1 := hF.belowN hB1; obtain ⟨s0, s1, s2, s3⟩ := hF1.c2)))
  have hF2 := ((hF1.set_ 0 (.int .i64 p.regs)).set_ 1 (.slice a1 p.l.length c1))
  try go_wp2
  try simp only [Exit.then, Exit.inBlock]
  have hB9 := hb0.trans (hB1.mono hb0.size)
  have hz9 := hB1.size
  refine bodyPost_ret (results_row_one rfl _ _ (w.heap.size + 1) _ #[.int .i64 p.regs, .slice a1 p.l.length c1] (0, 0) _ rfl hF2 Tryz.underlying24 rfl (by kernel_rfl)) rfl ⟨a1, c1, rfl, ?_, ?_⟩
  · have h9 : w.heap.size + 1 < w0.drew.heap.size := by show w.heap.size + 1 < w0.heap.size; omega
    exact ((hown1.setCell (p := ⟨w.heap.size + 1, 0, none⟩) h9 _).setCell (p := ⟨w.heap.size + 1, 1, none⟩) h9 _).mono (by show w.heap.size ≤ w0.heap.size; omega)
  · exact (hB9.setCell (p := ⟨w.heap.size + 1, 0, none⟩) (by simp) _).setCell (p := ⟨w.heap.size + 1, 1, none⟩) (by simp) _
theorem NewBad_calls (c : ChD) (a : Option Addr) (k : Nat) (w : World) (h : At w c.p.a c.p.l) (hl : c.p.l.length ≤ 1000000) (h' : At w c.q.a c.q.l) (hl' : c.q.l.length ≤ 1000000) (hx : -9223372036854775808 ≤ c.x ∧ c.x ≤ 9223372036854775807) (hn : c.th.length ≤ 1000000) (E : Int) (hE : c.bad = E) (h0 : E ≠ 0) :
    Calls Tryz.prog 36 #[.agg #[.int .i64 c.p.regs, .slice c.p.a c.p.l.length c.p.c], .agg #[.int .i64 c.q.regs, .slice c.q.a c.q.l.length c.q.c], .int .i64 c.x, .slice a c.th.length k] w fun e w' => e = .returned (.tuple #[.pointer none, .int .i64 E]) ∧ Below w.heap.size w w' := by
  have hb0 : Below w.heap.size w ((w.alloc (.cells #[.int .i64 c.p.regs, .slice c.p.a c.p.l.length c.p.c] 24)).alloc (.cells #[.int .i64 c.q.regs, .slice c.q.a c.q.l.length c.q.c] 24)) := ((below_new _ _).alloc (by simp) _)
  have hX := (Blk.new w 24 #[.int .i64 c.p.regs, .slice c.p.a c.p.l.length c.p.c]).alloc (.cells #[.int .i64 c.q.regs, .slice c.q.a c.q.l.length c.q.c] 24)
  have hY := Blk.new (w.alloc (.cells #[.int .i64 c.p.regs, .slice c.p.a c.p.l.length c.p.c] 24)) 24 #[.int .i64 c.q.regs, .slice c.q.a c.q.l.length c.q.c]
  simp only [World.size_alloc] at hY
  have h1 := h.belowN hb0
  have h2 := h'.belowN hb0
  obtain ⟨P, hP⟩ : ∃ P, pairS c.p c.q = P := ⟨_, rfl⟩
  unfold ChD.bad at hE
  rw [hP] at hE
  have HP := hide hP
  by_cases hP0 : P = 0
  · subst hP0
    rw [if_neg (by simp)] at hE
    have e1 : (E == 0) = false := by simpa using h0
    have e2 : (E != 0) = true := by simpa using h0
    have HD := hide (fun w => hE ▸ Dims_calls c.p c.q c.x (c.th.length : Int) hx (by omega) w)
    clear hE hP h0
    go_enter Tryz.func36, Tryz.ntmps36
    go_wp2_with (first
      | (go_at_call 75; go_must ((with_reducible refine (Pair_calls c.p c.q _ h1 hl h2 hl' 0 HP.out).mono ?_); rintro e w1 ⟨rfl, hb1⟩; have hB1 := hb0.trans (hb1.mono hb0.size); have hz1 := hB1.size; obtain ⟨p0, p1, p2, p3⟩ := (hX.belowN hb1).c2; obtain ⟨q0, q1, q2, q3⟩ := (hY.belowN hb1).c2))
      | (go_at_call 76; go_must ((with_reducible refine (HD.out _).mono ?_); rintro e w2 ⟨rfl, hb2⟩)))
    go_ret2
    exact ⟨rfl, hB1.trans (hb2.mono hz1)⟩
  · rw [if_pos hP0] at hE
    subst hE
    have e1 : (P == 0) = false := by simpa using hP0
    have e2 : (P != 0) = true := by simpa using hP0
    clear hP hP0 h0
    go_enter Tryz.func36, Tryz.ntmps36
    go_wp2_with (go_at_call 75; go_must ((with_reducible refine (Pair_calls c.p c.q _ h1 hl h2 hl' P HP.out).mono ?_); rintro e w1 ⟨rfl, hb1⟩; have hB1 := hb0.trans (hb1.mono hb0.size)))
    go_ret2
    exact ⟨rfl, hB1⟩
set_option maxRecDepth 100000 in
set_option maxHeartbeats 3200000 in
theorem NewGood_calls (c : ChD) (a : Option Addr) (k : Nat) (w : World) (h : At w c.p.a c.p.l) (hl : c.p.l.length ≤ 1000000) (h' : At w c.q.a c.q.l) (hl' : c.q.l.length ≤ 1000000) (h3 : At w a c.th) (hx : -9223372036854775808 ≤ c.x ∧ c.x ≤ 9223372036854775807) (hn : c.th.length ≤ 1000000) (hE : c.bad = 0) :
    Calls Tryz.prog 36 #[.agg #[.int .i64 c.p.regs, .slice c.p.a c.p.l.length c.p.c], .agg #[.int .i64 c.q.regs, .slice c.q.a c.q.l.length c.q.c], .int .i64 c.x, .slice a c.th.length k] w fun e w' => ∃ g, e = .returned (.tuple #[.pointer (some ⟨g, 0, none⟩), .int .i64 0]) ∧ ChAt w' g c ∧ w.heap.size ≤ g ∧ Below w.heap.size w w' := by
  have hb0 : Below w.heap.size w ((w.alloc (.cells #[.int .i64 c.p.regs, .slice c.p.a c.p.l.length c.p.c] 24)).alloc (.cells #[.int .i64 c.q.regs, .slice c.q.a c.q.l.length c.q.c] 24)) := ((below_new _ _).alloc (by simp) _)
  have hX := (Blk.new w 24 #[.int .i64 c.p.regs, .slice c.p.a c.p.l.length c.p.c]).alloc (.cells #[.int .i64 c.q.regs, .slice c.q.a c.q.l.length c.q.c] 24)
  have hY := Blk.new (w.alloc (.cells #[.int .i64 c.p.regs, .slice c.p.a c.p.l.length c.p.c] 24)) 24 #[.int .i64 c.q.regs, .slice c.q.a c.q.l.length c.q.c]
  simp only [World.size_alloc] at hY
  have h1 := h.belowN hb0
  have h2 := h'.belowN hb0
  have h4 := h3.belowN hb0
  have hP : pairS c.p c.q = 0 := by
    refine Classical.byContradiction fun hn => ?_
    unfold ChD.bad at hE
    rw [if_pos hn] at hE
    exact hn hE
  unfold ChD.bad at hE
  rw [if_neg (by simpa using hP)] at hE
  have HP := hide hP
  have HD := hide (fun w => hE ▸ Dims_calls c.p c.q c.x (c.th.length : Int) hx (by omega) w)
  clear hE hP
  go_enter Tryz.func36, Tryz.ntmps36
  go_wp2_with (first
    | (go_at_call 75; go_must ((with_reducible refine (Pair_calls c.p c.q _ h1 hl h2 hl' 0 HP.out).mono ?_); rintro e w1 ⟨rfl, hb1⟩; have hB1 := hb0.trans (hb1.mono hb0.size); have hz1 := hB1.size; obtain ⟨p0, p1, p2, p3⟩ := (hX.belowN hb1).c2; obtain ⟨q0, q1, q2, q3⟩ := (hY.belowN hb1).c2))
    | (go_at_call 76; go_must ((with_reducible refine (HD.out _).mono ?_); rintro e w2 ⟨rfl, hb2⟩; have hb3 := hb1.trans (hb2.mono hb1.size); obtain ⟨r0, r1, r2, r3⟩ := (hX.belowN hb3).c2; obtain ⟨s0, s1, s2, s3⟩ := (hY.belowN hb3).c2)))
  have hX2 := hX.belowN hb3
  have hY2 := hY.belowN hb3
  have hP2 := h1.belowN hb3
  have hQ2 := h2.belowN hb3
  have hT2 := h4.belowN hb3
  have hB3 := hb0.trans (hb3.mono hb0.size)
  have hz3 := hB3.size
  have hB := Below.drew (Below.refl w2.heap.size w2)
  clear hX hY h1 h2 h4 h h' h3 hb0 hb1 hb2 hb3 hB1 hz1 p0 p1 p2 p3 q0 q1 q2 q3
  go_region_held3 (fun w' => w'.cell? ⟨w.heap.size, 0, none⟩ = some (.int .i64 c.p.regs) ∧ w'.cell? ⟨w.heap.size, 1, none⟩ = some (.slice c.p.a c.p.l.length c.p.c) ∧ w'.cell? ⟨w.heap.size + 1, 0, none⟩ = some (.int .i64 c.q.regs) ∧ w'.cell? ⟨w.heap.size + 1, 1, none⟩ = some (.slice c.q.a c.q.l.length c.q.c)) (go_keep)
    (first
      | (go_at_call 77; refine (New1_calls c.p _ (hP2.belowN hB) hl).mono ?_; rintro e wx ⟨aP, cP, rfl, hoP, hb⟩; have hB := hB.trans (hb.mono hB.size); (try have hoQ := hoQ.belowN hb); (try have hoT := hoT.belowN hb); obtain ⟨x0, x1, x2, x3⟩ := (hX2.belowN hB).c2; obtain ⟨y0, y1, y2, y3⟩ := (hY2.belowN hB).c2)
      | (go_at_call 77; refine (New1_calls c.q _ (hQ2.belowN hB) hl').mono ?_; rintro e wx ⟨aQ, cQ, rfl, hoQ, hb⟩; have hB := hB.trans (hb.mono hB.size); (try have hoP := hoP.belowN hb); (try have hoT := hoT.belowN hb); obtain ⟨x0, x1, x2, x3⟩ := (hX2.belowN hB).c2; obtain ⟨y0, y1, y2, y3⟩ := (hY2.belowN hB).c2)
      | (go_at_call 79; refine (CloneU_calls _ _ _ c.th _ rfl (hT2.belowN hB) (by omega)).mono ?_; rintro e wx ⟨aT, cT, rfl, hoT, hb⟩; have hB := hB.trans (hb.mono hB.size); (try have hoP := hoP.belowN hb); (try have hoQ := hoQ.belowN hb); obtain ⟨x0, x1, x2, x3⟩ := (hX2.belowN hB).c2; obtain ⟨y0, y1, y2, y3⟩ := (hY2.belowN hB).c2))
  have hN := below_new wx (.cells #[.int .i64 c.p.regs, .slice aP c.p.l.length cP, .int .i64 c.q.regs, .slice aQ c.q.l.length cQ, .int .i64 c.x, .slice aT c.th.length cT] 149)
  have hBx := hB3.trans (hB.mono hz3)
  have hzx := hBx.size
  go_wp2
  go_ret2
  exact ⟨wx.heap.size, rfl, ⟨aP, aQ, aT, cP, cQ, cT, Blk.new wx _ _, hoP.at_.belowN hN, hoQ.at_.belowN hN, hoT.at_.belowN hN, hoT.cap.1⟩, hzx, hBx.trans (hN.mono hzx)⟩
end Go.Proofs.YtcamcnahkdiefaaGreat

/- Chapter 23: a step and a loss. -/
namespace Go.Proofs.YtcamcnahkdiefaaGreat
set_option linter.unusedVariables false
set_option linter.unusedSimpArgs false
open Go.RowKit
theorem AtL.ofBlk {w : World} {g : Nat} {T : TypeId} {cs : Array Value} (hs : List Hd) (ls : List (List UInt64)) (h : Blk w g T cs) (hcs : cs.toList = hs.flatMap Flat.enc) (hl : hs.length = ls.length)
    (hh : ∀ (i : Nat) (h : Hd) (l : List UInt64), hs[i]? = some h → ls[i]? = some l → h.n = l.length ∧ l.length ≤ h.c ∧ At w h.a l) : AtL w (some ⟨g, 0, none⟩) ls := ⟨hs, At.ofBlk h hs hcs, hl, hh⟩
end Go.Proofs.YtcamcnahkdiefaaGreat

/- Several texts of mine in one file: C23e, C23f, C23g, C23h, C23i, C23j, C23k, C23l, C23m. -/
/- Chapter 23: each: a callee sees all states. -/
namespace Go.Proofs.YtcamcnahkdiefaaGreat
set_option linter.unusedVariables false
set_option linter.unusedSimpArgs false
open Go.RowKit
end Go.Proofs.YtcamcnahkdiefaaGreat

/- Chapter 23: what sees states: a row, the last one; States, Run. -/
namespace Go.Proofs.YtcamcnahkdiefaaGreat
set_option linter.unusedVariables false
set_option linter.unusedSimpArgs false
open Go.RowKit
theorem OwnL.mono {w : World} {B B' : Nat} {E : TypeId} {a : Option Addr} {c : Nat} {hs : List Hd} {ls : List (List UInt64)} (h : OwnL w B E a c hs ls) (hB : B' ≤ B) : OwnL w B' E a c hs ls :=
  ⟨h.1.mono hB, h.2.1, fun i x l hx hl => let ⟨e1, e2, e3, e4⟩ := h.2.2 i x l hx hl; ⟨e1, e2, e3, fun h0 => let ⟨g, g1, g2, g3⟩ := e4 h0; ⟨g, g1, Nat.le_trans hB g2, g3⟩⟩⟩
def JR (p n : Nat) (c : ChD) (xs : List UInt64) (j : Nat) (F : List Nat) (w : World) : Prop :=
  F = [p] ∧ ∃ v, Blk w p 46 #[v] ∧ (1 ≤ j → ∃ b d, v = .slice b n d ∧ n ≤ d ∧ At w b (c.iter xs (j - 1)))
theorem JR.keep {p n : Nat} {c : ChD} {xs : List UInt64} {j : Nat} {F : List Nat} {w w' : World} (h : JR p n c xs j F w) (hb : Below w.heap.size w w') : JR p n c xs j F w' := by
  obtain ⟨rfl, v, h1, h2⟩ := h
  exact ⟨rfl, v, h1.belowN hb, fun hj => let ⟨b, d, e1, e2, e3⟩ := h2 hj; ⟨b, d, e1, e2, e3.belowN hb⟩⟩
theorem JR.lt {p n : Nat} {c : ChD} {xs : List UInt64} {j : Nat} {F : List Nat} {w : World} (h : JR p n c xs j F w) : ∀ b ∈ F, b < w.heap.size := by
  obtain ⟨rfl, v, h1, h2⟩ := h
  intro b hb
  simp at hb
  rw [hb]; exact h1.lt
end Go.Proofs.YtcamcnahkdiefaaGreat

/- Chapters 10, 23: the document's Pair, Dims, New. -/
namespace Go.Proofs.YtcamcnahkdiefaaGreat
set_option linter.unusedVariables false
set_option linter.unusedSimpArgs false
open Go.RowKit
end Go.Proofs.YtcamcnahkdiefaaGreat

/- Chapter 23: the document's steps and losses. -/
namespace Go.Proofs.YtcamcnahkdiefaaGreat
set_option linter.unusedVariables false
set_option linter.unusedSimpArgs false
open Go.RowKit
end Go.Proofs.YtcamcnahkdiefaaGreat

/- Chapter 23: the document's states. -/
namespace Go.Proofs.YtcamcnahkdiefaaGreat
set_option linter.unusedVariables false
set_option linter.unusedSimpArgs false
open Go.RowKit
end Go.Proofs.YtcamcnahkdiefaaGreat

/- Chapter 23: Small, made. -/
namespace Go.Proofs.YtcamcnahkdiefaaGreat
set_option linter.unusedVariables false
set_option linter.unusedSimpArgs false
open Go.RowKit
theorem sizeW_bd (l : List OpD) : 0 ≤ sizeW l ∧ sizeW l ≤ 65536 := by
  cases hw : well l with
  | false => rw [(size_bad hw).2.1]; omega
  | true =>
    obtain ⟨f, hf, rfl⟩ := forest_of_well l hw
    rw [(sizes_flat hf).1]
    split
    · rename_i h; have := h.2; omega
    · omega
end Go.Proofs.YtcamcnahkdiefaaGreat

/- Chapter 23: the page's example, plain; Sum. -/
namespace Go.Proofs.YtcamcnahkdiefaaGreat
set_option linter.unusedVariables false
set_option linter.unusedSimpArgs false
open Go.RowKit
theorem firstL_zero (p : PrD) : ∀ ks : List Nat, firstL [p] ks = 0 → ∀ k ∈ ks, errI k p = 0
  | [], _, k, hk => by simp at hk
  | j :: ks, h, k, hk => by
    simp only [firstL, rowE_one] at h
    by_cases h0 : errI j p = 0
    · rw [if_neg (by simpa using h0)] at h
      rcases List.mem_cons.1 hk with rfl | hk
      · exact h0
      · exact firstL_zero p ks h k hk
    · rw [if_pos h0] at h; exact absurd h h0
theorem firstL_both {p q : PrD} : ∀ ks : List Nat, (∀ k ∈ ks, errI k p = 0 ∧ errI k q = 0) → firstL [p, q] ks = 0
  | [], _ => rfl
  | j :: ks, h => by
    obtain ⟨h1, h2⟩ := h j (by simp)
    simp only [firstL, rowE, h1, h2, ne_eq, not_true_eq_false, if_false]
    exact firstL_both ks fun k hk => h k (by simp [hk])
theorem pairS_of {p q : PrD} (hp : checkS p.regs p.l = 0) (hq : checkS q.regs q.l = 0) : pairS p q = 0 :=
  firstL_both _ fun k hk => ⟨firstL_zero p _ ((firstS_one p).trans hp) k hk, firstL_zero q _ ((firstS_one q).trans hq) k hk⟩
end Go.Proofs.YtcamcnahkdiefaaGreat

/- Chapter 23: the page's example. -/
namespace Go.Proofs.YtcamcnahkdiefaaGreat
set_option linter.unusedVariables false
set_option linter.unusedSimpArgs false
open Go.RowKit
end Go.Proofs.YtcamcnahkdiefaaGreat

/- Chapter 23: ChainSteps. -/
namespace Go.Proofs.YtcamcnahkdiefaaGreat
set_option linter.unusedVariables false
set_option linter.unusedSimpArgs false
open Go.RowKit
end Go.Proofs.YtcamcnahkdiefaaGreat

/- append of so many noughts: append(s, make([]T, n)...), onto a slice of the call's own. -/
namespace Go.Proofs.YtcamcnahkdiefaaGreat
set_option linter.unusedVariables false
set_option linter.unusedSimpArgs false
open Go.RowKit
section
variable {P : Program} (w : World)
end
section
variable {P : Program} {α : Type} [Flat α]
theorem zeroCells_flat {z : Value} {z0 : α} (h : z.cells.toList = Flat.enc z0) (n : Nat) : (Builtin.zeroCells z.cells n).toList = (List.replicate n z0).flatMap Flat.enc := by
  have hs : z.cells.size = Flat.n α := by rw [← Array.length_toList, h, Flat.len]
  apply List.ext_getElem?
  intro j
  have hp : 0 < Flat.n α := Flat.pos
  have hsz : (Builtin.zeroCells z.cells n).size = n * Flat.n α := by rw [size_zeroCells, hs]
  by_cases hj : j < n * Flat.n α
  · have hd : j / Flat.n α < n := (Nat.div_lt_iff_lt_mul hp).2 hj
    have hf : j % Flat.n α < Flat.n α := Nat.mod_lt _ hp
    have hg : (Flat.enc z0)[j % Flat.n α]? = some ((Flat.enc z0)[j % Flat.n α]'(by rw [Flat.len]; exact hf)) := List.getElem?_eq_getElem _
    have h2 := enc_flat (List.replicate n z0) (j / Flat.n α) z0 (by rw [List.getElem?_replicate, if_pos hd]) (j % Flat.n α) _ hg
    rw [show j / Flat.n α * Flat.n α + j % Flat.n α = j by rw [Nat.mul_comm]; exact Nat.div_add_mod j _] at h2
    rw [h2, Array.getElem?_toList, Array.getElem?_eq_getElem (by omega)]
    congr 1
    simp only [Builtin.zeroCells, Array.getElem_map, Array.getElem_range, hs]
    rw [getElem!_pos _ _ (by rw [hs]; exact hf)]
    have : z.cells[j % Flat.n α]'(by rw [hs]; exact hf) = z.cells.toList[j % Flat.n α]'(by rw [Array.length_toList, hs]; exact hf) := by simp
    rw [this]
    congr 1
  · rw [List.getElem?_eq_none (by rw [Array.length_toList]; omega), List.getElem?_eq_none (by rw [enc_length, List.length_replicate]; omega)]
structure TyN (P : Program) (T E : TypeId) (z0 : α) : Prop where
  und : P.underlying T = some (.slice E)
  info : ∃ i z, P.info? E = some i ∧ i.zero = some z ∧ i.size = Flat.n α ∧ i.bytes ≤ 128 ∧ z.cells.toList = Flat.enc z0
theorem TyN.of {T E : TypeId} {z0 : α} {z : Value} {size bytes : Nat} (h0 : P.underlying T = some (.slice E)) (h : (P.info? E).map (fun i => (i.zero, i.size, i.bytes)) = some (some z, size, bytes))
    (h1 : size = Flat.n α) (h2 : bytes ≤ 128) (h3 : z.cells.toList = Flat.enc z0) : TyN P T E z0 := by
  obtain ⟨i, hi, hz0, hz1, hz2⟩ := info_parts h
  exact ⟨h0, i, z, hi, hz0, hz1.trans h1, by omega, h3⟩
end
end Go.Proofs.YtcamcnahkdiefaaGreat

/- Plain facts on the machine that goes back through code; tapes; adjoints. No program is named here. -/
namespace Go.Proofs.YtcamcnahkdiefaaGreat
set_option linter.unusedVariables false
set_option linter.unusedSimpArgs false
open Go.RowKit

def vC (c : List (OpD × Int)) (i : Int) : UInt64 := (c[i.toNat]?.map (·.1.v)).getD 0
def Tk.back (c : List (OpD × Int)) (x : Tk) : Int × List UInt64 :=
  if x.op.kind = 0 then ((x.at' : Int) - 1, x.st ++ [vC c (x.to - 1)])
  else if x.op.kind = 7 then (if 1 < (x.st.getLast?.getD 0).toNat then (x.to - 2, x.st.dropLast ++ [x.st.getLast?.getD 0 - 1]) else ((x.at' : Int) - 1, x.st.dropLast))
  else ((x.at' : Int) - 1, x.st)
def ChnB (c : List (OpD × Int)) : Int × List UInt64 → List Tk → Int × List UInt64 → Prop
  | s, [], e => s = e
  | s, x :: r, e => s = ((x.at' : Int), x.st) ∧ c[x.at']? = some (x.op, x.to) ∧ ChnB c (x.back c) r e
theorem ChnB.append {c : List (OpD × Int)} {s m e : Int × List UInt64} {a b : List Tk} (h1 : ChnB c s a m) (h2 : ChnB c m b e) : ChnB c s (a ++ b) e := by
  induction a generalizing s with
  | nil => obtain rfl : s = m := h1; exact h2
  | cons x r ih => exact ⟨h1.1, h1.2.1, ih h1.2.2⟩
def TkB (n D : Nat) (ops : List OpD) (x : Tk) : Prop := x.at' < n ∧ x.st.length ≤ D ∧ (x.op.kind = 0 → x.st.length < D ∧ 1 ≤ x.to ∧ x.to ≤ (n : Int)) ∧ (x.op.kind = 7 → x.st ≠ [] ∧ 2 ≤ x.to ∧ x.to ≤ (n : Int)) ∧ x.op ∈ ops ∧ 0 ≤ x.op.kind ∧ x.op.kind ≤ 7
theorem TkB.mono {n m D : Nat} {a b : List OpD} {x : Tk} (h : TkB n D a x) (hn : n ≤ m) (hs : ∀ y ∈ a, y ∈ b) : TkB m D b x :=
  ⟨by have := h.1; omega, h.2.1, fun hk => by have := h.2.2.1 hk; omega, fun hk => ⟨(h.2.2.2.1 hk).1, by have := h.2.2.2.1 hk; omega⟩, hs _ h.2.2.2.2.1, h.2.2.2.2.2⟩
end Go.Proofs.YtcamcnahkdiefaaGreat

/- Plain facts on derivatives: tangents, adjoints, and that they are each other's transposed. No program is named here. -/
namespace Go.Proofs.YtcamcnahkdiefaaGreat
set_option linter.unusedVariables false
set_option linter.unusedSimpArgs false
open Go.RowKit

def tanU (x : OpD) (r t : List UInt64) : UInt64 := (partU x (getR r x.a) (getR r x.b)).1 * getR t x.a + (partU x (getR r x.a) (getR r x.b)).2 * getR t x.b
def stepT (x : OpD) (r t : List UInt64) : List UInt64 := t.set x.d.toNat (tanU x r t)
def runT : List OpD → List UInt64 → List UInt64 → List UInt64
  | [], _, t => t
  | x :: l, r, t => runT l (stepR r x) (stepT x r t)
theorem stepT_length (x : OpD) (r t : List UInt64) : (stepT x r t).length = t.length := by simp [stepT]
/-! ### The product of two rows -/
/-! ### Linearity -/
/-! ### Tapes -/
def tapeR : List OpD → List UInt64 → List UInt64
  | [], _ => []
  | x :: l, r => getR r x.d :: tapeR l (stepR r x)
end Go.Proofs.YtcamcnahkdiefaaGreat

/- Plain facts on tapes: what a run has written so far, what has been taken back so far; the machine's steps back. No program is named here. -/
namespace Go.Proofs.YtcamcnahkdiefaaGreat
set_option linter.unusedVariables false
set_option linter.unusedSimpArgs false
open Go.RowKit

def tpR (P : List OpD) (r t : List UInt64) : List UInt64 := tapeR P r ++ t.drop P.length
/-! ### The machine's steps back -/
end Go.Proofs.YtcamcnahkdiefaaGreat

/- Chapter 21: the machine that runs and keeps. -/
namespace Go.Proofs.YtcamcnahkdiefaaGreat
set_option linter.unusedVariables false
set_option linter.unusedSimpArgs false
open Go.RowKit

def blkL (a : Option Addr) : List Nat := (a.map (·.block)).toList
def TxJ (code : List (OpD × Int)) (steps : List Tk) (ac : Option Addr) (cc gr nr cr : Nat) (ta : Option Addr) (nt ct Br Bt Bl : Nat) (r0 t0 : List UInt64) (W : World) (N : Nat) (a' : Act) (wr : World) : Prop :=
  ∃ (pre rest : List Tk) (p d k : Nat) (st : List UInt64), a'.defers = [] ∧ a'.tmps.size = 79 ∧
    a'.tmps.getD 0 undef = .slice ac code.length cc ∧ a'.tmps.getD 1 undef = .slice (some ⟨gr, 0, none⟩) nr cr ∧ a'.tmps.getD 2 undef = .slice ta nt ct ∧ a'.tmps.getD 7 undef = .pointer (some ⟨Bl, 0, none⟩) ∧
    a'.tmps.getD 8 undef = .int .i64 (p : Int) ∧ a'.tmps.getD 9 undef = .int .i64 (k : Int) ∧ a'.tmps.getD 10 undef = .int .i64 (d : Int) ∧
    rest.length = N ∧ p ≤ code.length ∧ k = st.length ∧ k ≤ 8 ∧ Chn code (p, st) rest (code.length, []) ∧ steps = pre ++ rest ∧ d = (wrs (pre.map (·.op))).length ∧ d ≤ 1200000 ∧
    LeftAt wr Bl st ∧ Own wr Br 50 (some ⟨gr, 0, none⟩) cr (runR (wrs (pre.map (·.op))) r0) ∧ Own wr Bt 50 ta ct (tpR (wrs (pre.map (·.op))) r0 t0) ∧ Turned (gr :: blkL ta) W wr
theorem TxJ.measure {J : Nat → Act → World → Prop} {N : Nat} {a a' : Act} {w w' : World} (hN : N + 1 = leastOf (fun N => J N a w)) (h : J N a' w') : leastOf (fun N => J N a' w') < leastOf (fun N => J N a w) := by
  have := (leastOf_spec (p := fun N => J N a' w') ⟨N, h⟩).2 N h
  omega

end Go.Proofs.YtcamcnahkdiefaaGreat

/- A region that draws its order: reads, then several calls that leave what is read, one behind the other, then what waits for all reads. -/
namespace Go.Proofs.YtcamcnahkdiefaaGreat
set_option linter.unusedVariables false
set_option linter.unusedSimpArgs false
open Go.RowKit
section
variable {P : Program} {ops : Array Oper} {Q : Exit → Act → World → Prop} {md : Region.Mode} {S : World → Prop} {late : Nat → Bool}

def midK (P : Program) (ops : Array Oper) (Q : Exit → Act → World → Prop) (S : World → Prop) : List Oper → List Oper → Act → World → Prop
  | [], tl, a, w => wpList P ops Q tl a w
  | o :: mid, tl, a, w => ∀ K : Act → World → Prop, (∀ a2 w2, S w2 → midK P ops Q S mid tl a2 w2 → K a2 w2) → if Region.wanted o (yielded ops a.tmps) = true then Oper.wp P o a w K Q else K (a.put o.dst undef) w
end
end Go.Proofs.YtcamcnahkdiefaaGreat

/- Several texts of mine in one file: Du, Do, Dp, Dr, Da. -/
/- Chapters 2, 14: duals: in memory, plain; ref02's walks. -/
namespace Go.Proofs.YtcamcnahkdiefaaGreat
set_option linter.unusedVariables false
set_option linter.unusedSimpArgs false
open Go.RowKit
structure DuD where
  v : UInt64
  d : UInt64
  deriving DecidableEq
instance : Flat DuD := ⟨2, fun x => [.int .u64 (x.v.toNat : Int), .int .u64 (x.d.toNat : Int)], fun _ => rfl, fun x u hu => by simp at hu; rcases hu with rfl | rfl <;> rfl, by decide⟩
def DuD.val (x : DuD) : Value := .agg #[.int .u64 (x.v.toNat : Int), .int .u64 (x.d.toNat : Int)]
theorem tyD : Ty Tryz.prog 117 111 DuD := Ty.of (z := .agg #[.int .u64 0, .int .u64 0]) (size := 2) (bytes := 16) Tryz.underlying117 (by kernel_rfl) rfl (by decide) rfl
theorem tyND : TyN Tryz.prog 117 111 (⟨0, 0⟩ : DuD) := TyN.of (z := .agg #[.int .u64 0, .int .u64 0]) (size := 2) (bytes := 16) Tryz.underlying117 (by kernel_rfl) rfl (by decide) rfl
theorem wpList_mkN {P : Program} {ops : Array Oper} {rest : List Oper} {o : Oper} {act : Act} {Q : Exit → Act → World → Prop} {w : World} {T E : TypeId} {α : Type} [Flat α] {z0 : α} (ty : TyN P T E z0) {B n : Nat} {x y : Operand} {k1 k2 : IntKind} {n1 n2 : Int}
    (hgd : o.guard = none) (ho : o.op = .makeSlice T x y) (hx : act.eval x = .int k1 n1) (hy : act.eval y = .int k2 n2) (h1 : n1 = (n : Int)) (h2 : n2 = (n : Int)) (hB : B ≤ w.heap.size) (hn : n ≤ 1000000000)
    (h : ∀ w', Own w' B E (some ⟨w.heap.size, 0, none⟩) n (List.replicate n z0) → w.grownBy w' none → wpList P ops Q rest (act.put o.dst (.slice (some ⟨w.heap.size, 0, none⟩) n n)) w') :
    wpList P ops Q (o :: rest) act w := by
  obtain ⟨i, z, hi, hz, hs, hb, hc⟩ := ty.info
  refine wpList_make_full w hgd x y T ho B E i z (Flat.n α) ty.und hi hz hs k1 k2 n1 n2 n hx hy h1 h2 (Nat.le_trans (Nat.mul_le_mul hb hn) (by decide)) (by simp only [maxLen]; omega) hB fun w' g1 g2 => h w' ?_ g2
  unfold Own
  rw [List.length_replicate]
  have e : (madeCells z.cells (n * Flat.n α)).toList = (List.replicate n z0).flatMap Flat.enc := by
    rw [← zeroCells_flat hc n]
    have hs : z.cells.size = Flat.n α := by rw [← Array.length_toList, hc, Flat.len]
    rw [← hs]
    rfl
  rw [← e]
  exact g1
theorem results_row_D {P : Program} {fn : Func} {p : Tmp} {ty : TypeId} (h : fn.results = #[.cell p ty]) (tmps : Array Value) (w : World) (g : Nat) (t : TypeId) (cs : Array Value) (fr : Nat × Nat) (d : TypeDesc)
    (hp : tmps.getD p undef = .pointer (some ⟨g, 0, none⟩)) (hg : w.heap[g]? = some (.cells cs t fr)) (hu : P.underlying ty = some d) (hd : (match d with | .struct _ | .array _ _ => true | _ => false) = true) (hi : (P.info? ty).map (·.size) = some cs.size) :
    (results fn tmps).run P w = .ok (.agg cs) w := by
  have hp' : tmps[p]?.getD undef = .pointer (some ⟨g, 0, none⟩) := by simpa using hp
  simp only [results, h]
  simp [Sem.run_bind, hp', asAddr, run_loadVar_row w g t ty cs fr d hg hu hd hi, Result.andThen]
def addD (a b : DuD) : DuD := ⟨a.v + b.v, a.d + b.d⟩
def negD (a : DuD) : DuD := ⟨0 - a.v, 0 - a.d⟩
def mulD (a b : DuD) : DuD := ⟨a.v * b.v, a.v * b.d + a.d * b.v⟩
end Go.Proofs.YtcamcnahkdiefaaGreat

/- Chapter 14: what an operation makes of duals (ref14.does). -/
namespace Go.Proofs.YtcamcnahkdiefaaGreat
set_option linter.unusedVariables false
set_option linter.unusedSimpArgs false
open Go.RowKit
def doesD (x : OpD) (a b : DuD) : DuD :=
  if x.kind = 1 then addD a b else if x.kind = 2 then addD a (negD b) else if x.kind = 3 then mulD a b else if x.kind = 4 then negD a else if x.kind = 5 then ⟨x.v, 0⟩ else a
end Go.Proofs.YtcamcnahkdiefaaGreat

/- Runs on duals, plain: a run on duals is a run and a run of tangents. No program is named here. -/
namespace Go.Proofs.YtcamcnahkdiefaaGreat
set_option linter.unusedVariables false
set_option linter.unusedSimpArgs false
open Go.RowKit
def getD14 (r : List DuD) (i : Int) : DuD := (r[i.toNat]?).getD ⟨0, 0⟩
def stepD (r : List DuD) (x : OpD) : List DuD := r.set x.d.toNat (doesD x (getD14 r x.a) (getD14 r x.b))
def runD (l : List OpD) (r : List DuD) : List DuD := l.foldl stepD r
theorem stepD_length (r : List DuD) (x : OpD) : (stepD r x).length = r.length := by simp [stepD]
theorem runD_length (l : List OpD) (r : List DuD) : (runD l r).length = r.length := by
  induction l generalizing r with
  | nil => rfl
  | cons x l ih => show (runD l (stepD r x)).length = _; rw [ih, stepD_length]
theorem runD_append (a b : List OpD) (r : List DuD) : runD (a ++ b) r = runD b (runD a r) := List.foldl_append ..
theorem doesD_eq (x : OpD) (a b : DuD) (h1 : 1 ≤ x.kind) (h2 : x.kind ≤ 6) : doesD x a b = ⟨applyU x a.v b.v, (partU x a.v b.v).1 * a.d + (partU x a.v b.v).2 * b.d⟩ := by
  obtain ⟨k, d, xa, xb, v⟩ := x
  obtain ⟨av, ad⟩ := a
  obtain ⟨bv, bd⟩ := b
  simp only at h1 h2
  rcases kind8 k with h | rfl | rfl | rfl | rfl | rfl | rfl | rfl | rfl | h <;> first | omega | (simp [doesD, applyU, partU, addD, negD, mulD]; try grind)
def zipD (r t : List UInt64) : List DuD := List.zipWith DuD.mk r t
theorem getD14_zip (r t : List UInt64) (h : r.length = t.length) (i : Int) : getD14 (zipD r t) i = ⟨getR r i, getR t i⟩ := by
  unfold getD14 zipD getR
  rw [List.getElem?_zipWith]
  by_cases hi : i.toNat < r.length
  · rw [List.getElem?_eq_getElem hi, List.getElem?_eq_getElem (by omega)]; rfl
  · rw [List.getElem?_eq_none (by omega), List.getElem?_eq_none (by omega)]; rfl
theorem zipD_set (r t : List UInt64) (i : Nat) (a b : UInt64) : (zipD r t).set i ⟨a, b⟩ = zipD (r.set i a) (t.set i b) := by
  unfold zipD
  apply List.ext_getElem?
  intro j
  simp only [List.getElem?_set, List.getElem?_zipWith, List.length_zipWith]
  by_cases hij : i = j
  · subst hij
    by_cases h1 : i < r.length
    · by_cases h2 : i < t.length
      · simp [h1, h2]; omega
      · simp [h1, h2]; omega
    · simp [h1]; omega
  · simp [hij]
theorem stepD_zip (x : OpD) (r t : List UInt64) (h : r.length = t.length) (h1 : 1 ≤ x.kind) (h2 : x.kind ≤ 6) : stepD (zipD r t) x = zipD (stepR r x) (stepT x r t) := by
  unfold stepD stepR stepT tanU
  rw [getD14_zip r t h, getD14_zip r t h, doesD_eq x _ _ h1 h2, zipD_set]
theorem runD_zip (l : List OpD) (hl : ∀ x ∈ l, 1 ≤ x.kind ∧ x.kind ≤ 6) (r t : List UInt64) (h : r.length = t.length) : runD l (zipD r t) = zipD (runR l r) (runT l r t) := by
  induction l generalizing r t with
  | nil => rfl
  | cons x l ih =>
    have hx := hl x (by simp)
    show runD l (stepD (zipD r t) x) = zipD (runR l (stepR r x)) (runT l (stepR r x) (stepT x r t))
    rw [stepD_zip x r t h hx.1 hx.2, ih (fun y hy => hl y (by simp [hy])) _ _ (by rw [stepR_length, stepT_length, h])]
theorem Own.setD {w : World} {B : Nat} {E : TypeId} {g c : Nat} {l : List DuD} (h : Own w B E (some ⟨g, 0, .none⟩) c l) {i : Nat} {x : DuD} (hx : l[i]? = some x) (y : DuD) :
    Own ((w.setCell ⟨g, i * 2, .none⟩ (.int .u64 (y.v.toNat : Int))).setCell ⟨g, i * 2 + 1, .none⟩ (.int .u64 (y.d.toNat : Int))) B E (some ⟨g, 0, .none⟩) c (l.set i y) := by
  have hi := (List.getElem?_eq_some_iff.1 hx).1
  have h1 := h.setAt i 0 ⟨y.v, x.d⟩ x (.int .u64 (y.v.toNat : Int)) hx (by decide) rfl
  have h2 := h1.setAt i 1 y ⟨y.v, x.d⟩ (.int .u64 (y.d.toNat : Int)) (by rw [List.getElem?_set, if_pos rfl, if_pos hi]) (by decide) rfl
  rw [List.set_set] at h2
  exact h2
end Go.Proofs.YtcamcnahkdiefaaGreat

/- Chapter 14: ref14.Run. -/
namespace Go.Proofs.YtcamcnahkdiefaaGreat
set_option linter.unusedVariables false
set_option linter.unusedSimpArgs false
open Go.RowKit
def startD (n : Nat) (r : List DuD) : List DuD := r ++ List.replicate (n - r.length) ⟨0, 0⟩
theorem startD_length (n : Nat) (r : List DuD) (h : r.length ≤ n) : (startD n r).length = n := by simp [startD] <;> omega
def dualE (regs : Int) (l : List OpD) (rn : Nat) : Int := if checkS regs l ≠ 0 then checkS regs l else if regs < (rn : Int) then 10 else 0
noncomputable def dualR (regs : Int) (l : List OpD) (r : List DuD) : List DuD := if dualE regs l r.length = 0 then runD (unrS regs l) (startD regs.toNat r) else []
theorem dualE_good {regs : Int} {l : List OpD} {rn : Nat} (h : dualE regs l rn = 0) : ∃ f : Fo, l = f.flat ∧ Good regs f ∧ (rn : Int) ≤ regs := by
  unfold dualE at h
  by_cases hc : checkS regs l = 0
  · rw [if_neg (by simpa using hc)] at h
    obtain ⟨f, rfl, g⟩ := good_of_check hc
    by_cases hn : regs < (rn : Int)
    · rw [if_pos hn] at h; cases h
    · exact ⟨f, rfl, g, by omega⟩
  · rw [if_pos hc] at h; exact absurd h hc
theorem dualE_of {regs : Int} {f : Fo} (g : Good regs f) {rn : Nat} (hn : (rn : Int) ≤ regs) : dualE regs f.flat rn = 0 := by
  unfold dualE
  rw [if_neg (by simpa using g.check), if_neg (by omega)]
theorem dualE_dims {regs : Int} {f : Fo} (g : Good regs f) {rn : Nat} (h : regs < (rn : Int)) : dualE regs f.flat rn = 10 := by
  unfold dualE
  rw [if_neg (by simpa using g.check), if_pos h]
theorem dualE_bad {regs : Int} {l : List OpD} {rn : Nat} (hc : checkS regs l ≠ 0) : dualE regs l rn = checkS regs l := by unfold dualE; rw [if_pos hc]
theorem dualR_good {regs : Int} {f : Fo} (g : Good regs f) {r : List DuD} (hn : (r.length : Int) ≤ regs) : dualR regs f.flat r = runD f.unroll (startD regs.toNat r) := by
  unfold dualR
  rw [if_pos (dualE_of g hn), unrS_good g]
theorem dualR_bad {regs : Int} {l : List OpD} {r : List DuD} (h : dualE regs l r.length ≠ 0) : dualR regs l r = [] := by unfold dualR; rw [if_neg h]
end Go.Proofs.YtcamcnahkdiefaaGreat

/- Chapter 14: ref14.Along. -/
namespace Go.Proofs.YtcamcnahkdiefaaGreat
set_option linter.unusedVariables false
set_option linter.unusedSimpArgs false
open Go.RowKit
end Go.Proofs.YtcamcnahkdiefaaGreat

/- Chapter 7: partials, the program's and the document's. -/
namespace Go.Proofs.YtcamcnahkdiefaaGreat
set_option linter.unusedVariables false
set_option linter.unusedSimpArgs false
open Go.RowKit
theorem part_no {x : OpD} (a b : UInt64) (h : x.kind < 0 ∨ 7 < x.kind) : partU x a b = (0, 0) := by
  unfold partU
  rw [if_neg (by omega), if_neg (by omega), if_neg (by omega), if_neg (by omega), if_neg (by omega)]
theorem ret_uu {a b c d : Int} (h : a = b) (k : c = d) : Ending.returned (.tuple #[.int .u64 a, .int .u64 c]) = .returned (.tuple #[.int .u64 b, .int .u64 d]) := by rw [h, k]
theorem Partials_calls (x : OpD) (a b : UInt64) (w : World) : Calls Tryz.prog 153 #[.agg #[.int .i64 x.kind, .int .i64 x.d, .int .i64 x.a, .int .i64 x.b, .int .u64 (x.v.toNat : Int)], .int .u64 (a.toNat : Int), .int .u64 (b.toNat : Int)] w fun e w' => e = .returned (.tuple #[.int .u64 ((partU x a b).1.toNat : Int), .int .u64 ((partU x a b).2.toNat : Int)]) ∧ Below w.heap.size w w' := by
  obtain ⟨k, rd, ra, rb, v⟩ := x
  simp only
  rcases kind8 k with h | rfl | rfl | rfl | rfl | rfl | rfl | rfl | rfl | h
  case inl =>
    obtain ⟨h0, h1, h2, h3, h4, h5, h6, h7⟩ := kind_no (.inl h)
    go_enter Tryz.func153, Tryz.ntmps153
    go_wp2
    go_ret2
    exact ⟨ret_uu (by rw [part_no a b (.inl h)]; rfl) (by rw [part_no a b (.inl h)]; rfl), (by with_reducible repeat first | exact Below.refl _ _ | assumption | refine below_drewN ?_ _ | refine Below.drew ?_ | refine Below.alloc ?_ (by simp <;> omega) _ | refine Below.setCell ?_ (by simp <;> omega) _)⟩
  case inr.inr.inr.inr.inr.inr.inr.inr.inr =>
    obtain ⟨h0, h1, h2, h3, h4, h5, h6, h7⟩ := kind_no (.inr h)
    go_enter Tryz.func153, Tryz.ntmps153
    go_wp2
    go_ret2
    exact ⟨ret_uu (by rw [part_no a b (.inr h)]; rfl) (by rw [part_no a b (.inr h)]; rfl), (by with_reducible repeat first | exact Below.refl _ _ | assumption | refine below_drewN ?_ _ | refine Below.drew ?_ | refine Below.alloc ?_ (by simp <;> omega) _ | refine Below.setCell ?_ (by simp <;> omega) _)⟩
  all_goals
    go_enter Tryz.func153, Tryz.ntmps153
    go_wp2
    go_ret2
    exact ⟨ret_uu rfl rfl, (by with_reducible repeat first | exact Below.refl _ _ | assumption | refine below_drewN ?_ _ | refine Below.drew ?_ | refine Below.alloc ?_ (by simp <;> omega) _ | refine Below.setCell ?_ (by simp <;> omega) _)⟩
end Go.Proofs.YtcamcnahkdiefaaGreat

/- Chapter 21: TapeBack. -/
namespace Go.Proofs.YtcamcnahkdiefaaGreat
set_option linter.unusedVariables false
set_option linter.unusedSimpArgs false
open Go.RowKit
def zerosU (n : Nat) : Array Value := (List.replicate n (Value.int .u64 0)).toArray
theorem zeros_made (n : Nat) : madeCells #[Value.int .u64 0] n = zerosU n := by
  apply Array.ext
  · simp [madeCells, zerosU]
  · intro i h1 h2
    simp [madeCells, zerosU, Nat.mod_one]
theorem mkU (n : Nat) (N : Int) (hN : N = (n : Int)) (hn : n ≤ 1000000000) (W : World) : (Instr.makeSlice 46 (.int .i64 N) (.int .i64 N)).run Tryz.prog W = .ok (.slice (some ⟨W.heap.size, 0, none⟩) n n) (W.alloc (.cells (zerosU n) 50)) := by
  subst hN
  rw [← zeros_made]
  exact run_make_row' 46 50 (.int .u64 0) 8 Tryz.underlying46 (by kernel_rfl) rfl .i64 .i64 n (by omega) (by omega) W
theorem ownZ {B : Nat} (W : World) (hB : B ≤ W.heap.size) (n : Nat) (hn : n ≤ 1000000000) : Own (W.alloc (.cells (zerosU n) 50)) B 50 (some ⟨W.heap.size, 0, none⟩) n (List.replicate n (0 : UInt64)) :=
  Own.made W hB 50 (zerosU n) _ (by rw [enc_map, List.map_replicate]; rfl) (by rw [List.length_replicate]; unfold maxLen; omega) n (by rw [List.length_replicate])
end Go.Proofs.YtcamcnahkdiefaaGreat
