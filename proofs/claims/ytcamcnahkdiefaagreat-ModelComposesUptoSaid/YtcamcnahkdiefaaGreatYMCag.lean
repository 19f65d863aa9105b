/- Several texts of mine in one file. -/
import Derived.Test.YtcamcnahkdiefaaGreatYMCae
import Derived.Test.YtcamcnahkdiefaaGreatYMCaf
import Derived.Deep.LoopGhost
import Derived.Test.YtcamcnahkdiefaaGreatYMCac
import Derived.ScopeJumps
import Derived.Scope
import Derived.WalkMore
import Derived.Deep.AppendLies
import Derived.Deep.RegionHeld3
import Derived.Test.YtcamcnahkdiefaaGreatYMCad
import Derived.Test.YtcamcnahkdiefaaGreatYMCaa
import Derived.Laws.CopyOwn
import Derived.Deep.DeepMust
/- Several texts of mine in one file: Cd, F12a, F12b, F12c. -/
/- Plain facts on how code is laid, operation by operation. No program is named here. -/
namespace Go.Proofs.YtcamcnahkdiefaaGreat
set_option linter.unusedVariables false
set_option linter.unusedSimpArgs false
open Go.RowKit

instance : Flat (OpD × Int) := ⟨6, fun x => [.int .i64 x.1.kind, .int .i64 x.1.d, .int .i64 x.1.a, .int .i64 x.1.b, .int .u64 (x.1.v.toNat : Int), .int .i64 x.2], fun _ => rfl,
  fun x u hu => by simp at hu; rcases hu with rfl | rfl | rfl | rfl | rfl | rfl <;> rfl, by decide⟩

structure Cf where
  bg : Nat
  op : OpD
  fin : OpD
  r : Fo
def opn (st : List Cf) : List Int := (st.map fun x => (x.bg : Int)).reverse
def CdK (l : List OpD) (m : List Int) (R : List (OpD × Int)) : Nat → List (OpD × Int) → List Cf → Prop
  | j, X, [] => j = l.length ∧ R = X
  | j, X, s :: st => l[j]? = some s.fin ∧ s.fin.kind = 0 ∧ X[s.bg]? = some (s.op, 0) ∧ Stands l m (j + 1) s.r ∧
      CdK l m R (j + 1 + s.r.size) (X.set s.bg (s.op, ((X.length + 1 : Nat) : Int)) ++ (s.fin, ((s.bg + 1 : Nat) : Int)) :: s.r.bare.code (X.length + 1)) st
def CdOk (l : List OpD) (m : List Int) (R : List (OpD × Int)) (i : Nat) (out : List (OpD × Int)) (g : Fo) (st : List Cf) : Prop :=
  Stands l m i g ∧ CdK l m R (i + g.size) (out ++ g.bare.code out.length) st
section
variable {l : List OpD} {m : List Int} {R out : List (OpD × Int)} {i : Nat} {st : List Cf}
theorem CdOk.start {f : Fo} (hf : f.ok) : CdOk f.flat (matchL f.flat) (f.bare.code 0) 0 [] f [] :=
  ⟨Stands.whole hf, by simp [Fo.size], by simp⟩
theorem CdOk.done (h : CdOk l m R i out .nil []) : i = l.length ∧ R = out := by
  obtain ⟨_, h1, h2⟩ := h
  exact ⟨by simpa [Fo.size, Fo.flat] using h1, by simpa [Fo.bare, Fo.code] using h2⟩
theorem CdOk.leaf {op : OpD} {r : Fo} (h : CdOk l m R i out (.leaf op r) st) : l[i]? = some op ∧ 1 ≤ op.kind ∧ op.kind ≤ 6 ∧ CdOk l m R (i + 1) (out ++ [(op, 0)]) r st := by
  obtain ⟨hs, hk⟩ := h
  obtain ⟨e1, k1, k2, e2, hr⟩ := hs.leaf
  refine ⟨e1, k1, k2, hr, ?_⟩
  have e : i + 1 + r.size = i + (Fo.leaf op r).size := by rw [Fo.size_leaf]; omega
  rw [e]
  simpa [Fo.bare, Fo.code] using hk
theorem CdOk.skip {op fin : OpD} {b r : Fo} (h : CdOk l m R i out (.rep op b fin r) st) (h0 : b.wr * op.v.toNat = 0) : CdOk l m R (i + b.size + 2) out r st := by
  obtain ⟨hs, hk⟩ := h
  refine ⟨hs.rep.2.2.2.2.2.2.2, ?_⟩
  have e : i + b.size + 2 + r.size = i + (Fo.rep op b fin r).size := by rw [Fo.size_rep]; omega
  have e2 : (Fo.rep op b fin r).bare = r.bare := by rw [Fo.bare, if_pos h0]
  rw [e]
  rwa [e2] at hk
theorem CdOk.open_ {op fin : OpD} {b r : Fo} (h : CdOk l m R i out (.rep op b fin r) st) (h0 : b.wr * op.v.toNat ≠ 0) : CdOk l m R (i + 1) (out ++ [(op, 0)]) b (⟨out.length, op, fin, r⟩ :: st) := by
  obtain ⟨hs, hk⟩ := h
  obtain ⟨e1, k7, e3, e4, k0, e6, hb, hr⟩ := hs.rep
  have e2 : (Fo.rep op b fin r).bare = .rep op b.bare fin r.bare := by rw [Fo.bare, if_neg h0]
  rw [e2] at hk
  have hlen : (out ++ [(op, (0 : Int))]).length = out.length + 1 := by simp
  refine ⟨hb, by rw [show i + 1 + b.size = i + b.size + 1 by omega]; exact e4, k0, ?_, by rw [show i + 1 + b.size + 1 = i + b.size + 2 by omega]; exact hr, ?_⟩
  · simp
  · have e : i + 1 + b.size + 1 + r.size = i + (Fo.rep op b fin r).size := by rw [Fo.size_rep]; omega
    simp only
    rw [e]
    have hx : (out ++ [(op, (0 : Int))] ++ b.bare.code (out.length + 1)).length = out.length + 1 + b.bare.size := by simp [Fo.code_length]; omega
    rw [hlen, hx]
    have hset : (out ++ [(op, (0 : Int))] ++ b.bare.code (out.length + 1)).set out.length (op, ((out.length + 1 + b.bare.size + 1 : Nat) : Int)) = out ++ (op, ((out.length + 1 + b.bare.size + 1 : Nat) : Int)) :: b.bare.code (out.length + 1) := by simp
    rw [hset]
    have e5 : out.length + 1 + b.bare.size + 1 = out.length + b.bare.size + 2 := by omega
    rw [e5]
    simpa [Fo.code] using hk
theorem CdOk.end_ {s : Cf} (h : CdOk l m R i out .nil (s :: st)) : l[i]? = some s.fin ∧ s.fin.kind = 0 ∧ out[s.bg]? = some (s.op, 0) ∧ CdOk l m R (i + 1) (out.set s.bg (s.op, ((out.length + 1 : Nat) : Int)) ++ [(s.fin, ((s.bg + 1 : Nat) : Int))]) s.r st := by
  obtain ⟨hs, h1, h2, h3, h4, h5⟩ := h
  simp only [Fo.size, Fo.flat, Fo.bare, Fo.code, List.length_nil, Nat.add_zero, List.append_nil] at h1 h3 h4 h5
  refine ⟨h1, h2, h3, h4, ?_⟩
  have e : (out.set s.bg (s.op, ((out.length + 1 : Nat) : Int)) ++ [(s.fin, ((s.bg + 1 : Nat) : Int))]).length = out.length + 1 := by simp
  rw [e]
  simpa [Fo.size] using h5
theorem CdOk.last {g : Fo} (h : CdOk l m R i out g st) : i ≤ l.length ∧ (i = l.length → g = .nil ∧ st = []) := by
  have hl := h.1.lt.1
  refine ⟨by omega, fun e => ?_⟩
  cases g with
  | leaf op r => rw [Fo.size_leaf] at hl; omega
  | rep op b fin r => rw [Fo.size_rep] at hl; omega
  | nil =>
    refine ⟨rfl, ?_⟩
    cases st with
    | nil => rfl
    | cons s st => have := (List.getElem?_eq_some_iff.1 h.end_.1).1; omega
end
theorem opn_cons (s : Cf) (st : List Cf) : opn (s :: st) = opn st ++ [(s.bg : Int)] := by simp [opn]
theorem opn_length (st : List Cf) : (opn st).length = st.length := by simp [opn]
end Go.Proofs.YtcamcnahkdiefaaGreat

/- Chapter 12: Code. -/
namespace Go.Proofs.YtcamcnahkdiefaaGreat
set_option linter.unusedVariables false
set_option linter.unusedSimpArgs false
open Go.RowKit

theorem below_new12 (w : World) (o : Obj) : Below w.heap.size w (w.alloc o) := Below.alloc (Below.refl _ _) (Nat.le_refl _) _
theorem tyIns : Ty Tryz.prog 100 176 (OpD × Int) := Ty.of (z := .agg #[.int .i64 0, .int .i64 0, .int .i64 0, .int .i64 0, .int .u64 0, .int .i64 0]) (size := 6) (bytes := 48) Tryz.underlying100 (by kernel_rfl) rfl (by decide) rfl
theorem Own.far_E {α β : Type} [Flat α] [Flat β] {w : World} {B B' : Nat} {E E' : TypeId} {a a' : Option Addr} {c c' : Nat} {l : List α} {l' : List β} (h : Own w B E a c l) (h' : Own w B' E' a' c' l') (hE : E ≠ E') : a.map (·.block) = Option.none ∨ a.map (·.block) ≠ a'.map (·.block) := by
  rcases h.form with ⟨rfl, _⟩ | ⟨g, rfl, _⟩
  · exact .inl rfl
  · rcases h'.form with ⟨rfl, _⟩ | ⟨g', rfl, _⟩
    · exact .inr (by simp)
    · exact .inr (by have := h.ne_E h' hE; simpa using this)
theorem sizes_at {f : Fo} (hf : f.ok) {i : Nat} {op fin : OpD} {b r : Fo} (h : Stands f.flat (matchL f.flat) i (.rep op b fin r)) : f.sizes[i]? = some ((b.wr * op.v.toNat : Nat) : Int) := by
  obtain ⟨e1, k7, e3, e4, k0, e6, hb, hr⟩ := h.rep
  rcases place9 hf e1 with ⟨h7, b', fin', r', hs, g1, g2, g3⟩ | ⟨h0, _⟩ | ⟨h1, h2, _⟩
  · obtain ⟨_, rfl⟩ := h.one hs
    exact g1
  · omega
  · omega
noncomputable def codeS (regs : Int) (l : List OpD) : List (OpD × Int) := if checkS regs l = 0 then (fo l).bare.code 0 else []
theorem codeS_good {regs : Int} {f : Fo} (g : Good regs f) : codeS regs f.flat = f.bare.code 0 := by unfold codeS; rw [if_pos g.check, fo_flat g.ok]
theorem codeS_bad {regs : Int} {l : List OpD} (h : checkS regs l ≠ 0) : codeS regs l = [] := by unfold codeS; rw [if_neg h]
def CodePost (regs : Int) (l : List OpD) (w : World) (e : Ending) (w' : World) : Prop :=
  ∃ a c, e = .returned (.tuple #[.slice a (codeS regs l).length c, .int .i64 (checkS regs l)]) ∧ Own w' w.heap.size 176 a c (codeS regs l) ∧ Below w.heap.size w w'
theorem cd_bad (regs : Int) (a : Option Addr) (c : Nat) (l : List OpD) (w : World) (h : At w a l) (hl : l.length ≤ 1000000) (hc : checkS regs l ≠ 0) :
    Calls Tryz.prog 47 #[.agg #[.int .i64 regs, .slice a l.length c]] w (CodePost regs l w) := by
  have h1 := h.belowN (below_new12 w (.cells #[.int .i64 regs, .slice a l.length c] 24))
  have hb0 := below_new12 w (.cells #[.int .i64 regs, .slice a l.length c] 24)
  have HP := hide (Prog_calls regs a c l _ h1 hl)
  have HC := hide (codeS_bad hc)
  obtain ⟨E, hE⟩ : ∃ E, E = checkS regs l := ⟨_, rfl⟩
  rw [← hE] at HP hc
  have HE := hide hE
  have e1 : (E == 0) = false := by simpa using hc
  have e2 : (E != 0) = true := by simpa using hc
  clear hE hc
  go_enter Tryz.func47, Tryz.ntmps47
  go_wp2_with (go_at_call 95; ((with_reducible refine (HP.out).mono ?_); rintro e w1 ⟨rfl, hb1⟩))
  go_ret2
  unfold CodePost
  rw [HC.out, ← HE.out]
  exact ⟨none, 0, rfl, Own.none _ _ _, hb0.trans (hb1.mono hb0.size)⟩
theorem getOp_eq {w wr : World} {a : Option Addr} {l : List OpD} (h : At w a l) (hb : Below w.heap.size w wr) {k : Nat} {x : OpD} (hk : l[k]? = some x) :
    ∃ b off, a = some ⟨b, off, none⟩ ∧ wr.cell? ⟨b, off + k * 5, none⟩ = some (.int .i64 x.kind) ∧ wr.cell? ⟨b, off + k * 5 + 1, none⟩ = some (.int .i64 x.d) ∧
      wr.cell? ⟨b, off + k * 5 + 2, none⟩ = some (.int .i64 x.a) ∧ wr.cell? ⟨b, off + k * 5 + 3, none⟩ = some (.int .i64 x.b) ∧ wr.cell? ⟨b, off + k * 5 + 4, none⟩ = some (.int .u64 (x.v.toNat : Int)) := by
  obtain ⟨b, off, y, e, hy, h0⟩ := h.getOp hb (List.getElem?_eq_some_iff.1 hk).1
  obtain rfl : x = y := by have := hk.symm.trans hy.out; simpa using this
  exact ⟨b, off, e, h0⟩
theorem getI_eq {w wr : World} {a : Option Addr} {l : List Int} (h : At w a l) (hb : Below w.heap.size w wr) {k : Nat} {x : Int} (hk : l[k]? = some x) :
    ∃ b off, a = some ⟨b, off, none⟩ ∧ wr.cell? ⟨b, off + k, none⟩ = some (.int .i64 x) := by
  obtain ⟨b, off, y, e, hy, h0⟩ := h.getI hb (List.getElem?_eq_some_iff.1 hk).1
  obtain rfl : x = y := by have := hk.symm.trans hy.out; simpa using this
  exact ⟨b, off, e, h0⟩

set_option maxRecDepth 100000 in
set_option maxHeartbeats 6400000 in
theorem cd_good (regs : Int) (a : Option Addr) (c : Nat) (f : Fo) (w : World) (h : At w a f.flat) (g : Good regs f) :
    Calls Tryz.prog 47 #[.agg #[.int .i64 regs, .slice a f.flat.length c]] w (CodePost regs f.flat w) := by
  have hl : f.flat.length ≤ 4096 := g.len
  have h1 := h.belowN (below_new12 w (.cells #[.int .i64 regs, .slice a f.flat.length c] 24))
  have hb0 := below_new12 w (.cells #[.int .i64 regs, .slice a f.flat.length c] 24)
  have hX := Blk.new w 24 #[.int .i64 regs, .slice a f.flat.length c]
  have HP := hide (Prog_calls regs a c f.flat _ h1 (by omega))
  have HM := hide (fun w' (g1 : At w' a f.flat) => MatchW a c f.flat w' g1 (by omega) (well_of_flat f g.ok))
  have HZ := hide (fun w' (g1 : At w' a f.flat) => SizeZ_calls a c f.flat w' g1 (by omega))
  obtain ⟨z1, z2, z3, z4⟩ := W9_ok g.ok ⟨g.may, g.few⟩
  rw [z1, z3, f.sizes_length] at HZ
  have HC := hide (codeS_good g)
  have HK := hide g.check
  have HG := hide g
  rw [g.check] at HP
  change Hid (∀ w', At w' a f.flat → Calls Tryz.prog 97 #[.slice a f.flat.length c] w' fun e w'' => ∃ a' c', e = .returned (.tuple #[.slice a' f.flat.length c', .int .i64 0]) ∧ Own w'' w'.heap.size 3 a' c' f.sizes ∧ Below w'.heap.size w' w'') at HZ
  clear z1 z2 z3 z4 g
  go_enter Tryz.func47, Tryz.ntmps47
  go_wp2_with (first
    | (go_at_call 95; ((with_reducible refine (HP.out).mono ?_); rintro e w1 ⟨rfl, hb1⟩; have hB1 := hb0.trans (hb1.mono hb0.size); obtain ⟨q0, q1, q2, q3⟩ := (hX.belowN hb1).c2))
    | (go_at_call 96; ((with_reducible refine (HM.out _ (h.belowN hB1)).mono ?_); rintro e w2 ⟨am, cm, rfl, hom, hb2⟩; have hB2 := hB1.trans (hb2.mono hB1.size); obtain ⟨q0', q1', q2', q3'⟩ := ((hX.belowN hb1).belowN hb2).c2))
    | (go_at_call 97; ((with_reducible refine (HZ.out _ (h.belowN hB2)).mono ?_); rintro e w3 ⟨az, cz, rfl, hoz, hb3⟩; have hB3 := hB2.trans (hb3.mono hB2.size); have hX3 := ((hX.belowN hb1).belowN hb2).belowN hb3)))
  have hm3 : At w3 am (matchL f.flat) := (hom.belowN hb3).at_
  have hz3 : At w3 az f.sizes := hoz.at_
  have hl3 : At w3 a f.flat := h.belowN hB3
  have hs3 := hB3.size
  have hxl := hX3.lt
  clear hom hoz hb1 hb2 hb3 hB1 hB2 q0 q1 q2 q3 q0' q1' q2' q3' h1 hX HP HM HZ
  go_loopw [9, 10, 11] (fun ov sv iv wr => ∃ (i : Nat) (ao as' : Option Addr) (co cs n s : Nat) (out : List (OpD × Int)) (gf : Fo) (st : List Cf), iv = .int .i64 i ∧ i ≤ f.flat.length ∧ ov = .slice ao n co ∧ sv = .slice as' s cs ∧ Hid (n = out.length) ∧ Hid (s = st.length) ∧ n ≤ i ∧ s ≤ i ∧
      Hid (CdOk f.flat (matchL f.flat) (f.bare.code 0) i out gf st) ∧ Own wr w3.heap.size 176 ao co out ∧ Own wr w3.heap.size 3 as' cs (opn st) ∧ Below w3.heap.size w3 wr) (fun _ _ iv _ => f.flat.length - (intOf iv).toNat)
  case atStart => exact ⟨0, none, none, 0, 0, 0, 0, [], f, [], rfl, by omega, rfl, rfl, rfl, rfl, by omega, by omega, hide (CdOk.start HG.out.ok), Own.none _ _ _, Own.none _ _ _, Below.refl _ _⟩
  case round =>
    obtain ⟨i, ao, as', co, cs, n, s, out, gf, st, rfl, hi, rfl, rfl, hn, hs, hni, hsi, hcd, hoo, hos, hbr⟩ := hrel
    have hzr := hbr.size
    obtain ⟨q0, q1, q2, q3⟩ := (hX3.belowN hbr).c2
    by_cases hlt : i < f.flat.length
    · cases gf with
      | nil =>
        cases st with
        | nil => exact absurd (hcd.out.done).1 (by omega)
        | cons s0 st =>
          obtain ⟨e1, ek, eo, hcd2⟩ := hcd.out.end_
          obtain ⟨b1, off1, rfl, x0, x1, x2, x3, x4⟩ := getOp_eq hl3 hbr e1
          have k7 : (s0.fin.kind == 7) = false := by simp; omega
          have k0 : (s0.fin.kind == 0) = true := by simp; omega
          have hone : out ≠ [] := by intro e; subst e; simp at eo
          have hsne : opn (s0 :: st) ≠ [] := by rw [opn_cons]; simp
          obtain ⟨go, rfl, hgo1, hgo2⟩ := hoo.some_ hone
          obtain ⟨gs, rfl, hgs1, hgs2⟩ := hos.some_ hsne
          obtain ⟨s', rfl⟩ : ∃ s', s = s' + 1 := ⟨s - 1, by have := hs.out; simp at this; omega⟩
          have hs' : s' = st.length := by have := hs.out; simp at this; omega
          have hlast : (opn (s0 :: st))[s']? = some (s0.bg : Int) := by rw [opn_cons, List.getElem?_append_right (by rw [opn_length]; omega), opn_length, hs', Nat.sub_self]; rfl
          have t0 : wr.cell? ⟨gs, s', none⟩ = some (.int .i64 (s0.bg : Int)) := by simpa [Flat.n] using hos.cellAt hlast (f := 0) rfl
          have hcap : s' + 1 ≤ cs := by have := hos.cap.1; rw [opn_length] at this; simp at this; omega
          have hbg : s0.bg < n := by rw [hn.out]; exact (List.getElem?_eq_some_iff.1 eo).1
          have tc : wr.cell? ⟨go, s0.bg * 6 + 5, none⟩ = some (.int .i64 0) := by simpa [Flat.n] using hoo.cellAt eo (f := 5) rfl
          have tf := hoo.frozen (s0.bg * 6 + 5)
          have hpop : Own wr w3.heap.size 3 (some ⟨gs, 0, none⟩) cs (opn st) := by have := hos.pop hsne; rwa [opn_cons, List.dropLast_concat] at this
          have hgn : go ≠ wr.heap.size := by omega
          have hgg : go ≠ gs := hoo.ne_E hos (by decide)
          have hnn : ((n : Int) + 1) = ((out.length + 1 : Nat) : Int) := by rw [hn.out]; rfl
          have hoo1 : Own ((wr.setCell ⟨go, s0.bg * 6 + 5, none⟩ (.int .i64 ((n : Int) + 1))).alloc (.cells #[.int .i64 s0.fin.kind, .int .i64 s0.fin.d, .int .i64 s0.fin.a, .int .i64 s0.fin.b, .int .u64 (s0.fin.v.toNat : Int)] 89)) w3.heap.size 176 (some ⟨go, 0, none⟩) co (out.set s0.bg (s0.op, ((out.length + 1 : Nat) : Int))) :=
            (hoo.setAt s0.bg 5 (s0.op, ((out.length + 1 : Nat) : Int)) (s0.op, 0) (.int .i64 ((n : Int) + 1)) eo (by decide) (by rw [hnn]; rfl)).alloc _
          have hps1 : Own ((wr.setCell ⟨go, s0.bg * 6 + 5, none⟩ (.int .i64 ((n : Int) + 1))).alloc (.cells #[.int .i64 s0.fin.kind, .int .i64 s0.fin.d, .int .i64 s0.fin.a, .int .i64 s0.fin.b, .int .u64 (s0.fin.v.toNat : Int)] 89)) w3.heap.size 3 (some ⟨gs, 0, none⟩) cs (opn st) := (hpop.far (by simpa using hgg.symm) _).alloc _
          have hb1 := (hbr.setCell (p := ⟨go, s0.bg * 6 + 5, none⟩) hgo1 (.int .i64 ((n : Int) + 1))).alloc (by simpa using hzr) (.cells #[.int .i64 s0.fin.kind, .int .i64 s0.fin.d, .int .i64 s0.fin.a, .int .i64 s0.fin.b, .int .u64 (s0.fin.v.toNat : Int)] 89)
          have HOL : Hid (n = (out.set s0.bg (s0.op, ((out.length + 1 : Nat) : Int))).length) := by show n = _; rw [List.length_set]; exact hn.out
          have hz1 := hb1.size
          have HCD := hide hcd2
          have HS' := hide hs'
          clear e1 ek eo hcd2 hlast hone hsne hnn hs'
          go_wp2_with (at_builtin; go_loud (refine wpList_push tyIns hoo1 (s0.fin, ((s0.bg + 1 : Nat) : Int)) rfl rfl rfl rfl rfl (by simp) HOL.out hz1 (by omega) ?_); intro a4 c4 w4 hown4 hg4 hm4)
          go_roundw
          case rel =>
            refine ⟨i + 1, a4, some ⟨gs, 0, none⟩, c4, cs, n + 1, s', _, s0.r, st, by go_num, by omega, rfl, rfl, ?_, HS'.out, by omega, by omega, HCD, hown4, hps1.grown hg4 (hps1.far_E hoo1 (by decide)), below_push hb1 hoo1 hg4 hz1⟩
            show n + 1 = _
            rw [List.length_append, ← HOL.out]
            rfl
          case measure => simp [intOf]; omega
      | leaf op r =>
        obtain ⟨e1, k1, k2, hcd2⟩ := hcd.out.leaf
        obtain ⟨b1, off1, rfl, x0, x1, x2, x3, x4⟩ := getOp_eq hl3 hbr e1
        have k7 : (op.kind == 7) = false := by simp; omega
        have k0 : (op.kind == 0) = false := by simp; omega
        have hoo1 : Own (wr.alloc (.cells #[.int .i64 op.kind, .int .i64 op.d, .int .i64 op.a, .int .i64 op.b, .int .u64 (op.v.toNat : Int)] 89)) w3.heap.size 176 ao co out := hoo.alloc _
        have HCD := hide hcd2
        clear e1 k1 k2 hcd2
        go_wp2_with (at_builtin; refine wpList_push tyIns hoo1 (op, (0 : Int)) rfl rfl rfl rfl rfl (by simp) hn.out (by simp; omega) (by omega) ?_; intro a4 c4 w4 hown4 hg4 hm4)
        go_roundw
        case rel =>
          refine ⟨i + 1, a4, as', c4, cs, n + 1, s, out ++ [(op, 0)], r, st, by go_num, by omega, rfl, rfl, by show n + 1 = _; rw [hn.out]; simp, hs, by omega, by omega, HCD, hown4, (hos.alloc _).grown hg4 ((hos.alloc _).far_E hoo1 (by decide)), below_push (hbr.alloc hzr _) hoo1 hg4 (by simp; omega)⟩
        case measure => simp [intOf]; omega
      | rep op b fin r =>
        have hst := hcd.out.1
        obtain ⟨e1, k7, e3, _⟩ := hst.rep
        have es := sizes_at HG.out.ok hst
        obtain ⟨b1, off1, rfl, x0, x1, x2, x3, x4⟩ := getOp_eq hl3 hbr e1
        obtain ⟨b2, off2, rfl, y0⟩ := getI_eq hz3 hbr es
        obtain ⟨b3, off3, rfl, m0⟩ := getI_eq hm3 hbr e3
        have k7b : (op.kind == 7) = true := by simp; omega
        have hyl := World.block_lt_of_cell? _ _ y0
        have hml := World.block_lt_of_cell? _ _ m0
        have k0 : (op.kind == 0) = false := by simp; omega
        have hle := hst.lt.1
        rw [Fo.size_rep] at hle
        have hle2 : i + b.size + 1 < f.flat.length := by omega
        obtain ⟨Z, hZ⟩ : ∃ Z : Nat, Z = i + b.size + 1 := ⟨_, rfl⟩
        rw [← hZ] at m0 hle2
        have HZ := hide hZ
        have hZi : i < Z := by omega
        by_cases hq : b.wr * op.v.toNat = 0
        · have hcd2 := hcd.out.skip hq
          rw [show i + b.size + 2 = Z + 1 by omega] at hcd2
          rw [hq] at y0
          have HCD := hide hcd2
          clear e1 k7 e3 es hst hle hZ hq hcd2
          go_wp2
          go_roundw
          case rel => exact ⟨Z + 1, ao, as', co, cs, n, s, out, r, st, by go_num, by omega, rfl, rfl, hn, hs, by omega, by omega, HCD, hoo.alloc _, hos.alloc _, hbr.alloc hzr _⟩
          case measure => simp [intOf]; omega
        · have hcd2 := hcd.out.open_ hq
          obtain ⟨q, hqq⟩ : ∃ q : Nat, q = b.wr * op.v.toNat := ⟨_, rfl⟩
          rw [← hqq] at y0 hq
          have hqb : ((q : Int) == 0) = false := by simpa using hq
          have HCD := hide hcd2
          have hoo1 : Own (wr.alloc (.cells #[.int .i64 op.kind, .int .i64 op.d, .int .i64 op.a, .int .i64 op.b, .int .u64 (op.v.toNat : Int)] 89)) w3.heap.size 176 ao co out := hoo.alloc _
          have hos1 : Own (wr.alloc (.cells #[.int .i64 op.kind, .int .i64 op.d, .int .i64 op.a, .int .i64 op.b, .int .u64 (op.v.toNat : Int)] 89)) w3.heap.size 3 as' cs (opn st) := hos.alloc _
          have hX1 := Blk.new wr 89 #[.int .i64 op.kind, .int .i64 op.d, .int .i64 op.a, .int .i64 op.b, .int .u64 (op.v.toNat : Int)]
          have hb1 := hbr.alloc hzr (.cells #[.int .i64 op.kind, .int .i64 op.d, .int .i64 op.a, .int .i64 op.b, .int .u64 (op.v.toNat : Int)] 89)
          have HOL : Hid (s = (opn st).length) := by show s = _; rw [opn_length]; exact hs.out
          clear e1 k7 e3 es hst hle hZ hqq hq hcd2
          go_wp2_with (first
            | (at_builtin; refine wpList_push tyI hos1 (n : Int) rfl rfl rfl rfl rfl (by simp) HOL.out (by simp; omega) (by omega) ?_; intro a4 c4 w4 hown4 hg4 hm4; have hoo2 := hoo1.grown hg4 (hoo1.far_E hos1 (by decide)); have hX2 := hX1.grown hg4 (by intro e; have := (hos.blk _ e.symm).2; omega); obtain ⟨v0, v1, v2, v3, v4, f0, f1, f2, f3, f4⟩ := hX2.c5; have hb2 := below_push hb1 hos1 hg4 (by simp; omega); have hz4 := hb2.size; clear hoo1 hX1)
            | (at_builtin; refine wpList_push tyIns hoo2 (op, (0 : Int)) rfl rfl rfl rfl rfl rfl hn.out hz4 (by omega) ?_; intro a5 c5 w5 hown5 hg5 hm5))
          go_roundw
          case rel =>
            refine ⟨i + 1, a5, a4, c5, c4, n + 1, s + 1, out ++ [(op, 0)], b, ⟨out.length, op, fin, r⟩ :: st, by go_num, by omega, rfl, rfl, by show n + 1 = _; rw [hn.out]; simp, by show s + 1 = _; rw [hs.out]; rfl, by omega, by omega, HCD, hown5, ?_, below_push hb2 hoo2 hg5 hz4⟩
            rw [opn_cons]
            have := hown4.grown hg5 (hown4.far_E hoo2 (by decide))
            rw [hn.out] at this
            exact this
          case measure => simp [intOf]; omega
    · obtain rfl : i = f.flat.length := by omega
      obtain ⟨rfl, rfl⟩ := hcd.out.last.2 rfl
      have HD := hide (hcd.out.done.2)
      go_wp2
      go_ret2
      unfold CodePost
      rw [HC.out, HK.out, HD.out]
      exact ⟨ao, co, by rw [hn.out]; rfl, hoo.mono hs3, hB3.trans (hbr.mono hs3)⟩
theorem Code_calls (regs : Int) (a : Option Addr) (c : Nat) (l : List OpD) (w : World) (h : At w a l) (hl : l.length ≤ 1000000) :
    Calls Tryz.prog 47 #[.agg #[.int .i64 regs, .slice a l.length c]] w (CodePost regs l w) := by
  by_cases hc : checkS regs l = 0
  · obtain ⟨f, rfl, g⟩ := good_of_check hc
    exact cd_good regs a c f w h g
  · exact cd_bad regs a c l w h hl hc
end Go.Proofs.YtcamcnahkdiefaaGreat

/- Chapter 12: the steps, as an iterator. -/
namespace Go.Proofs.YtcamcnahkdiefaaGreat
set_option linter.unusedVariables false
set_option linter.unusedSimpArgs false
open Go.RowKit Go.Shelf

theorem At.getIns {w wr : World} {a : Option Addr} {l : List (OpD × Int)} (h : At w a l) (hb : Below w.heap.size w wr) {k : Nat} {x : OpD × Int} (hk : l[k]? = some x) :
    ∃ b off, a = some ⟨b, off, none⟩ ∧ wr.cell? ⟨b, off + k * 6, none⟩ = some (.int .i64 x.1.kind) ∧ wr.cell? ⟨b, off + k * 6 + 1, none⟩ = some (.int .i64 x.1.d) ∧
      wr.cell? ⟨b, off + k * 6 + 2, none⟩ = some (.int .i64 x.1.a) ∧ wr.cell? ⟨b, off + k * 6 + 3, none⟩ = some (.int .i64 x.1.b) ∧ wr.cell? ⟨b, off + k * 6 + 4, none⟩ = some (.int .u64 (x.1.v.toNat : Int)) ∧
      wr.cell? ⟨b, off + k * 6 + 5, none⟩ = some (.int .i64 x.2) := by
  obtain ⟨b, off, y, e, hy, hc⟩ := (h.belowN hb).get (List.getElem?_eq_some_iff.1 hk).1
  obtain rfl : x = y := by have := hk.symm.trans hy.out; simpa using this
  exact ⟨b, off, e, hc 0 _ rfl, hc 1 _ rfl, hc 2 _ rfl, hc 3 _ rfl, hc 4 _ rfl, hc 5 _ rfl⟩

def StI (code : List (OpD × Int)) (steps : List Tk) (J : List OpD → List Nat → World → Prop) (F0 : List Nat) (W : World) (N : Nat) (lv av : Value) (wr : World) : Prop :=
  ∃ (pre rest : List Tk) (p : Nat) (st : List UInt64) (al : Option Addr) (cl k : Nat) (G : List Nat), rest.length = N ∧ av = .int .i64 p ∧ lv = .slice al k cl ∧ k = st.length ∧ p ≤ code.length ∧ k ≤ 8 ∧ Chn code (p, st) rest (code.length, []) ∧ steps = pre ++ rest ∧
    Own wr W.heap.size 50 al cl st ∧ J (pre.map (·.op)) G wr ∧ (∀ g, al.map (·.block) = some g → g ∉ G) ∧ (∀ g ∈ G, g ∈ F0 ∨ W.heap.size ≤ g) ∧ Turned F0 W wr

theorem StI.measure {code : List (OpD × Int)} {steps : List Tk} {J : List OpD → List Nat → World → Prop} {F0 : List Nat} {W : World} {N : Nat} {lv av : Value} {wr : World} {lv' av' : Value} {wr' : World}
    (hN : N + 1 = leastOf (fun N => StI code steps J F0 W N lv av wr)) (h : StI code steps J F0 W N lv' av' wr') : leastOf (fun N => StI code steps J F0 W N lv' av' wr') < leastOf (fun N => StI code steps J F0 W N lv av wr) := by
  have := (leastOf_spec (p := fun N => StI code steps J F0 W N lv' av' wr') ⟨N, h⟩).2 N h
  omega
set_option maxRecDepth 100000 in
set_option maxHeartbeats 6400000 in
theorem steps1_seq (n : Nat) (hn : 1 ≤ n) (Bs : Nat) (ac : Option Addr) (cc : Nat) (regs : Int) (f : Fo) (g : Good regs f) (w : World) (z : Nat) (hBs : Blk w Bs 100 #[.slice ac (f.bare.code 0).length cc]) (hc : At w ac (f.bare.code 0)) (hz : f.bare.code 0 ≠ [] → ∀ g, ac.map (·.block) = some g → g < z) :
    SeqAll Fence.wide n Tryz.prog 98 #[.pointer (some ⟨Bs, 0, none⟩)] (fun x : OpD => #[.agg #[.int .i64 x.kind, .int .i64 x.d, .int .i64 x.a, .int .i64 x.b, .int .u64 (x.v.toNat : Int)]]) (f.steps.map (·.op)) (fun b => z ≤ b ∧ b ≠ Bs) w := fun l J F0 W hW hJ hF0 hY h0 => by
  have hlen := g.code_length
  have HTK := hide g.tk
  have HPOS := hide g.tk_pos
  have hchn := hide g.chn
  generalize f.bare.code 0 = code at *
  generalize f.steps = steps at *
  have HY := hide hY
  have HJ := hide hJ
  have HF0 := hide hF0
  have H0 := hide h0
  have HZ := hide hz
  have hBW := hBs.belowN hW
  have hcW := hc.belowN hW
  have hws := hW.size
  have hbl := hBW.lt
  have hB0 := hBs.lt
  clear hY hJ hF0 h0 hBs hz
  refine callsIn_of_wp Tryz.func98 rfl trivial ?_ rfl
  simp only [Tryz.ntmps98, List.size_toArray, List.length_cons, List.length_nil, Nat.reduceAdd, Nat.reduceSub, Array.replicate_succ, Array.replicate_zero, List.push_toArray, List.append_toArray, List.nil_append, List.cons_append]
  gi_wp2
  gi_loopw [3, 4] (fun lv av wr => ∃ N, StI code steps J F0 W N lv av wr) (fun lv av wr => leastOf fun N => StI code steps J F0 W N lv av wr)
  case atStart => exact ⟨_, [], steps, 0, [], none, 0, 0, F0, rfl, rfl, rfl, rfl, by omega, by omega, hchn.out, rfl, Own.none _ _ _, H0.out, fun g hg => by simp at hg, fun g hg => .inl hg, Turned.refl _ _⟩
  case round =>
    obtain ⟨N0, hN0⟩ : ∃ N0, N0 = leastOf (fun N => StI code steps J F0 W N u3 u4 wr) := ⟨_, rfl⟩
    have hs := (leastOf_spec hrel).1
    rw [← hN0] at hs
    obtain ⟨pre, rest, p, st, al, cl, k, G, hrN, hav, hlv, hk, hp, hk8, hch, hst, hown, hj, hdis, hG, hT⟩ := hs
    have HN0 := hide hN0
    have hXr : At wr ac code := hcW.turned hT (fun hne g hg e => by have h1 := HZ.out hne g e; have h2 := (HF0.out g hg).1; omega)
    obtain ⟨b0, b0f⟩ := (hBW.belowN (Below.refl _ _)).c1
    have hBr : Blk wr Bs 100 #[.slice ac code.length cc] := (hT.block Bs hbl (fun hm => (HF0.out _ hm).2 rfl)).trans hBW
    obtain ⟨q0, q1⟩ := hBr.c1
    clear b0 b0f
    have HCH := hide hch
    have HST := hide hst
    have HJ0 := hide hj
    have HDIS := hide hdis
    have HGG := hide hG
    have HK := hide hk
    clear hch hst hj hdis hG hk hrel hN0
    subst hav hlv
    cases rest with
    | nil =>
      have e := HCH.out
      change (p, st) = (code.length, []) at e
      injection e with e1 e2
      subst e1
      have e3 : steps = pre := by rw [HST.out]; simp
      have HE := hide e3
      clear e2 e3
      gi_wp2
      go_end0
      exact ⟨⟨_, rfl⟩, G, by rw [HE.out]; exact HJ0.out, hT, HGG.out⟩
    | cons x rest =>
      obtain ⟨e1, e2, e3⟩ := HCH.out
      injection e1 with e1a e1b
      subst e1a e1b
      have hmem : x ∈ steps := by rw [HST.out]; simp
      obtain ⟨t1, t2, t3, t4, t5, t6, t7, t8, t9⟩ := HTK.out x hmem
      obtain ⟨b1, off1, hac, x0, x1, x2, x3, x4, x5⟩ := hXr.getIns (Below.refl _ _) e2
      subst hac
      simp only at x0 x1 x2 x3 x4 x5
      have hlt := HJ.out.lt _ _ _ HJ0.out
      have hj1 : J (pre.map (·.op)) G (wr.alloc (.cells #[.int .i64 x.op.kind, .int .i64 x.op.d, .int .i64 x.op.a, .int .i64 x.op.b, .int .u64 (x.op.v.toNat : Int), .int .i64 x.to] 176)) := HJ.out.keep _ _ _ _ HJ0.out (by simp) (fun b hb => Below.heap_alloc _ _ _ (hlt b hb))
      have hT1 : Turned F0 W (wr.alloc (.cells #[.int .i64 x.op.kind, .int .i64 x.op.d, .int .i64 x.op.a, .int .i64 x.op.b, .int .u64 (x.op.v.toNat : Int), .int .i64 x.to] 176)) := hT.trans (Turned.ofBelow (F := F0) (Below.alloc (Below.refl _ _) (Nat.le_refl _) _)) (fun b hb => .inl hb)
      obtain ⟨fn, tmps, assign, body, hy, hR⟩ := HY.out (pre.map (·.op)) x.op G _ hj1 hT1 ⟨rest.map (·.op), by rw [HST.out]; simp⟩
      have hX := Blk.new wr 176 #[.int .i64 x.op.kind, .int .i64 x.op.d, .int .i64 x.op.a, .int .i64 x.op.b, .int .u64 (x.op.v.toNat : Int), .int .i64 x.to]
      have HLT := hide hlt
      have HE3 := hide e3
      have HPX := hide (HPOS.out x hmem)
      have hown1 := hown.alloc (.cells #[.int .i64 x.op.kind, .int .i64 x.op.d, .int .i64 x.op.a, .int .i64 x.op.b, .int .u64 (x.op.v.toNat : Int), .int .i64 x.to] 176)
      clear hj1 e2 e3 hmem t5 hlt HY
      try dsimp only at hy
      gi_wp2
      refine hR.mono ?_
      rintro e W3 ⟨rfl, G', hj3, hT3, hG3⟩
      have hz3 := hT3.size
      simp only [World.size_alloc] at hz3
      have hX3 : Blk W3 wr.heap.size 176 #[.int .i64 x.op.kind, .int .i64 x.op.d, .int .i64 x.op.a, .int .i64 x.op.b, .int .u64 (x.op.v.toNat : Int), .int .i64 x.to] := (hT3.block _ hX.lt (fun hm => by have := HLT.out _ hm; omega)).trans hX
      obtain ⟨v0, v1, v2, v3, v4, v5, f0, f1, f2, f3, f4, f5⟩ := hX3.c6
      have hown3 := hown1.turned hT3 HDIS.out
      have HJ3 := hide hj3
      have hsz := hT.size
      have hT13 : Turned F0 W W3 := hT1.trans hT3 (fun b hb => HGG.out b hb)
      have hG3' : ∀ b ∈ G', b ∈ F0 ∨ W.heap.size ≤ b := fun b hb => (hG3 b hb).elim (HGG.out b) (fun h => .inr (by simp at h; omega))
      have hdis3 : ∀ g, al.map (·.block) = some g → g ∉ G' := fun g hg hm => (hG3 g hm).elim (HDIS.out g hg) (fun h => by have := (hown.blk g hg).2; simp at h; omega)
      have HG3 := hide hG3'
      have HD3 := hide hdis3
      have hst2 : steps = (pre ++ [x]) ++ rest := by rw [HST.out]; simp
      have HST2 := hide hst2
      have hmap : (pre ++ [x]).map (·.op) = pre.map (·.op) ++ [x.op] := by simp
      rw [← hmap] at HJ3
      have HOBL := hide (fun q (hq : al.map (·.block) = some q) => (hown.blk q hq).2)
      clear hj3 hG3 hG3' hdis3 hst2 hmap hR x0 x1 x2 x3 x4 x5 hown hown1 hX hX3 hT1 hT3 hy
      rcases kind_cases x.op with ⟨k7, b7, b0⟩ | ⟨k0, b7, b0⟩ | ⟨k7, k0, b7, b0⟩
      · have hnx : x.next = (x.at' + 1, x.st ++ [x.op.v]) := by unfold Tk.next; rw [if_pos k7]
        have hch2 := HE3.out
        rw [hnx] at hch2
        have HCH2 := hide hch2
        have hk7 := t3 k7
        rw [← HK.out] at hk7
        clear hnx hch2 k7 t3 t4
        gi_wp2_with (gi_at_builtin; refine wpListIn_push tyU hown3 x.op.v rfl rfl rfl rfl rfl rfl HK.out (by omega) (by omega) ?_; intro a4 c4 w4 hown4 hg4 hm4)
        have hlt3 := HJ.out.lt _ _ _ HJ3.out
        have hne4 : ∀ g, a4.map (·.block) = some g → g ∉ G' := by
          intro g hg hm
          rcases hm4 with e | ⟨g', e, hle⟩
          · exact HD3.out g (by rw [← e]; exact hg) hm
          · have := hlt3 g hm; rw [e] at hg; injection hg with hg; omega
        have hnew : StI code steps J F0 W rest.length (.slice a4 (k + 1) c4) (.int .i64 ((x.at' : Int) + 1)) w4 :=
          ⟨pre ++ [x], rest, x.at' + 1, x.st ++ [x.op.v], a4, c4, k + 1, G', rfl, by go_num, rfl, by rw [HK.out]; simp, by omega, by omega, HCH2.out, HST2.out, hown4,
            HJ.out.keep _ _ _ _ HJ3.out hg4.size (fun b hb => hg4.block b (hlt3 b hb) (fun e => HD3.out b e.symm hb)), hne4, HG3.out,
            hT13.trans (Turned.ofGrown (F := (al.map (·.block)).toList) hg4 (fun b hb => .inl (by rw [hb]; simp))) (fun b hb => .inr (hown3.blk b (by simpa using hb)).1)⟩
        go_roundw
        case rel => exact ⟨_, hnew⟩
        case measure => exact StI.measure (by have := HN0.out; rw [← this, ← hrN]; rfl) hnew
      ·
        have hst0 := t4 k0
        obtain ⟨gs, hgs, hgs1, hgs2⟩ := hown3.some_ hst0
        subst hgs
        obtain ⟨st', last, hst'⟩ : ∃ st' last, x.st = st' ++ [last] := ⟨x.st.dropLast, x.st.getLast hst0, (List.dropLast_concat_getLast hst0).symm⟩
        have hpos := HPX.out k0
        have hk' : k = st'.length + 1 := by rw [HK.out, hst']; simp
        obtain ⟨k', rfl⟩ : ∃ k', k = k' + 1 := ⟨k - 1, by omega⟩
        have hk2 : k' = st'.length := by omega
        have hlast : x.st[k']? = some last := by rw [hst', hk2]; simp
        have hgl : x.st.getLast?.getD 0 = last := by rw [hst']; simp
        rw [hgl] at hpos
        have hub := last.toNat_lt
        have tl : W3.cell? ⟨gs, k', none⟩ = some (.int .u64 (last.toNat : Int)) := by simpa [Flat.n] using hown3.cellAt hlast (f := 0) rfl
        have tlf := hown3.frozen k'
        have hcap : k' + 1 ≤ cl := by have := hown3.cap.1; rw [hst'] at this; simp at this; omega
        have hlt3 := HJ.out.lt _ _ _ HJ3.out
        have hsub : ((last.toNat : Int) - 1) = ((last - 1).toNat : Int) := by rw [UInt64.toNat_sub]; simp; omega
        have hset : Own (W3.setCell ⟨gs, k', none⟩ (.int .u64 ((last.toNat : Int) - 1))) W.heap.size 50 (some ⟨gs, 0, none⟩) cl (x.st.set k' (last - 1)) := hown3.set1 k' (last - 1) _ (by rw [hsub]; rfl)
        have hsetl : x.st.set k' (last - 1) = st' ++ [last - 1] := by rw [hst', hk2]; simp
        rw [hsetl] at hset
        have hJ4 : J ((pre ++ [x]).map (·.op)) G' (W3.setCell ⟨gs, k', none⟩ (.int .u64 ((last.toNat : Int) - 1))) := HJ.out.keep _ _ _ _ HJ3.out (by simp) (fun b hb => Below.heap_setCell _ _ _ _ (fun e => HD3.out gs rfl (by have e' : b = gs := e; rw [← e']; exact hb)))
        have hT4 : Turned F0 W (W3.setCell ⟨gs, k', none⟩ (.int .u64 ((last.toNat : Int) - 1))) := hT13.trans (Turned.ofGrown (F := [gs]) (grown_setCell W3 gs k' _) (fun b hb => .inl (by injection hb with hb; simp [hb]))) (fun b hb => .inr (by simp at hb; omega))
        have HJ4 := hide hJ4
        have HS' := hide hst'
        have HK2 := hide hk2
        have hgn : gs ≠ wr.heap.size := by have := HOBL.out gs rfl; omega
        by_cases hq : 1 < last.toNat
        · have hnx : x.next = (x.to.toNat, st' ++ [last - 1]) := by unfold Tk.next; rw [if_neg (by omega), if_pos k0, hgl, if_pos hq, HS'.out]; simp
          have hch2 := HE3.out
          rw [hnx] at hch2
          have HCH2 := hide hch2
          have hdq : decide (0 < (last.toNat : Int) - 1) = true := by simp; omega
          clear hnx hch2 k0 t3 t4 hlast hgl hsub hsetl hJ4 hst0 hst' hk2 hk' HPX
          gi_wp2
          have hnew : StI code steps J F0 W rest.length (.slice (some ⟨gs, 0, none⟩) (k' + 1) cl) (.int .i64 x.to) (W3.setCell ⟨gs, k', none⟩ (.int .u64 ((last.toNat : Int) - 1))) :=
            ⟨pre ++ [x], rest, x.to.toNat, st' ++ [last - 1], some ⟨gs, 0, none⟩, cl, k' + 1, G', rfl, by congr 1; omega, rfl, by rw [HK2.out]; simp, by omega, by omega, HCH2.out, HST2.out, hset, HJ4.out, HD3.out, HG3.out, hT4⟩
          go_roundw
          case rel => exact ⟨_, hnew⟩
          case measure => exact StI.measure (by have := HN0.out; rw [← this, ← hrN]; rfl) hnew
        · have hnx : x.next = (x.at' + 1, st') := by unfold Tk.next; rw [if_neg (by omega), if_pos k0, hgl, if_neg hq, HS'.out]; simp
          have hch2 := HE3.out
          rw [hnx] at hch2
          have HCH2 := hide hch2
          have hdq : decide (0 < (last.toNat : Int) - 1) = false := by simp; omega
          have hpop := hset.pop (by simp)
          rw [List.dropLast_concat] at hpop
          clear hnx hch2 k0 t3 t4 hlast hgl hsub hsetl hJ4 hst0 hst' hk2 hk' HPX
          gi_wp2
          have hnew : StI code steps J F0 W rest.length (.slice (some ⟨gs, 0, none⟩) k' cl) (.int .i64 ((x.at' : Int) + 1)) (W3.setCell ⟨gs, k', none⟩ (.int .u64 ((last.toNat : Int) - 1))) :=
            ⟨pre ++ [x], rest, x.at' + 1, st', some ⟨gs, 0, none⟩, cl, k', G', rfl, by go_num, rfl, HK2.out, by omega, by omega, HCH2.out, HST2.out, hpop, HJ4.out, HD3.out, HG3.out, hT4⟩
          go_roundw
          case rel => exact ⟨_, hnew⟩
          case measure => exact StI.measure (by have := HN0.out; rw [← this, ← hrN]; rfl) hnew
      ·
        have hnx : x.next = (x.at' + 1, x.st) := by unfold Tk.next; rw [if_neg k7, if_neg k0]
        have hch2 := HE3.out
        rw [hnx] at hch2
        have HCH2 := hide hch2
        clear hnx hch2 k7 k0 t3 t4
        gi_wp2
        have hnew : StI code steps J F0 W rest.length (.slice al k cl) (.int .i64 ((x.at' : Int) + 1)) W3 :=
          ⟨pre ++ [x], rest, x.at' + 1, x.st, al, cl, k, G', rfl, by go_num, rfl, HK.out, by omega, by omega, HCH2.out, HST2.out, hown3, HJ3.out, HD3.out, HG3.out, hT13⟩
        go_roundw
        case rel => exact ⟨_, hnew⟩
        case measure => exact StI.measure (by have := HN0.out; rw [← this, ← hrN]; rfl) hnew
end Go.Proofs.YtcamcnahkdiefaaGreat

/- Chapter 12: Unroll, Steps. -/
namespace Go.Proofs.YtcamcnahkdiefaaGreat
set_option linter.unusedVariables false
set_option linter.unusedSimpArgs false
open Go.RowKit Go.Shelf
attribute [local go_sem] Oper.semAt_some

noncomputable def unrS (regs : Int) (l : List OpD) : List OpD := if checkS regs l = 0 then (fo l).unroll else []
theorem unrS_good {regs : Int} {f : Fo} (g : Good regs f) : unrS regs f.flat = f.unroll := by unfold unrS; rw [if_pos g.check, fo_flat g.ok]
theorem unrS_bad {regs : Int} {l : List OpD} (h : checkS regs l ≠ 0) : unrS regs l = [] := by unfold unrS; rw [if_neg h]
def UnrPost (regs : Int) (l : List OpD) (w : World) (e : Ending) (w' : World) : Prop :=
  ∃ a c, e = .returned (.tuple #[.slice a (unrS regs l).length c, .int .i64 (checkS regs l)]) ∧ Own w' w.heap.size 89 a c (unrS regs l) ∧ Below w.heap.size w w'

theorem steps_calls (ac : Option Addr) (n cc : Nat) (w : World) : Calls Tryz.prog 48 #[.slice ac n cc] w fun e w' => e = .returned (.func (.func 98) #[] #[.pointer (some ⟨w.heap.size, 0, none⟩)]) ∧ w' = w.alloc (.cells #[.slice ac n cc] 100) := by
  go_enter Tryz.func48, Tryz.ntmps48
  go_wp2
  go_ret
  exact ⟨rfl, rfl⟩

set_option maxHeartbeats 800000 in
theorem unr_bad (regs : Int) (a : Option Addr) (c : Nat) (l : List OpD) (w : World) (h : At w a l) (hl : l.length ≤ 1000000) (hc : checkS regs l ≠ 0) :
    Calls Tryz.prog 17 #[.agg #[.int .i64 regs, .slice a l.length c]] w (UnrPost regs l w) := by
  have h1 := h.belowN (below_new12 w (.cells #[.int .i64 regs, .slice a l.length c] 24))
  have hb0 := below_new12 w (.cells #[.int .i64 regs, .slice a l.length c] 24)
  have HP := hide (Code_calls regs a c l _ h1 hl)
  have HU := hide (unrS_bad hc)
  obtain ⟨E, hE⟩ : ∃ E, E = checkS regs l := ⟨_, rfl⟩
  unfold CodePost at HP
  rw [← hE] at HP hc
  have HE := hide hE
  have e1 : (E == 0) = false := by simpa using hc
  have e2 : (E != 0) = true := by simpa using hc
  clear hE hc
  go_enter Tryz.func17, Tryz.ntmps17
  go_wp2_with (go_at_call 47; ((with_reducible refine (HP.out).mono ?_); rintro e w1 ⟨a1, c1, rfl, hown1, hb1⟩))
  go_ret2
  unfold UnrPost
  rw [HU.out, ← HE.out]
  exact ⟨none, 0, rfl, Own.none _ _ _, hb0.trans (hb1.mono hb0.size)⟩
def UnI (Bo B0 : Nat) (pre : List OpD) (G : List Nat) (W : World) : Prop :=
  ∃ (a : Option Addr) (n c : Nat), Blk W Bo 22 #[.slice a n c] ∧ Hid (n = (wrs pre).length) ∧ Own W B0 89 a c (wrs pre) ∧ G = Bo :: (a.map (·.block)).toList ∧ a.map (·.block) ≠ some Bo
theorem UnI.foot (Bo B0 : Nat) : Foot (UnI Bo B0) where
  keep := by
    rintro pre G W W' ⟨a, n, c, h1, h2, h3, rfl, h5⟩ hs hk
    exact ⟨a, n, c, (hk _ (by simp)).trans h1, h2, h3.keep (fun k hk' _ => hk k (by rw [hk']; simp)), rfl, h5⟩
  lt := by
    rintro pre G W ⟨a, n, c, h1, h2, h3, rfl, h5⟩ b hb
    simp only [List.mem_cons, Option.mem_toList] at hb
    rcases hb with rfl | hb
    · exact h1.lt
    · exact (h3.blk b hb).2
theorem wrs_snoc (l : List OpD) (x : OpD) : wrs (l ++ [x]) = if x.kind ≠ 7 ∧ x.kind ≠ 0 then wrs l ++ [x] else wrs l := by
  rw [wrs_append]
  by_cases h : x.kind ≠ 7 ∧ x.kind ≠ 0
  · rw [if_pos h]; unfold wrs; rw [List.filter_cons, if_pos (by simp [h.1, h.2])]; rfl
  · rw [if_neg h]; have : wrs [x] = [] := by unfold wrs; rw [List.filter_cons, if_neg (by simp; intro h1; exact Classical.byContradiction fun h2 => h ⟨h1, h2⟩)]; rfl
    rw [this, List.append_nil]
theorem wrs_length (l : List OpD) : (wrs l).length ≤ l.length := List.length_filter_le _ _

set_option maxRecDepth 100000 in
set_option maxHeartbeats 3200000 in
theorem unr_good (regs : Int) (a : Option Addr) (c : Nat) (f : Fo) (w : World) (h : At w a f.flat) (g : Good regs f) :
    Calls Tryz.prog 17 #[.agg #[.int .i64 regs, .slice a f.flat.length c]] w (UnrPost regs f.flat w) := by
  have hl : f.flat.length ≤ 4096 := g.len
  have h1 := h.belowN (below_new12 w (.cells #[.int .i64 regs, .slice a f.flat.length c] 24))
  have hb0 := below_new12 w (.cells #[.int .i64 regs, .slice a f.flat.length c] 24)
  have HP := hide (Code_calls regs a c f.flat _ h1 (by omega))
  have HU := hide (unrS_good g)
  have HK := hide g.check
  have HG := hide g
  have hcl := g.code_length
  have hgl := g.gone_le
  rw [← steps_length] at hgl
  unfold CodePost at HP
  rw [g.check, codeS_good g] at HP
  clear g
  refine (callsIn_wide (n := 5)).1 ?_
  refine callsIn_of_wp_marks Tryz.func17 rfl trivial ?_ rfl
  simp only [Tryz.ntmps17, List.size_toArray, List.length_cons, List.length_nil, Nat.reduceAdd, Nat.reduceSub, Array.replicate_succ, Array.replicate_zero, List.push_toArray, List.append_toArray, List.nil_append, List.cons_append]
  gi_wp2_with (first
    | (refine ⟨trivial, ?_⟩; gi_at_call 47; ((with_reducible refine (callsIn_wide.2 HP.out).mono ?_); rintro e w1 ⟨a1, c1, rfl, hown1, hb1⟩))
    | (refine ⟨trivial, ?_⟩; gi_at_call 48; ((with_reducible refine (callsIn_wide.2 (steps_calls _ _ _ _)).mono ?_); rintro e w2 ⟨rfl, rfl⟩)))
  have hs1 := hb1.size
  simp only [World.size_alloc] at hs1
  have hc1 := ((hown1.at_.belowN (below_new12 w1 (.cells #[.slice none 0 0] 22))).belowN (below_new12 _ (.cells #[.slice a1 (f.bare.code 0).length c1] 100)))
  have hBs := Blk.new (w1.alloc (.cells #[.slice none 0 0] 22)) 100 #[.slice a1 (f.bare.code 0).length c1]
  have hBo := (Blk.new w1 22 #[.slice none 0 0]).alloc (.cells #[.slice a1 (f.bare.code 0).length c1] 100)
  have hBB : Below w.heap.size w ((w1.alloc (.cells #[.slice none 0 0] 22)).alloc (.cells #[.slice a1 (f.bare.code 0).length c1] 100)) := ((hb0.trans (hb1.mono hb0.size)).alloc (by omega) _).alloc (by simp; omega) _
  have hz1 : ∀ g, a1.map (·.block) = some g → g < w1.heap.size := fun g hg => (hown1.blk g hg).2
  obtain ⟨Wb, hWb⟩ : ∃ Wb, Wb = (w1.alloc (.cells #[.slice none 0 0] 22)).alloc (.cells #[.slice a1 (f.bare.code 0).length c1] 100) := ⟨_, rfl⟩
  have hsz : Wb.heap.size = w1.heap.size + 2 := by rw [hWb]; simp
  simp only [World.size_alloc] at hBs
  rw [← hWb] at hc1 hBs hBo hBB ⊢
  have HZ1 := hide hz1
  have HSZ := hide hsz
  have hsz1 : w1.heap.size + 2 ≤ Wb.heap.size := by omega
  have hsz2 : Wb.heap.size ≤ w1.heap.size + 2 := by omega
  have hseq := steps1_seq 4 (by omega) (w1.heap.size + 1) a1 c1 regs f HG.out Wb w1.heap.size hBs hc1 (fun _ => hz1)
  generalize hxs : f.steps.map (·.op) = xs at hseq
  have hxl : xs.length ≤ 65536 * 17 := by rw [← hxs]; simpa using hgl
  have HXS := hide hxs
  generalize hn1 : (f.bare.code 0).length = n1 at *
  clear hxs hWb hown1 hb1 h1 hc1 hz1 hsz hgl hcl hn1
  refine wpIn_rangeFunc_all (F := Fence.wide) rfl (by omega) (gf := 98) (lb := #[.pointer (some ⟨w1.heap.size + 1, 0, none⟩)]) rfl trivial (enters_of Tryz.func98 (by kernel_rfl) rfl) hseq (fun b hb => ⟨by omega, by omega⟩) (Below.refl _ _) (fun _ => rfl)
    (UnI w1.heap.size Wb.heap.size) (UnI.foot _ _) [w1.heap.size] (fun b hb => by simp at hb; subst hb; omega) ⟨none, 0, 0, hBo, rfl, Own.none _ _ _, rfl, by simp⟩
    (fun x a' W => ∃ b, Wb.heap.size + 1 < b ∧ Blk W b 89 #[.int .i64 x.kind, .int .i64 x.d, .int .i64 x.a, .int .i64 x.b, .int .u64 (x.v.toNat : Int)] ∧ a' = { defers := [], tmps := #[.agg #[.int .i64 regs, .slice a f.flat.length c],
          .pointer (some ⟨w.heap.size, 0, none⟩), .slice none 0 0, .int .i64 0,
          .slice a1 n1 c1, .int .i64 0,
          .pointer (some ⟨w1.heap.size, 0, none⟩), .pointer (some ⟨b, 0, none⟩),
          .tuple #[.slice a1 n1 c1, .int .i64 0],
          .agg #[.int .i64 regs, .slice a f.flat.length c],
          .tuple #[.slice a1 n1 c1, .int .i64 0],
          .slice a1 n1 c1, .int .i64 0, .int .i64 0,
          .bool false, undef, .slice a1 n1 c1,
          .func (.func 98) #[] #[.pointer (some ⟨w1.heap.size + 1, 0, none⟩)], .agg #[.int .i64 x.kind, .int .i64 x.d, .int .i64 x.a, .int .i64 x.b, .int .u64 (x.v.toNat : Int)], undef,
          undef, undef, undef, undef, undef, undef, undef, undef, undef, undef, undef, undef] })
    (fun x a' W W' ⟨b, h1, h2, h3⟩ _ hk => ⟨b, h1, (hk b (by omega)).trans h2, h3⟩) ?assign ?body ?done
  case assign =>
    intro l pre x G W K hi hx hlt hG hK
    gi_wp2
    exact hK _ _ ⟨W.heap.size, hlt, Blk.new W _ _, rfl⟩ (below_new12 W _)
  case body =>
    rintro l pre x G W a' ⟨ao, no, co, hBo', hno, hown, rfl, hne⟩ ⟨b, hb, hbx, rfl⟩ hx hlt hG
    have hpl : pre.length < xs.length := by obtain ⟨t, rfl⟩ := hx; simp
    have hwl := wrs_length pre
    have hnl : no ≤ 65536 * 17 := by rw [hno.out]; omega
    obtain ⟨x0, x1, x2, x3, x4, y0, y1, y2, y3, y4⟩ := hbx.c5
    obtain ⟨o0, o1⟩ := hBo'.c1
    have hbl := hbx.lt
    have HX := hide hx
    have HSN := hide (wrs_snoc pre x)
    have HGG := hide hG
    have hzo : Wb.heap.size ≤ W.heap.size := by omega
    clear hx hG hwl hpl
    rcases kind_cases x with ⟨k7, b7, b0⟩ | ⟨k0, b7, b0⟩ | ⟨k7, k0, b7, b0⟩
    · have n7 : (x.kind != 7) = false := by simp [k7]
      have hs : wrs (pre ++ [x]) = wrs pre := by rw [HSN.out, if_neg (fun h => h.1 k7)]
      have HS := hide hs
      clear hs k7
      gi_wp2
      refine ⟨_, ⟨ao, no, co, hBo', by rw [HS.out]; exact hno, by rw [HS.out]; exact hown, rfl, hne⟩, Turned.refl _ _, fun b hb => .inl hb⟩
    · have n7 : (x.kind != 7) = true := by simp [k0]
      have n0 : (x.kind != 0) = false := by simp [k0]
      have hs : wrs (pre ++ [x]) = wrs pre := by rw [HSN.out, if_neg (fun h => h.2 k0)]
      have HS := hide hs
      clear hs k0
      gi_wp2
      refine ⟨_, ⟨ao, no, co, hBo', by rw [HS.out]; exact hno, by rw [HS.out]; exact hown, rfl, hne⟩, Turned.refl _ _, fun b hb => .inl hb⟩
    · have n7 : (x.kind != 7) = true := by simp [k7]
      have n0 : (x.kind != 0) = true := by simp [k0]
      have hs : wrs (pre ++ [x]) = wrs pre ++ [x] := by rw [HSN.out, if_pos ⟨k7, k0⟩]
      have HS := hide hs
      clear hs k7 k0
      gi_wp2_with (gi_at_builtin; refine wpListIn_push tyO hown x rfl rfl rfl rfl rfl rfl hno.out hzo (by omega) ?_; intro a4 c4 w4 hown4 hg4 hm4; have hBo4 := hBo'.grown hg4 (fun e => hne e.symm); obtain ⟨o0', o1'⟩ := hBo4.c1)
      have hne4 : a4.map (·.block) ≠ some w1.heap.size := by
        rcases hm4 with e | ⟨g', e, hle⟩
        · rw [e]; exact hne
        · rw [e]; intro e'; injection e' with e'; omega
      refine ⟨_, ⟨a4, no + 1, c4, hBo4.set_ 0 _, ?_, ?_, rfl, hne4⟩, ?_, ?_⟩
      · rw [HS.out, List.length_append, ← hno.out]; rfl
      · rw [HS.out]; exact hown4.setCell (by simp; omega) _
      · refine (Turned.ofGrown hg4 (fun k hk => .inl (by rw [hk]; simp))).trans (Turned.ofGrown (F := [w1.heap.size]) (grown_setCell w4 w1.heap.size 0 _) (fun k hk => .inl (by injection hk with hk; simp [hk]))) (fun k hk => .inl (by simp at hk; simp [hk]))
      · intro k hk
        simp only [List.mem_cons, Option.mem_toList] at hk ⊢
        rcases hk with rfl | hk
        · exact .inl (.inl rfl)
        · rcases hm4 with e | ⟨g', e, hle⟩
          · rw [e] at hk; exact .inl (.inr hk)
          · rw [e] at hk; injection hk with hk; exact .inr (by omega)
  case done =>
    rintro G W ⟨ao, no, co, hBo', hno, hown, rfl, hne⟩ hT hK hlt hG
    have hsz' := hT.size
    obtain ⟨o0, o1⟩ := hBo'.c1
    gi_wp2
    refine ⟨by simp, .inl ⟨_, _, rfl, run_takeDeferred hK, ?_⟩⟩
    refine ⟨_, results_tmp2 rfl _ _ _, ?_⟩
    have hxs : wrs xs = f.unroll := by rw [← HXS.out]; exact HG.out.steps_ops
    have hw0 := hb0.size
    simp only [World.size_alloc] at hw0
    unfold UnrPost
    rw [HU.out, HK.out, ← hxs]
    refine ⟨ao, co, by rw [← hno.out]; rfl, ?_, ?_⟩
    · exact (hown.keep (fun k hk _ => World.putObj_heap_other (fun e => hG (by rw [← e, hk]; simp)))).mono (by omega)
    · exact Turned.below (Turned.below hBB hT (fun k hk => by simp at hk; omega) (by omega)) (turned_putObj W Wb.heap.size _) (fun k hk => by simp at hk; omega) (by omega)
theorem Unroll_calls (regs : Int) (a : Option Addr) (c : Nat) (l : List OpD) (w : World) (h : At w a l) (hl : l.length ≤ 1000000) :
    Calls Tryz.prog 17 #[.agg #[.int .i64 regs, .slice a l.length c]] w (UnrPost regs l w) := by
  by_cases hc : checkS regs l = 0
  · obtain ⟨f, rfl, g⟩ := good_of_check hc
    exact unr_good regs a c f w h g
  · exact unr_bad regs a c l w h hl hc

def StN (Bo : Nat) (pre : List OpD) (G : List Nat) (W : World) : Prop := Blk W Bo 3 #[.int .i64 (pre.length : Int)] ∧ G = [Bo]
theorem StN.foot (Bo : Nat) : Foot (StN Bo) where
  keep := by
    rintro pre G W W' ⟨h1, rfl⟩ hs hk
    exact ⟨(hk _ (by simp)).trans h1, rfl⟩
  lt := by
    rintro pre G W ⟨h1, rfl⟩ b hb
    simp only [List.mem_singleton] at hb
    rw [hb]; exact h1.lt

end Go.Proofs.YtcamcnahkdiefaaGreat

/- Several texts of mine in one file: E13, E13b, E13c, E13d. -/
/- Chapter 13: the machine that runs. -/
namespace Go.Proofs.YtcamcnahkdiefaaGreat
set_option linter.unusedVariables false
set_option linter.unusedSimpArgs false
open Go.RowKit

def uptoL (U : List OpD) (m : Int) : List OpD := if m < 0 then U else U.take m.toNat
def LeftAt (w : World) (b : Nat) (st : List UInt64) : Prop := ∃ cs : Array Value, Blk w b 190 cs ∧ cs.size = 8 ∧ ∀ (i : Nat) (v : UInt64), st[i]? = some v → cs[i]? = some (.int .u64 (v.toNat : Int))
theorem LeftAt.cell {w : World} {b : Nat} {st : List UInt64} (h : LeftAt w b st) {i : Nat} {v : UInt64} (hv : st[i]? = some v) : w.cell? ⟨b, i, none⟩ = some (.int .u64 (v.toNat : Int)) := by
  obtain ⟨cs, h1, h2, h3⟩ := h
  exact h1.cell_ (h3 i v hv)
theorem LeftAt.push {w : World} {b : Nat} {st : List UInt64} (h : LeftAt w b st) (hs : st.length < 8) (v : UInt64) : LeftAt (w.setCell ⟨b, st.length, none⟩ (.int .u64 (v.toNat : Int))) b (st ++ [v]) := by
  obtain ⟨cs, h1, h2, h3⟩ := h
  refine ⟨_, h1.set_ st.length _, by simp [h2], fun i u hu => ?_⟩
  rw [Array.getElem?_setIfInBounds]
  by_cases hi : st.length = i
  · subst hi
    simp at hu
    subst hu
    rw [if_pos rfl, if_pos (by omega)]
  · rw [if_neg hi]
    refine h3 i u ?_
    rw [List.getElem?_append] at hu
    split at hu
    · exact hu
    · have := (List.getElem?_eq_some_iff.1 hu).1; simp at this; omega
theorem LeftAt.pop {w : World} {b : Nat} {st : List UInt64} {v : UInt64} (h : LeftAt w b (st ++ [v])) : LeftAt w b st := by
  obtain ⟨cs, h1, h2, h3⟩ := h
  exact ⟨cs, h1, h2, fun i x hx => h3 i x (by rw [List.getElem?_append_left (List.getElem?_eq_some_iff.1 hx).1]; exact hx)⟩
theorem LeftAt.turned {F : List Nat} {w w' : World} {b : Nat} {st : List UInt64} (h : LeftAt w b st) (hT : Turned F w w') (hb : b ∉ F) : LeftAt w' b st := by
  obtain ⟨cs, h1, h2, h3⟩ := h
  exact ⟨cs, (hT.block b h1.lt hb).trans h1, h2, h3⟩
theorem LeftAt.far {w : World} {b : Nat} {st : List UInt64} (h : LeftAt w b st) {p : Addr} (hp : b ≠ p.block) (u : Value) : LeftAt (w.setCell p u) b st := by
  obtain ⟨cs, h1, h2, h3⟩ := h
  exact ⟨cs, h1.far hp u, h2, h3⟩
theorem LeftAt.lt {w : World} {b : Nat} {st : List UInt64} (h : LeftAt w b st) : b < w.heap.size := by
  obtain ⟨cs, h1, h2, h3⟩ := h
  exact h1.lt
theorem Good.tk_in {regs : Int} {f : Fo} (g : Good regs f) : ∀ x ∈ f.steps, 1 ≤ x.op.kind → x.op.kind ≤ 6 → InR regs x.op := fun x hx h1 h2 => g.inF x.op (f.bare_mem _ (g.tk x hx).2.2.2.2.1) h1 h2
theorem wrs_snoc' (l : List OpD) (x : OpD) : wrs (l ++ [x]) = if x.kind ≠ 7 ∧ x.kind ≠ 0 then wrs l ++ [x] else wrs l := by
  rw [wrs_append]
  by_cases h : x.kind ≠ 7 ∧ x.kind ≠ 0
  · rw [if_pos h]; unfold wrs; rw [List.filter_cons, if_pos (by simp [h.1, h.2])]; rfl
  · rw [if_neg h]; have : wrs [x] = [] := by unfold wrs; rw [List.filter_cons, if_neg (by simp; intro h1; exact Classical.byContradiction fun h2 => h ⟨h1, h2⟩)]; rfl
    rw [this, List.append_nil]

section
variable {P : Program} {a : Act} {w : World} {Q : Exit → Act → World → Prop}
end

theorem below2 (W : World) (o1 o2 : Obj) : Below W.heap.size W ((W.alloc o1).alloc o2) := Below.alloc (Below.alloc (Below.refl _ _) (Nat.le_refl _) _) (by simp) _
def ExJ (code : List (OpD × Int)) (steps : List Tk) (S : Nat → World → Prop) (G0 : List Nat) (ac : Option Addr) (cc gr nr cr B Bl : Nat) (most : Int) (see : Value) (r0 : List UInt64) (W : World) (N : Nat) (a' : Act) (wr : World) : Prop :=
  ∃ (pre rest : List Tk) (p d k : Nat) (st : List UInt64), a'.defers = [] ∧ a'.tmps.size = 80 ∧
    a'.tmps.getD 0 undef = .slice ac code.length cc ∧ a'.tmps.getD 1 undef = .slice (some ⟨gr, 0, none⟩) nr cr ∧ a'.tmps.getD 2 undef = .int .i64 most ∧ a'.tmps.getD 3 undef = see ∧ a'.tmps.getD 8 undef = .pointer (some ⟨Bl, 0, none⟩) ∧
    a'.tmps.getD 9 undef = .int .i64 (p : Int) ∧ a'.tmps.getD 10 undef = .int .i64 (k : Int) ∧ a'.tmps.getD 11 undef = .int .i64 (d : Int) ∧
    rest.length = N ∧ p ≤ code.length ∧ k = st.length ∧ k ≤ 8 ∧ Chn code (p, st) rest (code.length, []) ∧ steps = pre ++ rest ∧ d = (wrs (pre.map (·.op))).length ∧ d ≤ 1200000 ∧ (most < 0 ∨ (d : Int) ≤ most) ∧
    LeftAt wr Bl st ∧ Own wr B 50 (some ⟨gr, 0, none⟩) cr (runR (wrs (pre.map (·.op))) r0) ∧ S d wr ∧ Turned (gr :: G0) W wr
theorem ExJ.measure {J : Nat → Act → World → Prop} {N : Nat} {a a' : Act} {w w' : World} (hN : N + 1 = leastOf (fun N => J N a w)) (h : J N a' w') : leastOf (fun N => J N a' w') < leastOf (fun N => J N a w) := by
  have := (leastOf_spec (p := fun N => J N a' w') ⟨N, h⟩).2 N h
  omega

end Go.Proofs.YtcamcnahkdiefaaGreat

/- Chapter 13: begin, Run, Upto, Last. -/
namespace Go.Proofs.YtcamcnahkdiefaaGreat
set_option linter.unusedVariables false
set_option linter.unusedSimpArgs false
open Go.RowKit

def dimsS (regs : Int) (l : List OpD) (n : Nat) : Int := if checkS regs l ≠ 0 then checkS regs l else if regs < (n : Int) then 10 else 0
noncomputable def uptoS (regs : Int) (l : List OpD) (r : List UInt64) (m : Int) : List UInt64 := if dimsS regs l r.length = 0 then runR (uptoL (unrS regs l) m) (startR regs.toNat r) else []
theorem enc_map (l : List UInt64) : l.flatMap Flat.enc = l.map fun x => Value.int .u64 (x.toNat : Int) := by
  induction l with
  | nil => rfl
  | cons x r ih => rw [List.flatMap_cons, ih]; rfl
end Go.Proofs.YtcamcnahkdiefaaGreat

/- Chapter 13: Run, Upto, Last. -/
namespace Go.Proofs.YtcamcnahkdiefaaGreat
set_option linter.unusedVariables false
set_option linter.unusedSimpArgs false
open Go.RowKit

theorem below_turned {F : List Nat} {w w1 w' : World} {B : Nat} (hb : Below B w w1) (hT : Turned F w1 w') (hF : ∀ b ∈ F, B ≤ b) (hB : B ≤ w1.heap.size) : Below B w w' :=
  hb.trans ⟨hT.os, hT.tape, hT.output, hT.size, fun k hk => hT.block k (by omega) (fun hm => by have := hF k hm; omega)⟩

end Go.Proofs.YtcamcnahkdiefaaGreat

/- Chapter 13: Last. -/
namespace Go.Proofs.YtcamcnahkdiefaaGreat
set_option linter.unusedVariables false
set_option linter.unusedSimpArgs false
open Go.RowKit

end Go.Proofs.YtcamcnahkdiefaaGreat

/- Several texts of mine in one file: R12a, R12b, Ur. -/
/- Chapter 12, the document's answers: bare operations, Code. -/
namespace Go.Proofs.YtcamcnahkdiefaaGreat
set_option linter.unusedVariables false
set_option linter.unusedSimpArgs false
open Go.RowKit

theorem map_set_fst (X : List (OpD × Int)) (i : Nat) (op : OpD) (t u : Int) (h : X[i]? = some (op, t)) : (X.set i (op, u)).map (·.1) = X.map (·.1) := by
  rw [List.map_set]
  have : (X.map (·.1))[i]? = some op := by rw [List.getElem?_map, h]; rfl
  obtain ⟨hi, e⟩ := List.getElem?_eq_some_iff.1 this
  show (X.map (·.1)).set i op = _
  rw [← e]
  exact List.set_getElem_self hi

set_option maxRecDepth 100000 in
set_option maxHeartbeats 3200000 in
theorem bare_calls (a : Option Addr) (c : Nat) (f : Fo) (w : World) (h : At w a f.flat) (hf : f.ok) (hmay : f.may = true ∧ f.wr ≤ 65536) (hl : f.flat.length ≤ 1000000) :
    Calls Tryz.prog 88 #[.slice a f.flat.length c] w fun e w' => ∃ a' c', e = .returned (.slice a' f.bare.flat.length c') ∧ Own w' w.heap.size 89 a' c' f.bare.flat ∧ Below w.heap.size w w' := by
  have HM := hide (fun w' (g1 : At w' a f.flat) => Match8W a c f.flat w' g1 hl (well_of_flat f hf))
  have HZ := hide (fun w' (g1 : At w' a f.flat) => Sizes9_calls a c f.flat w' g1 hl)
  obtain ⟨z1, z2, z3, z4⟩ := W9_ok hf hmay
  unfold List9Post at HZ
  rw [z1, z3, f.sizes_length] at HZ
  change Hid (∀ w', At w' a f.flat → Calls Tryz.prog 130 #[.slice a f.flat.length c] w' fun e w'' => ∃ a' c', e = .returned (.tuple #[.slice a' f.flat.length c', .int .i64 0]) ∧ Own w'' w'.heap.size 3 a' c' f.sizes ∧ Below w'.heap.size w' w'') at HZ
  have HF := hide hf
  clear z1 z2 z3 z4 hf hmay
  go_enter Tryz.func88, Tryz.ntmps88
  go_wp2_with (first
    | (go_at_call 89; ((with_reducible refine (HM.out _ h).mono ?_); rintro e w2 ⟨am, cm, rfl, hom, hb2⟩))
    | (go_at_call 130; ((with_reducible refine (HZ.out _ (h.belowN hb2)).mono ?_); rintro e w3 ⟨az, cz, rfl, hoz, hb3⟩; have hB3 := hb2.trans (hb3.mono hb2.size))))
  have hm3 : At w3 am (matchL f.flat) := (hom.belowN hb3).at_
  have hz3 : At w3 az f.sizes := hoz.at_
  have hl3 : At w3 a f.flat := h.belowN hB3
  have hs3 := hB3.size
  clear hom hoz hb2 hb3 HM HZ
  go_loopw [7, 8] (fun ov iv wr => ∃ (i : Nat) (ao : Option Addr) (co n : Nat) (out : List (OpD × Int)) (gf : Fo) (st : List Cf), iv = .int .i64 i ∧ i ≤ f.flat.length ∧ ov = .slice ao n co ∧ Hid (n = (out.map (·.1)).length) ∧ n ≤ i ∧
      Hid (CdOk f.flat (matchL f.flat) (f.bare.code 0) i out gf st) ∧ Own wr w3.heap.size 89 ao co (out.map (·.1)) ∧ Below w3.heap.size w3 wr) (fun _ iv _ => f.flat.length - (intOf iv).toNat)
  case atStart => exact ⟨0, _, 0, 0, [], f, [], rfl, by omega, rfl, rfl, by omega, hide (CdOk.start HF.out), Own.new w3 (Nat.le_refl _) _ OpD, Below.alloc (Below.refl _ _) (Nat.le_refl _) _⟩
  case round =>
    obtain ⟨i, ao, co, n, out, gf, st, rfl, hi, rfl, hn, hni, hcd, hoo, hbr⟩ := hrel
    have hzr := hbr.size
    by_cases hlt : i < f.flat.length
    · cases gf with
      | nil =>
        cases st with
        | nil => exact absurd (hcd.out.done).1 (by omega)
        | cons s0 st =>
          obtain ⟨e1, ek, eo, hcd2⟩ := hcd.out.end_
          obtain ⟨b1, off1, rfl, x0, x1, x2, x3, x4⟩ := getOp_eq hl3 hbr e1
          have k7 : (s0.fin.kind == 7) = false := by simp; omega
          have HCD := hide hcd2
          have HL : Hid (n + 1 = (((out.set s0.bg (s0.op, ((out.length + 1 : Nat) : Int))) ++ [(s0.fin, ((s0.bg + 1 : Nat) : Int))]).map (·.1)).length) := by
            show n + 1 = _
            rw [hn.out]; simp
          have HE : Hid (out.map (·.1) ++ [s0.fin] = ((out.set s0.bg (s0.op, ((out.length + 1 : Nat) : Int))) ++ [(s0.fin, ((s0.bg + 1 : Nat) : Int))]).map (·.1)) := by
            show _ = _
            rw [List.map_append, map_set_fst _ _ _ _ _ eo]; rfl
          clear e1 ek eo hcd2
          go_wp2_with (at_builtin; refine wpList_push tyO hoo s0.fin rfl rfl rfl rfl rfl rfl hn.out hzr (by omega) ?_; intro a4 c4 w4 hown4 hg4 _)
          rw [HE.out] at hown4
          go_roundw
          case rel => exact ⟨i + 1, a4, c4, n + 1, _, s0.r, st, by go_num, by omega, rfl, HL, by omega, HCD, hown4, below_push hbr hoo hg4 hzr⟩
          case measure => simp [intOf]; omega
      | leaf op r =>
        obtain ⟨e1, k1, k2, hcd2⟩ := hcd.out.leaf
        obtain ⟨b1, off1, rfl, x0, x1, x2, x3, x4⟩ := getOp_eq hl3 hbr e1
        have k7 : (op.kind == 7) = false := by simp; omega
        have HCD := hide hcd2
        have HE : Hid (out.map (·.1) ++ [op] = (out ++ [(op, (0 : Int))]).map (·.1)) := by show _ = _; simp
        have HL : Hid (n + 1 = ((out ++ [(op, (0 : Int))]).map (·.1)).length) := by show n + 1 = _; rw [hn.out]; simp
        clear e1 k1 k2 hcd2
        go_wp2_with (at_builtin; refine wpList_push tyO hoo op rfl rfl rfl rfl rfl rfl hn.out hzr (by omega) ?_; intro a4 c4 w4 hown4 hg4 _)
        rw [HE.out] at hown4
        go_roundw
        case rel => exact ⟨i + 1, a4, c4, n + 1, _, r, st, by go_num, by omega, rfl, HL, by omega, HCD, hown4, below_push hbr hoo hg4 hzr⟩
        case measure => simp [intOf]; omega
      | rep op b fin r =>
        have hst := hcd.out.1
        obtain ⟨e1, k7, e3, _⟩ := hst.rep
        have es := sizes_at HF.out hst
        obtain ⟨b1, off1, rfl, x0, x1, x2, x3, x4⟩ := getOp_eq hl3 hbr e1
        obtain ⟨b2, off2, rfl, y0⟩ := getI_eq hz3 hbr es
        obtain ⟨b3, off3, rfl, m0⟩ := getI_eq hm3 hbr e3
        have k7b : (op.kind == 7) = true := by simp; omega
        have hle := hst.lt.1
        rw [Fo.size_rep] at hle
        have hle2 : i + b.size + 1 < f.flat.length := by omega
        obtain ⟨Z, hZ⟩ : ∃ Z : Nat, Z = i + b.size + 1 := ⟨_, rfl⟩
        rw [← hZ] at m0 hle2
        have HZ := hide hZ
        have hZi : i < Z := by omega
        by_cases hq : b.wr * op.v.toNat = 0
        · have hcd2 := hcd.out.skip hq
          rw [show i + b.size + 2 = Z + 1 by omega] at hcd2
          rw [hq] at y0
          have HCD := hide hcd2
          clear e1 k7 e3 es hst hle hZ hq hcd2
          go_wp2
          go_roundw
          case rel => exact ⟨Z + 1, ao, co, n, out, r, st, by go_num, by omega, rfl, hn, by omega, HCD, hoo, hbr⟩
          case measure => simp [intOf]; omega
        · have hcd2 := hcd.out.open_ hq
          obtain ⟨q, hqq⟩ : ∃ q : Nat, q = b.wr * op.v.toNat := ⟨_, rfl⟩
          rw [← hqq] at y0 hq
          have hqb : ((q : Int) == 0) = false := by simpa using hq
          have HCD := hide hcd2
          have HE : Hid (out.map (·.1) ++ [op] = (out ++ [(op, (0 : Int))]).map (·.1)) := by show _ = _; simp
          have HL : Hid (n + 1 = ((out ++ [(op, (0 : Int))]).map (·.1)).length) := by show n + 1 = _; rw [hn.out]; simp
          clear e1 k7 e3 es hst hle hZ hqq hq hcd2
          go_wp2_with (at_builtin; refine wpList_push tyO hoo op rfl rfl rfl rfl rfl rfl hn.out hzr (by omega) ?_; intro a4 c4 w4 hown4 hg4 _)
          rw [HE.out] at hown4
          go_roundw
          case rel => exact ⟨i + 1, a4, c4, n + 1, _, b, _, by go_num, by omega, rfl, HL, by omega, HCD, hown4, below_push hbr hoo hg4 hzr⟩
          case measure => simp [intOf]; omega
    · obtain rfl : i = f.flat.length := by omega
      obtain ⟨rfl, rfl⟩ := hcd.out.last.2 rfl
      have HD := hide (hcd.out.done.2)
      have he : out.map (·.1) = f.bare.flat := by rw [← HD.out, Fo.code_ops]
      have hn2 := hn.out
      rw [he] at hoo hn2
      have HN := hide hn2
      clear he hn hn2
      go_wp2
      go_ret
      exact ⟨ao, co, by rw [HN.out]; rfl, hoo.mono hs3, hB3.trans (hbr.mono hs3)⟩

/-! ### Code -/
end Go.Proofs.YtcamcnahkdiefaaGreat

/- Chapter 12, the document's answers: Laid, Unroll, Steps. -/
namespace Go.Proofs.YtcamcnahkdiefaaGreat
set_option linter.unusedVariables false
set_option linter.unusedSimpArgs false
open Go.RowKit

def Laid12 (a am : Option Addr) (c cm : Nat) (l : List OpD) (m : List Int) (f : Fo) : Prop :=
  ∀ (o : Nat) (F T : Int) (w : World), F = (o : Int) → T = ((o + f.size : Nat) : Int) → At w a l → At w am m → Stands l m o f → f.full → f.gone.length ≤ 2000000 → f.unroll.length ≤ 1000000 →
    Calls Tryz.prog 90 #[.slice a l.length c, .slice am m.length cm, .int .i64 F, .int .i64 T] w fun e w' => ∃ a' c', e = .returned (.tuple #[.slice a' f.unroll.length c', .int .i64 (f.gone.length : Int)]) ∧ Own w' w.heap.size 89 a' c' f.unroll ∧ Below w.heap.size w w'

section
variable {a am : Option Addr} {c cm : Nat} {l : List OpD} {m : List Int}
set_option maxRecDepth 100000 in
set_option maxHeartbeats 3200000 in
theorem laid12_all (hl : l.length ≤ 1000000) : ∀ (N : Nat) (f : Fo), f.size < N → Laid12 a am c cm l m f := by
  intro N
  induction N with
  | zero => intro f hf; omega
  | succ N ih =>
    intro f hf o F T w hF hT h hm hs hv hg hu
    obtain ⟨hl1, hl2⟩ := hs.lt
    have IH := hide ih
    obtain ⟨Z, hZ⟩ : ∃ Z, Z = o + f.size := ⟨_, rfl⟩
    have HZ := hide hZ
    have HS := hide hs
    have HV := hide hv
    rw [← hZ] at hl1 hl2 hT
    obtain ⟨R, hR⟩ : ∃ R, R = f.unroll := ⟨_, rfl⟩
    obtain ⟨G, hG⟩ : ∃ G, G = f.gone.length := ⟨_, rfl⟩
    have HR := hide hR
    have HG := hide hG
    rw [← hR] at hu ⊢
    rw [← hG] at hg ⊢
    subst hF hT
    have hfz : f.size < N + 1 := hf
    clear ih hs hv hR hG hZ
    go_enter Tryz.func90, Tryz.ntmps90
    go_wp2
    go_loopw [10, 11, 12] (fun ov sv iv wr => ∃ (g : Fo) (o' s n : Nat) (ao : Option Addr) (co : Nat) (X : List OpD), iv = .int .i64 o' ∧ sv = .int .i64 s ∧ ov = .slice ao n co ∧ Hid (n = X.length) ∧ n ≤ 1000000 ∧ Hid (o' + g.size = Z) ∧ o' ≤ Z ∧ Hid (g.size < N + 1) ∧ Hid (Stands l m o' g) ∧ Hid g.full ∧ Hid (s + g.gone.length = G) ∧ s ≤ G ∧ Hid (X ++ g.unroll = R) ∧
      Own wr w.heap.size 89 ao co X ∧ Below w.heap.size w wr) (fun _ _ iv _ => Z - (intOf iv).toNat)
    case atStart => exact ⟨f, o, 0, 0, _, 0, [], rfl, rfl, rfl, rfl, by omega, HZ.out.symm, by have := HZ.out; omega, hfz, HS.out, HV.out, by have := HG.out; simp [Hid, this], by omega, by have := HR.out; simp [Hid, this], Own.new w (Nat.le_refl _) _ OpD, Below.alloc (Below.refl _ _) (Nat.le_refl _) _⟩
    case round =>
      obtain ⟨g, o', s, n, ao, co, X, rfl, rfl, rfl, hn, hn5, hgz, hoz, hgn, hgs, hgv, hsg, hs5, hx5, hoo, hb⟩ := hrel
      have hzr := hb.size
      cases g with
      | nil =>
        have ez : o' = Z := hgz.out
        have es : s = G := hsg.out
        have ex : X = R := by have := hx5.out; simpa [Fo.unroll] using this
        have HN := hide (hn.out.trans (by rw [ex]) : n = R.length)
        subst ez es ex
        go_wp2
        go_ret2
        exact ⟨ao, co, by rw [← hn.out]; rfl, hoo, hb⟩
      | leaf op r =>
        obtain ⟨e1, k1, k2, e2, hsr'⟩ := hgs.out.leaf
        have hgz' := hgz.out
        have hgn' := hgn.out
        have hsw := hsg.out
        have hxw := hx5.out
        rw [Fo.size_leaf] at hgz' hgn'
        simp only [Fo.gone, List.length_cons] at hsw
        simp only [Fo.unroll] at hxw
        have hoz' : o' < Z := by omega
        have hol : o' < l.length := by omega
        have hsG : s < G := by omega
        have hnR : n < R.length := by rw [hn.out, ← hxw]; simp
        obtain ⟨b1, off1, rfl, x0, x1, x2, x3, x4⟩ := getOp_eq h hb e1
        have hk7 : (op.kind == 7) = false := by simp; omega
        have hn7 : (op.kind != 7) = true := by simp; omega
        have HSW := hide hsw
        have HXW := hide hxw
        have HGZ := hide hgz'
        have HGN := hide hgn'
        have HST := hide hsr'
        clear e1 hsw hgz' hgn' hsr' e2 k1 k2 hxw
        go_wp2_with (at_builtin; refine wpList_push tyO hoo op rfl rfl rfl rfl rfl rfl hn.out hzr (by omega) ?_; intro a4 c4 w4 hown4 hg4 _)
        go_roundw
        case rel =>
          exact ⟨r, o' + 1, s + 1, n + 1, a4, c4, X ++ [op], by go_num, by go_num, rfl, by show n + 1 = _; rw [hn.out]; simp, by omega, by have := HGZ.out; show o' + 1 + r.size = Z; omega, by omega, by have := HGN.out; show r.size < N + 1; omega, HST.out, hgv.out, by have := HSW.out; show s + 1 + r.gone.length = G; omega, by omega, by have := HXW.out; show X ++ [op] ++ r.unroll = R; rw [← this]; simp, hown4, below_push hb hoo hg4 hzr⟩
        case measure => simp [intOf]; omega
      | rep op b fin r =>
        obtain ⟨e1, k7, e3, e4, e5, e6, hsb, hsr'⟩ := hgs.out.rep
        have hgz' := hgz.out
        have hgn' := hgn.out
        have hsw := hsg.out
        have hxw := hx5.out
        rw [Fo.size_rep] at hgz' hgn'
        simp only [Fo.gone, List.length_cons, List.length_append] at hsw
        rw [Fo.length_rep, List.length_append, List.length_singleton] at hsw
        simp only [Fo.unroll] at hxw
        have hoz' : o' < Z := by omega
        have hol : o' < l.length := by omega
        have hom : o' < m.length := by omega
        obtain ⟨v1, v2, v3, v4⟩ := hgv.out
        obtain ⟨A, hA⟩ : ∃ A, A = b.gone.length := ⟨_, rfl⟩
        obtain ⟨U, hU⟩ : ∃ U, U = b.unroll.length := ⟨_, rfl⟩
        obtain ⟨V, hV⟩ : ∃ V, V = op.v.toNat := ⟨_, rfl⟩
        rw [← hA, ← hV] at hsw
        rw [← hV] at hxw v1
        have hRl : R.length = n + U * V + r.unroll.length := by
          rw [hn.out, ← hxw, List.length_append, List.length_append, Fo.length_rep, ← hU]; omega
        have hA1 : A + 1 ≤ (A + 1) * V := Nat.le_mul_of_pos_right _ v1
        have hU1 : U ≤ U * V := Nat.le_mul_of_pos_right _ v1
        have hV1 : V ≤ (A + 1) * V := Nat.le_mul_of_pos_left _ (by omega)
        have HB := hide (fun w' h1 h2 => IH.out b (by omega) (o' + 1) ((o' : Int) + 1) ((o' + b.size + 1 : Nat) : Int) w' (by omega) (by omega) h1 h2 hsb v3 (by omega) (by omega))
        rw [← hA, ← hU] at HB
        obtain ⟨b1, off1, rfl, x0, x1, x2, x3, x4⟩ := getOp_eq h hb e1
        obtain ⟨b2, off2, rfl, y0⟩ := getI_eq hm hb e3
        obtain ⟨E, hE⟩ : ∃ E : Nat, E = o' + b.size + 1 := ⟨_, rfl⟩
        rw [← hE] at y0 HB e3
        have hyl := World.block_lt_of_cell? _ _ y0
        have hxl := World.block_lt_of_cell? _ _ x0
        have hk7 : (op.kind == 7) = true := by simp [k7]
        have hn7 : (op.kind != 7) = false := by simp [k7]
        have HSW := hide hsw
        have HXW := hide hxw
        have HGZ := hide hgz'
        have HGN := hide hgn'
        have HST := hide hsr'
        have HE := hide hE
        have HU := hide hU
        have HVV := hide hV
        have HE1 := hide e1
        have HE3 := hide e3
        have HRL := hide hRl
        have HV4 := hide v4
        have hEZ : E < Z := by omega
        have hsG : s < G := by omega
        have hub := op.v.toNat_lt
        rw [← hV] at hub
        clear e1 hsw hgz' hgn' hsr' e3 e4 e5 e6 k7 hE hsb hxw hU hV v1 v2 v3 v4 hA hRl
        go_wp2_with (go_at_call 90; ((with_reducible refine (HB.out _ (h.below hb (Nat.le_refl _)) (hm.below hb (Nat.le_refl _))).mono ?_); rintro e w1 ⟨a1, c1, rfl, own1, hb1⟩))
        have hB1 := hb.trans (hb1.mono hzr)
        have hne1 : ∀ q, a1.map (·.block) = some q → ao.map (·.block) ≠ some q := fun q hq hq' => by have := (own1.blk q hq).1; have := (hoo.blk q hq').2; omega
        have hoo1 := hoo.belowN hb1
        have hat1 := own1.at_
        have HQ1 := hide (fun q (hq : a1.map (·.block) = some q) => (own1.blk q hq).2)
        clear HB own1 x0 x1 x2 x3 x4 y0
        go_loopw [10, 11, 15] (fun ov sv kv wr2 => ∃ (k s2 n2 : Nat) (ao2 : Option Addr) (co2 : Nat), kv = .int .u64 k ∧ k ≤ V ∧ sv = .int .i64 s2 ∧ Hid (s2 = s + 1 + (A + 1) * k) ∧ s2 ≤ G ∧ ov = .slice ao2 n2 co2 ∧ Hid (n2 = (X ++ (List.replicate k b.unroll).flatten).length) ∧ n2 ≤ 1000000 ∧
          Own wr2 w.heap.size 89 ao2 co2 (X ++ (List.replicate k b.unroll).flatten) ∧ Below w.heap.size w wr2 ∧ At wr2 a1 b.unroll ∧ (∀ q, a1.map (·.block) = some q → ao2.map (·.block) ≠ some q) ∧ w1.heap.size ≤ wr2.heap.size) (fun _ _ kv _ => V - (intOf kv).toNat)
        case atStart => exact ⟨0, s + 1, n, ao, co, rfl, by omega, by go_num, by show _ = _; simp, by omega, rfl, by show _ = _; rw [hn.out]; simp, by omega, by simpa using hoo1, hB1, hat1, hne1, Nat.le_refl _⟩
        case round =>
          obtain ⟨k, s2, n2, ao2, co2, rfl, hk, rfl, hs2, hs2G, rfl, hn2, hn25, hoo2, hbr2, hat2, hne2, hz2⟩ := hrel
          have hzr2 := hbr2.size
          obtain ⟨b1', off1', ha', x0, x1, x2, x3, x4⟩ := getOp_eq h hbr2 HE1.out
          obtain ⟨rfl, rfl⟩ : b1 = b1' ∧ off1 = off1' := by injection ha' with ha'; injection ha' with h1 h2; exact ⟨h1, h2⟩
          obtain ⟨b2', off2', hm', y0⟩ := getI_eq hm hbr2 HE3.out
          obtain ⟨rfl, rfl⟩ : b2 = b2' ∧ off2 = off2' := by injection hm' with hm'; injection hm' with h1 h2; exact ⟨h1, h2⟩
          rw [← HVV.out] at x4
          clear ha' hm'
          by_cases hkV : k < V
          · have hm1 : (A + 1) * (k + 1) ≤ (A + 1) * V := Nat.mul_le_mul_left _ hkV
            have hm2 : U * (k + 1) ≤ U * V := Nat.mul_le_mul_left _ hkV
            rw [Nat.mul_add, Nat.mul_one] at hm1 hm2
            have hsw := HSW.out
            have hs2' := hs2.out
            have hrl := HRL.out
            have hln : n2 = n + U * k := by rw [hn2.out, List.length_append, Fo.length_rep, ← hn.out, ← HU.out]
            have b1s : s2 + A + 1 ≤ G := by omega
            have b2s : n2 + U ≤ 1000000 := by omega
            have hA5 : A ≤ 2000000 := by omega
            have hU5 : U ≤ 1000000 := by omega
            have HAPP : Hid (X ++ (List.replicate k b.unroll).flatten ++ b.unroll = X ++ (List.replicate (k + 1) b.unroll).flatten) := by
              show _ = _
              rw [List.replicate_succ', List.flatten_append]; simp
            clear hm1 hm2 hsw hs2' hrl hln hA1 hU1 hV1
            go_wp2_with (at_builtin; refine wpList_pushAll tyO hoo2 hat2 rfl rfl rfl rfl hn2.out HU.out hzr2 (by omega) (by omega) ?_; intro a4 c4 w4 hown4 hg4 hm4)
            rw [HAPP.out] at hown4
            go_roundw
            case rel =>
              refine ⟨k + 1, s2 + A + 1, n2 + U, a4, c4, by go_num, by omega, by go_num, ?_, b1s, by go_num, ?_, b2s, hown4, below_push hbr2 hoo2 hg4 hzr2, ?_, ?_, by have := hg4.size; omega⟩
              · show s2 + A + 1 = _; rw [hs2.out, Nat.mul_add]; omega
              · show n2 + U = _; rw [← HAPP.out, List.length_append, ← hn2.out, ← HU.out]
              · exact hat2.grown hg4 (fun hne => by
                  obtain ⟨bb, oo, e, _⟩ := hat2.lt hne
                  exact .inl (fun e' => by rw [e] at e' hne2; exact hne2 bb rfl e'.symm))
              · intro q hq
                rcases hm4 with e | ⟨g', e, hle⟩
                · rw [e]; exact hne2 q hq
                · rw [e]; intro e'; injection e' with e'
                  have := HQ1.out q hq
                  omega
            case measure => simp [intOf]; omega
          · obtain rfl : k = V := by omega
            have hs2' := hs2.out
            have hsw := HSW.out
            have hsG2 : s2 + r.gone.length = G := by omega
            have HS2 := hide hsG2
            have hxr : (X ++ (List.replicate k b.unroll).flatten) ++ r.unroll = R := by rw [List.append_assoc]; exact HXW.out
            have HXR := hide hxr
            clear hs2' hsw hsG2 hxr
            go_wp2
            go_roundw
            case rel =>
              exact ⟨r, E + 1, s2, n2, ao2, co2, _, by go_num, rfl, rfl, hn2, hn25, by have := HGZ.out; have := HE.out; show E + 1 + r.size = Z; omega, by omega, by have := HGN.out; show r.size < N + 1; omega, by have := HE.out; show Stands l m (E + 1) r; rw [this]; exact HST.out, HV4.out, HS2.out, by have := HS2.out; omega, HXR.out, hoo2, hbr2⟩
            case measure => have := HE.out; simp [intOf]; omega
end

theorem Laid12_calls (a am : Option Addr) (c cm : Nat) (f : Fo) (w : World) (h : At w a f.flat) (hm : At w am (matchL f.flat)) (hl : f.flat.length ≤ 1000000) (hf : f.ok) (hv : f.full) (hg : f.gone.length ≤ 2000000) (hu : f.unroll.length ≤ 1000000) :
    Calls Tryz.prog 90 #[.slice a f.flat.length c, .slice am f.flat.length cm, .int .i64 0, .int .i64 (f.flat.length : Int)] w fun e w' => ∃ a' c', e = .returned (.tuple #[.slice a' f.unroll.length c', .int .i64 (f.gone.length : Int)]) ∧ Own w' w.heap.size 89 a' c' f.unroll ∧ Below w.heap.size w w' := by
  have := laid12_all (a := a) (am := am) (c := c) (cm := cm) hl (f.size + 1) f (by omega) 0 0 (f.flat.length : Int) w rfl (by simp [Fo.size]) h hm (Stands.whole hf) hv hg hu
  rwa [matchL_length] at this
theorem Good.unroll_le {regs : Int} {f : Fo} (g : Good regs f) : f.unroll.length ≤ 65536 := by rw [Fo.unroll_length]; exact g.few

set_option maxHeartbeats 800000 in
theorem Unroll12_bad (regs : Int) (a : Option Addr) (c : Nat) (l : List OpD) (w : World) (h : At w a l) (hl : l.length ≤ 1000000) (hc : checkS regs l ≠ 0) :
    Calls Tryz.prog 43 #[.agg #[.int .i64 regs, .slice a l.length c]] w (UnrPost regs l w) := by
  have h1 := h.belowN (below_new12 w (.cells #[.int .i64 regs, .slice a l.length c] 24))
  have hb0 := below_new12 w (.cells #[.int .i64 regs, .slice a l.length c] 24)
  have HP := hide (Prog10_calls regs a c l _ h1 hl)
  have HC := hide (unrS_bad hc)
  obtain ⟨E, hE⟩ : ∃ E, E = checkS regs l := ⟨_, rfl⟩
  rw [← hE] at HP hc
  have HE := hide hE
  have e1 : (E == 0) = false := by simpa using hc
  have e2 : (E != 0) = true := by simpa using hc
  clear hE hc
  go_enter Tryz.func43, Tryz.ntmps43
  go_wp2_with (go_at_call 87; ((with_reducible refine (HP.out).mono ?_); rintro e w1 ⟨rfl, hb1⟩))
  go_ret2
  unfold UnrPost
  rw [HC.out, ← HE.out]
  exact ⟨none, 0, rfl, Own.none _ _ _, hb0.trans (hb1.mono hb0.size)⟩
set_option maxRecDepth 100000 in
set_option maxHeartbeats 1600000 in
theorem Unroll12_good (regs : Int) (a : Option Addr) (c : Nat) (f : Fo) (w : World) (h : At w a f.flat) (g : Good regs f) :
    Calls Tryz.prog 43 #[.agg #[.int .i64 regs, .slice a f.flat.length c]] w (UnrPost regs f.flat w) := by
  have hl : f.flat.length ≤ 4096 := g.len
  have h1 := h.belowN (below_new12 w (.cells #[.int .i64 regs, .slice a f.flat.length c] 24))
  have hb0 := below_new12 w (.cells #[.int .i64 regs, .slice a f.flat.length c] 24)
  have hX := Blk.new w 24 #[.int .i64 regs, .slice a f.flat.length c]
  have HP := hide (Prog10_calls regs a c f.flat _ h1 (by omega))
  have HB := hide (fun w' (g1 : At w' a f.flat) => bare_calls a c f w' g1 g.ok ⟨g.may, g.few⟩ (by omega))
  have hbl : f.bare.flat.length ≤ 4096 := Nat.le_trans f.bare_size g.len
  have hbok := f.bare_ok g.ok
  have HM := hide (fun (a' : Option Addr) (c' : Nat) w' (g1 : At w' a' f.bare.flat) => Match8W a' c' f.bare.flat w' g1 (by omega) (well_of_flat f.bare hbok))
  have hgl := g.gone_le
  have hul := g.unroll_le
  have HL := hide (fun a2 am c2 cm w' g1 g2 => Laid12_calls a2 am c2 cm f.bare w' g1 g2 (by omega) hbok f.bare_full (by omega) (by rw [f.bare_unroll]; omega))
  rw [f.bare_unroll] at HL
  have HC := hide (unrS_good g)
  have HK := hide g.check
  rw [g.check] at HP
  clear g hbok hgl hul
  generalize f.bare.flat = L at *
  go_enter Tryz.func43, Tryz.ntmps43
  go_wp2_with (first
    | (go_at_call 87; ((with_reducible refine (HP.out).mono ?_); rintro e w1 ⟨rfl, hb1⟩; have hB1 := hb0.trans (hb1.mono hb0.size); obtain ⟨q0, q1, q2, q3⟩ := (hX.belowN hb1).c2))
    | (go_at_call 88; ((with_reducible refine (HB.out _ (h.belowN hB1)).mono ?_); rintro e w2 ⟨ab, cb, rfl, hob, hb2⟩; have hB2 := hB1.trans (hb2.mono hB1.size); clear q0 q1 q2 q3))
    | (go_at_call 89; ((with_reducible refine (HM.out _ _ _ hob.at_).mono ?_); rintro e w3 ⟨am, cm, rfl, hom, hb3⟩; have hB3 := hB2.trans (hb3.mono hB2.size); have hob3 := hob.at_.belowN hb3; have hom3 := hom.at_))
    | (go_at_call 90; ((with_reducible refine (HL.out _ _ _ _ _ hob3 hom3).mono ?_); rintro e w4 ⟨al, cl, rfl, hol, hb4⟩; have hB4 := hB3.trans (hb4.mono hB3.size))))
  go_ret2
  unfold UnrPost
  rw [HC.out, HK.out]
  exact ⟨al, cl, rfl, hol.mono hB3.size, hB4⟩
theorem Unroll12_calls (regs : Int) (a : Option Addr) (c : Nat) (l : List OpD) (w : World) (h : At w a l) (hl : l.length ≤ 1000000) :
    Calls Tryz.prog 43 #[.agg #[.int .i64 regs, .slice a l.length c]] w (UnrPost regs l w) := by
  by_cases hc : checkS regs l = 0
  · obtain ⟨f, rfl, g⟩ := good_of_check hc
    exact Unroll12_good regs a c f w h g
  · exact Unroll12_bad regs a c l w h hl hc
end Go.Proofs.YtcamcnahkdiefaaGreat

/- Contracts of chapter 12 with their results named; how long they are. -/
namespace Go.Proofs.YtcamcnahkdiefaaGreat
set_option linter.unusedVariables false
set_option linter.unusedSimpArgs false
open Go.RowKit

theorem good_of_lit {regs : Int} {f : Fo} (hf : f.ok) (h : checkS regs f.flat = 0) : Good regs f := by
  obtain ⟨f', e, g⟩ := good_of_check h
  have := Fo.flat_eq hf g.ok e
  subst this
  exact g

theorem UnrollR (regs : Int) (a : Option Addr) (c : Nat) (l : List OpD) (w : World) (R : List OpD) (E : Int) (hR : unrS regs l = R) (hE : checkS regs l = E) (h : At w a l) (hl : l.length ≤ 1000000) :
    Calls Tryz.prog 17 #[.agg #[.int .i64 regs, .slice a l.length c]] w fun e w' => ∃ a' c', e = .returned (.tuple #[.slice a' R.length c', .int .i64 E]) ∧ Own w' w.heap.size 89 a' c' R ∧ Below w.heap.size w w' := by
  subst hR hE; exact Unroll_calls regs a c l w h hl
theorem Unroll12R (regs : Int) (a : Option Addr) (c : Nat) (l : List OpD) (w : World) (R : List OpD) (E : Int) (hR : unrS regs l = R) (hE : checkS regs l = E) (h : At w a l) (hl : l.length ≤ 1000000) :
    Calls Tryz.prog 43 #[.agg #[.int .i64 regs, .slice a l.length c]] w fun e w' => ∃ a' c', e = .returned (.tuple #[.slice a' R.length c', .int .i64 E]) ∧ Own w' w.heap.size 89 a' c' R ∧ Below w.heap.size w w' := by
  subst hR hE; exact Unroll12_calls regs a c l w h hl

end Go.Proofs.YtcamcnahkdiefaaGreat
