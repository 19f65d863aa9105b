/- Several texts of mine in one file. -/
import Derived.Test.YtcamcnahkdiefaaGreatYMNae
import Derived.Deep.LoopGhost
import Derived.Test.YtcamcnahkdiefaaGreatYMNac
import Derived.ScopeJumps
import Derived.Scope
import Derived.WalkMore
import Derived.Deep.AppendLies
import Derived.Deep.RegionHeld3
import Derived.Test.YtcamcnahkdiefaaGreatYMNad
import Derived.Test.YtcamcnahkdiefaaGreatYMNaa
import Derived.Laws.CopyOwn
import Derived.Deep.DeepMust
/- Several texts of mine in one file: Cd, F12a, F12b, F12c. -/
/- Plain facts on how code is laid, operation by operation. No program is named here. -/
namespace Go.Proofs.YtcamcnahkdiefaaGreat
set_option linter.unusedVariables false
set_option linter.unusedSimpArgs false
open Go.RowKit

instance : Flat (OpD × Int) := ⟨6, fun x => [.int .i64 x.1.kind, .int .i64 x.1.d, .int .i64 x.1.a, .int .i64 x.1.b, .int .u64 (x.1.v.toNat : Int), .int .i64 x.2], fun _ => rfl,
  fun x u hu => by simp at hu; rcases hu with rfl | rfl | rfl | rfl | rfl | rfl <;> rfl, by decide⟩

structure Cf where
  bg : Nat
  op : OpD
  fin : OpD
  r : Fo
def opn (st : List Cf) : List Int := (st.map fun x => (x.bg : Int)).reverse
def CdK (l : List OpD) (m : List Int) (R : List (OpD × Int)) : Nat → List (OpD × Int) → List Cf → Prop
  | j, X, [] => j = l.length ∧ R = X
  | j, X, s :: st => l[j]? = some s.fin ∧ s.fin.kind = 0 ∧ X[s.bg]? = some (s.op, 0) ∧ Stands l m (j + 1) s.r ∧
      CdK l m R (j + 1 + s.r.size) (X.set s.bg (s.op, ((X.length + 1 : Nat) : Int)) ++ (s.fin, ((s.bg + 1 : Nat) : Int)) :: s.r.bare.code (X.length + 1)) st
def CdOk (l : List OpD) (m : List Int) (R : List (OpD × Int)) (i : Nat) (out : List (OpD × Int)) (g : Fo) (st : List Cf) : Prop :=
  Stands l m i g ∧ CdK l m R (i + g.size) (out ++ g.bare.code out.length) st
section
variable {l : List OpD} {m : List Int} {R out : List (OpD × Int)} {i : Nat} {st : List Cf}
theorem CdOk.start {f : Fo} (hf : f.ok) : CdOk f.flat (matchL f.flat) (f.bare.code 0) 0 [] f [] :=
  ⟨Stands.whole hf, by simp [Fo.size], by simp⟩
theorem CdOk.done (h : CdOk l m R i out .nil []) : i = l.length ∧ R = out := by
  obtain ⟨_, h1, h2⟩ := h
  exact ⟨by simpa [Fo.size, Fo.flat] using h1, by simpa [Fo.bare, Fo.code] using h2⟩
theorem CdOk.leaf {op : OpD} {r : Fo} (h : CdOk l m R i out (.leaf op r) st) : l[i]? = some op ∧ 1 ≤ op.kind ∧ op.kind ≤ 6 ∧ CdOk l m R (i + 1) (out ++ [(op, 0)]) r st := by
  obtain ⟨hs, hk⟩ := h
  obtain ⟨e1, k1, k2, e2, hr⟩ := hs.leaf
  refine ⟨e1, k1, k2, hr, ?_⟩
  have e : i + 1 + r.size = i + (Fo.leaf op r).size := by rw [Fo.size_leaf]; omega
  rw [e]
  simpa [Fo.bare, Fo.code] using hk
theorem CdOk.skip {op fin : OpD} {b r : Fo} (h : CdOk l m R i out (.rep op b fin r) st) (h0 : b.wr * op.v.toNat = 0) : CdOk l m R (i + b.size + 2) out r st := by
  obtain ⟨hs, hk⟩ := h
  refine ⟨hs.rep.2.2.2.2.2.2.2, ?_⟩
  have e : i + b.size + 2 + r.size = i + (Fo.rep op b fin r).size := by rw [Fo.size_rep]; omega
  have e2 : (Fo.rep op b fin r).bare = r.bare := by rw [Fo.bare, if_pos h0]
  rw [e]
  rwa [e2] at hk
theorem CdOk.open_ {op fin : OpD} {b r : Fo} (h : CdOk l m R i out (.rep op b fin r) st) (h0 : b.wr * op.v.toNat ≠ 0) : CdOk l m R (i + 1) (out ++ [(op, 0)]) b (⟨out.length, op, fin, r⟩ :: st) := by
  obtain ⟨hs, hk⟩ := h
  obtain ⟨e1, k7, e3, e4, k0, e6, hb, hr⟩ := hs.rep
  have e2 : (Fo.rep op b fin r).bare = .rep op b.bare fin r.bare := by rw [Fo.bare, if_neg h0]
  rw [e2] at hk
  have hlen : (out ++ [(op, (0 : Int))]).length = out.length + 1 := by simp
  refine ⟨hb, by rw [show i + 1 + b.size = i + b.size + 1 by omega]; exact e4, k0, ?_, by rw [show i + 1 + b.size + 1 = i + b.size + 2 by omega]; exact hr, ?_⟩
  · simp
  · have e : i + 1 + b.size + 1 + r.size = i + (Fo.rep op b fin r).size := by rw [Fo.size_rep]; omega
    simp only
    rw [e]
    have hx : (out ++ [(op, (0 : Int))] ++ b.bare.code (out.length + 1)).length = out.length + 1 + b.bare.size := by simp [Fo.code_length]; omega
    rw [hlen, hx]
    have hset : (out ++ [(op, (0 : Int))] ++ b.bare.code (out.length + 1)).set out.length (op, ((out.length + 1 + b.bare.size + 1 : Nat) : Int)) = out ++ (op, ((out.length + 1 + b.bare.size + 1 : Nat) : Int)) :: b.bare.code (out.length + 1) := by simp
    rw [hset]
    have e5 : out.length + 1 + b.bare.size + 1 = out.length + b.bare.size + 2 := by omega
    rw [e5]
    simpa [Fo.code] using hk
theorem CdOk.end_ {s : Cf} (h : CdOk l m R i out .nil (s :: st)) : l[i]? = some s.fin ∧ s.fin.kind = 0 ∧ out[s.bg]? = some (s.op, 0) ∧ CdOk l m R (i + 1) (out.set s.bg (s.op, ((out.length + 1 : Nat) : Int)) ++ [(s.fin, ((s.bg + 1 : Nat) : Int))]) s.r st := by
  obtain ⟨hs, h1, h2, h3, h4, h5⟩ := h
  simp only [Fo.size, Fo.flat, Fo.bare, Fo.code, List.length_nil, Nat.add_zero, List.append_nil] at h1 h3 h4 h5
  refine ⟨h1, h2, h3, h4, ?_⟩
  have e : (out.set s.bg (s.op, ((out.length + 1 : Nat) : Int)) ++ [(s.fin, ((s.bg + 1 : Nat) : Int))]).length = out.length + 1 := by simp
  rw [e]
  simpa [Fo.size] using h5
theorem CdOk.last {g : Fo} (h : CdOk l m R i out g st) : i ≤ l.length ∧ (i = l.length → g = .nil ∧ st = []) := by
  have hl := h.1.lt.1
  refine ⟨by omega, fun e => ?_⟩
  cases g with
  | leaf op r => rw [Fo.size_leaf] at hl; omega
  | rep op b fin r => rw [Fo.size_rep] at hl; omega
  | nil =>
    refine ⟨rfl, ?_⟩
    cases st with
    | nil => rfl
    | cons s st => have := (List.getElem?_eq_some_iff.1 h.end_.1).1; omega
end
theorem opn_cons (s : Cf) (st : List Cf) : opn (s :: st) = opn st ++ [(s.bg : Int)] := by simp [opn]
theorem opn_length (st : List Cf) : (opn st).length = st.length := by simp [opn]
end Go.Proofs.YtcamcnahkdiefaaGreat

/- Chapter 12: Code. -/
namespace Go.Proofs.YtcamcnahkdiefaaGreat
set_option linter.unusedVariables false
set_option linter.unusedSimpArgs false
open Go.RowKit

theorem below_new12 (w : World) (o : Obj) : Below w.heap.size w (w.alloc o) := Below.alloc (Below.refl _ _) (Nat.le_refl _) _
theorem tyIns : Ty Tryz.prog 100 176 (OpD × Int) := Ty.of (z := .agg #[.int .i64 0, .int .i64 0, .int .i64 0, .int .i64 0, .int .u64 0, .int .i64 0]) (size := 6) (bytes := 48) Tryz.underlying100 (by kernel_rfl) rfl (by decide) rfl
theorem Own.far_E {α β : Type} [Flat α] [Flat β] {w : World} {B B' : Nat} {E E' : TypeId} {a a' : Option Addr} {c c' : Nat} {l : List α} {l' : List β} (h : Own w B E a c l) (h' : Own w B' E' a' c' l') (hE : E ≠ E') : a.map (·.block) = Option.none ∨ a.map (·.block) ≠ a'.map (·.block) := by
  rcases h.form with ⟨rfl, _⟩ | ⟨g, rfl, _⟩
  · exact .inl rfl
  · rcases h'.form with ⟨rfl, _⟩ | ⟨g', rfl, _⟩
    · exact .inr (by simp)
    · exact .inr (by have := h.ne_E h' hE; simpa using this)
theorem sizes_at {f : Fo} (hf : f.ok) {i : Nat} {op fin : OpD} {b r : Fo} (h : Stands f.flat (matchL f.flat) i (.rep op b fin r)) : f.sizes[i]? = some ((b.wr * op.v.toNat : Nat) : Int) := by
  obtain ⟨e1, k7, e3, e4, k0, e6, hb, hr⟩ := h.rep
  rcases place9 hf e1 with ⟨h7, b', fin', r', hs, g1, g2, g3⟩ | ⟨h0, _⟩ | ⟨h1, h2, _⟩
  · obtain ⟨_, rfl⟩ := h.one hs
    exact g1
  · omega
  · omega
noncomputable def codeS (regs : Int) (l : List OpD) : List (OpD × Int) := if checkS regs l = 0 then (fo l).bare.code 0 else []
theorem codeS_good {regs : Int} {f : Fo} (g : Good regs f) : codeS regs f.flat = f.bare.code 0 := by unfold codeS; rw [if_pos g.check, fo_flat g.ok]
theorem codeS_bad {regs : Int} {l : List OpD} (h : checkS regs l ≠ 0) : codeS regs l = [] := by unfold codeS; rw [if_neg h]
def CodePost (regs : Int) (l : List OpD) (w : World) (e : Ending) (w' : World) : Prop :=
  ∃ a c, e = .returned (.tuple #[.slice a (codeS regs l).length c, .int .i64 (checkS regs l)]) ∧ Own w' w.heap.size 176 a c (codeS regs l) ∧ Below w.heap.size w w'
theorem cd_bad (regs : Int) (a : Option Addr) (c : Nat) (l : List OpD) (w : World) (h : At w a l) (hl : l.length ≤ 1000000) (hc : checkS regs l ≠ 0) :
    Calls Tryz.prog 47 #[.agg #[.int .i64 regs, .slice a l.length c]] w (CodePost regs l w) := by
  have h1 := h.belowN (below_new12 w (.cells #[.int .i64 regs, .slice a l.length c] 24))
  have hb0 := below_new12 w (.cells #[.int .i64 regs, .slice a l.length c] 24)
  have HP := hide (Prog_calls regs a c l _ h1 hl)
  have HC := hide (codeS_bad hc)
  obtain ⟨E, hE⟩ : ∃ E, E = checkS regs l := ⟨_, rfl⟩
  rw [← hE] at HP hc
  have HE := hide hE
  have e1 : (E == 0) = false := by simpa using hc
  have e2 : (E != 0) = true := by simpa using hc
  clear hE hc
  go_enter Tryz.func47, Tryz.ntmps47
  go_wp2_with (go_at_call 95; ((with_reducible refine (HP.out).mono ?_); rintro e w1 ⟨rfl, hb1⟩))
  go_ret2
  unfold CodePost
  rw [HC.out, ← HE.out]
  exact ⟨none, 0, rfl, Own.none _ _ _, hb0.trans (hb1.mono hb0.size)⟩
theorem getOp_eq {w wr : World} {a : Option Addr} {l : List OpD} (h : At w a l) (hb : Below w.heap.size w wr) {k : Nat} {x : OpD} (hk : l[k]? = some x) :
    ∃ b off, a = some ⟨b, off, none⟩ ∧ wr.cell? ⟨b, off + k * 5, none⟩ = some (.int .i64 x.kind) ∧ wr.cell? ⟨b, off + k * 5 + 1, none⟩ = some (.int .i64 x.d) ∧
      wr.cell? ⟨b, off + k * 5 + 2, none⟩ = some (.int .i64 x.a) ∧ wr.cell? ⟨b, off + k * 5 + 3, none⟩ = some (.int .i64 x.b) ∧ wr.cell? ⟨b, off + k * 5 + 4, none⟩ = some (.int .u64 (x.v.toNat : Int)) := by
  obtain ⟨b, off, y, e, hy, h0⟩ := h.getOp hb (List.getElem?_eq_some_iff.1 hk).1
  obtain rfl : x = y := by have := hk.symm.trans hy.out; simpa using this
  exact ⟨b, off, e, h0⟩
theorem getI_eq {w wr : World} {a : Option Addr} {l : List Int} (h : At w a l) (hb : Below w.heap.size w wr) {k : Nat} {x : Int} (hk : l[k]? = some x) :
    ∃ b off, a = some ⟨b, off, none⟩ ∧ wr.cell? ⟨b, off + k, none⟩ = some (.int .i64 x) := by
  obtain ⟨b, off, y, e, hy, h0⟩ := h.getI hb (List.getElem?_eq_some_iff.1 hk).1
  obtain rfl : x = y := by have := hk.symm.trans hy.out; simpa using this
  exact ⟨b, off, e, h0⟩

set_option maxRecDepth 100000 in
set_option maxHeartbeats 6400000 in
theorem cd_good (regs : Int) (a : Option Addr) (c : Nat) (f : Fo) (w : World) (h : At w a f.flat) (g : Good regs f) :
    Calls Tryz.prog 47 #[.agg #[.int .i64 regs, .slice a f.flat.length c]] w (CodePost regs f.flat w) := by
  have hl : f.flat.length ≤ 4096 := g.len
  have h1 := h.belowN (below_new12 w (.cells #[.int .i64 regs, .slice a f.flat.length c] 24))
  have hb0 := below_new12 w (.cells #[.int .i64 regs, .slice a f.flat.length c] 24)
  have hX := Blk.new w 24 #[.int .i64 regs, .slice a f.flat.length c]
  have HP := hide (Prog_calls regs a c f.flat _ h1 (by omega))
  have HM := hide (fun w' (g1 : At w' a f.flat) => MatchW a c f.flat w' g1 (by omega) (well_of_flat f g.ok))
  have HZ := hide (fun w' (g1 : At w' a f.flat) => SizeZ_calls a c f.flat w' g1 (by omega))
  obtain ⟨z1, z2, z3, z4⟩ := W9_ok g.ok ⟨g.may, g.few⟩
  rw [z1, z3, f.sizes_length] at HZ
  have HC := hide (codeS_good g)
  have HK := hide g.check
  have HG := hide g
  rw [g.check] at HP
  change Hid (∀ w', At w' a f.flat → Calls Tryz.prog 97 #[.slice a f.flat.length c] w' fun e w'' => ∃ a' c', e = .returned (.tuple #[.slice a' f.flat.length c', .int .i64 0]) ∧ Own w'' w'.heap.size 3 a' c' f.sizes ∧ Below w'.heap.size w' w'') at HZ
  clear z1 z2 z3 z4 g
  go_enter Tryz.func47, Tryz.ntmps47
  go_wp2_with (first
    | (go_at_call 95; ((with_reducible refine (HP.out).mono ?_); rintro e w1 ⟨rfl, hb1⟩; have hB1 := hb0.trans (hb1.mono hb0.size); obtain ⟨q0, q1, q2, q3⟩ := (hX.belowN hb1).c2))
    | (go_at_call 96; ((with_reducible refine (HM.out _ (h.belowN hB1)).mono ?_); rintro e w2 ⟨am, cm, rfl, hom, hb2⟩; have hB2 := hB1.trans (hb2.mono hB1.size); obtain ⟨q0', q1', q2', q3'⟩ := ((hX.belowN hb1).belowN hb2).c2))
    | (go_at_call 97; ((with_reducible refine (HZ.out _ (h.belowN hB2)).mono ?_); rintro e w3 ⟨az, cz, rfl, hoz, hb3⟩; have hB3 := hB2.trans (hb3.mono hB2.size); have hX3 := ((hX.belowN hb1).belowN hb2).belowN hb3)))
  have hm3 : At w3 am (matchL f.flat) := (hom.belowN hb3).at_
  have hz3 : At w3 az f.sizes := hoz.at_
  have hl3 : At w3 a f.flat := h.belowN hB3
  have hs3 := hB3.size
  have hxl := hX3.lt
  clear hom hoz hb1 hb2 hb3 hB1 hB2 q0 q1 q2 q3 q0' q1' q2' q3' h1 hX HP HM HZ
  go_loopw [9, 10, 11] (fun ov sv iv wr => ∃ (i : Nat) (ao as' : Option Addr) (co cs n s : Nat) (out : List (OpD × Int)) (gf : Fo) (st : List Cf), iv = .int .i64 i ∧ i ≤ f.flat.length ∧ ov = .slice ao n co ∧ sv = .slice as' s cs ∧ Hid (n = out.length) ∧ Hid (s = st.length) ∧ n ≤ i ∧ s ≤ i ∧
      Hid (CdOk f.flat (matchL f.flat) (f.bare.code 0) i out gf st) ∧ Own wr w3.heap.size 176 ao co out ∧ Own wr w3.heap.size 3 as' cs (opn st) ∧ Below w3.heap.size w3 wr) (fun _ _ iv _ => f.flat.length - (intOf iv).toNat)
  case atStart => exact ⟨0, none, none, 0, 0, 0, 0, [], f, [], rfl, by omega, rfl, rfl, rfl, rfl, by omega, by omega, hide (CdOk.start HG.out.ok), Own.none _ _ _, Own.none _ _ _, Below.refl _ _⟩
  case round =>
    obtain ⟨i, ao, as', co, cs, n, s, out, gf, st, rfl, hi, rfl, rfl, hn, hs, hni, hsi, hcd, hoo, hos, hbr⟩ := hrel
    have hzr := hbr.size
    obtain ⟨q0, q1, q2, q3⟩ := (hX3.belowN hbr).c2
    by_cases hlt : i < f.flat.length
    · cases gf with
      | nil =>
        cases st with
        | nil => exact absurd (hcd.out.done).1 (by omega)
        | cons s0 st =>
          obtain ⟨e1, ek, eo, hcd2⟩ := hcd.out.end_
          obtain ⟨b1, off1, rfl, x0, x1, x2, x3, x4⟩ := getOp_eq hl3 hbr e1
          have k7 : (s0.fin.kind == 7) = false := by simp; omega
          have k0 : (s0.fin.kind == 0) = true := by simp; omega
          have hone : out ≠ [] := by intro e; subst e; simp at eo
          have hsne : opn (s0 :: st) ≠ [] := by rw [opn_cons]; simp
          obtain ⟨go, rfl, hgo1, hgo2⟩ := hoo.some_ hone
          obtain ⟨gs, rfl, hgs1, hgs2⟩ := hos.some_ hsne
          obtain ⟨s', rfl⟩ : ∃ s', s = s' + 1 := ⟨s - 1, by have := hs.out; simp at this; omega⟩
          have hs' : s' = st.length := by have := hs.out; simp at this; omega
          have hlast : (opn (s0 :: st))[s']? = some (s0.bg : Int) := by rw [opn_cons, List.getElem?_append_right (by rw [opn_length]; omega), opn_length, hs', Nat.sub_self]; rfl
          have t0 : wr.cell? ⟨gs, s', none⟩ = some (.int .i64 (s0.bg : Int)) := by simpa [Flat.n] using hos.cellAt hlast (f := 0) rfl
          have hcap : s' + 1 ≤ cs := by have := hos.cap.1; rw [opn_length] at this; simp at this; omega
          have hbg : s0.bg < n := by rw [hn.out]; exact (List.getElem?_eq_some_iff.1 eo).1
          have tc : wr.cell? ⟨go, s0.bg * 6 + 5, none⟩ = some (.int .i64 0) := by simpa [Flat.n] using hoo.cellAt eo (f := 5) rfl
          have tf := hoo.frozen (s0.bg * 6 + 5)
          have hpop : Own wr w3.heap.size 3 (some ⟨gs, 0, none⟩) cs (opn st) := by have := hos.pop hsne; rwa [opn_cons, List.dropLast_concat] at this
          have hgn : go ≠ wr.heap.size := by omega
          have hgg : go ≠ gs := hoo.ne_E hos (by decide)
          have hnn : ((n : Int) + 1) = ((out.length + 1 : Nat) : Int) := by rw [hn.out]; rfl
          have hoo1 : Own ((wr.setCell ⟨go, s0.bg * 6 + 5, none⟩ (.int .i64 ((n : Int) + 1))).alloc (.cells #[.int .i64 s0.fin.kind, .int .i64 s0.fin.d, .int .i64 s0.fin.a, .int .i64 s0.fin.b, .int .u64 (s0.fin.v.toNat : Int)] 89)) w3.heap.size 176 (some ⟨go, 0, none⟩) co (out.set s0.bg (s0.op, ((out.length + 1 : Nat) : Int))) :=
            (hoo.setAt s0.bg 5 (s0.op, ((out.length + 1 : Nat) : Int)) (s0.op, 0) (.int .i64 ((n : Int) + 1)) eo (by decide) (by rw [hnn]; rfl)).alloc _
          have hps1 : Own ((wr.setCell ⟨go, s0.bg * 6 + 5, none⟩ (.int .i64 ((n : Int) + 1))).alloc (.cells #[.int .i64 s0.fin.kind, .int .i64 s0.fin.d, .int .i64 s0.fin.a, .int .i64 s0.fin.b, .int .u64 (s0.fin.v.toNat : Int)] 89)) w3.heap.size 3 (some ⟨gs, 0, none⟩) cs (opn st) := (hpop.far (by simpa using hgg.symm) _).alloc _
          have hb1 := (hbr.setCell (p := ⟨go, s0.bg * 6 + 5, none⟩) hgo1 (.int .i64 ((n : Int) + 1))).alloc (by simpa using hzr) (.cells #[.int .i64 s0.fin.kind, .int .i64 s0.fin.d, .int .i64 s0.fin.a, .int .i64 s0.fin.b, .int .u64 (s0.fin.v.toNat : Int)] 89)
          have HOL : Hid (n = (out.set s0.bg (s0.op, ((out.length + 1 : Nat) : Int))).length) := by show n = _; rw [List.length_set]; exact hn.out
          have hz1 := hb1.size
          have HCD := hide hcd2
          have HS' := hide hs'
          clear e1 ek eo hcd2 hlast hone hsne hnn hs'
          go_wp2_with (at_builtin; go_loud (refine wpList_push tyIns hoo1 (s0.fin, ((s0.bg + 1 : Nat) : Int)) rfl rfl rfl rfl rfl (by simp) HOL.out hz1 (by omega) ?_); intro a4 c4 w4 hown4 hg4 hm4)
          go_roundw
          case rel =>
            refine ⟨i + 1, a4, some ⟨gs, 0, none⟩, c4, cs, n + 1, s', _, s0.r, st, by go_num, by omega, rfl, rfl, ?_, HS'.out, by omega, by omega, HCD, hown4, hps1.grown hg4 (hps1.far_E hoo1 (by decide)), below_push hb1 hoo1 hg4 hz1⟩
            show n + 1 = _
            rw [List.length_append, ← HOL.out]
            rfl
          case measure => simp [intOf]; omega
      | leaf op r =>
        obtain ⟨e1, k1, k2, hcd2⟩ := hcd.out.leaf
        obtain ⟨b1, off1, rfl, x0, x1, x2, x3, x4⟩ := getOp_eq hl3 hbr e1
        have k7 : (op.kind == 7) = false := by simp; omega
        have k0 : (op.kind == 0) = false := by simp; omega
        have hoo1 : Own (wr.alloc (.cells #[.int .i64 op.kind, .int .i64 op.d, .int .i64 op.a, .int .i64 op.b, .int .u64 (op.v.toNat : Int)] 89)) w3.heap.size 176 ao co out := hoo.alloc _
        have HCD := hide hcd2
        clear e1 k1 k2 hcd2
        go_wp2_with (at_builtin; refine wpList_push tyIns hoo1 (op, (0 : Int)) rfl rfl rfl rfl rfl (by simp) hn.out (by simp; omega) (by omega) ?_; intro a4 c4 w4 hown4 hg4 hm4)
        go_roundw
        case rel =>
          refine ⟨i + 1, a4, as', c4, cs, n + 1, s, out ++ [(op, 0)], r, st, by go_num, by omega, rfl, rfl, by show n + 1 = _; rw [hn.out]; simp, hs, by omega, by omega, HCD, hown4, (hos.alloc _).grown hg4 ((hos.alloc _).far_E hoo1 (by decide)), below_push (hbr.alloc hzr _) hoo1 hg4 (by simp; omega)⟩
        case measure => simp [intOf]; omega
      | rep op b fin r =>
        have hst := hcd.out.1
        obtain ⟨e1, k7, e3, _⟩ := hst.rep
        have es := sizes_at HG.out.ok hst
        obtain ⟨b1, off1, rfl, x0, x1, x2, x3, x4⟩ := getOp_eq hl3 hbr e1
        obtain ⟨b2, off2, rfl, y0⟩ := getI_eq hz3 hbr es
        obtain ⟨b3, off3, rfl, m0⟩ := getI_eq hm3 hbr e3
        have k7b : (op.kind == 7) = true := by simp; omega
        have hyl := World.block_lt_of_cell? _ _ y0
        have hml := World.block_lt_of_cell? _ _ m0
        have k0 : (op.kind == 0) = false := by simp; omega
        have hle := hst.lt.1
        rw [Fo.size_rep] at hle
        have hle2 : i + b.size + 1 < f.flat.length := by omega
        obtain ⟨Z, hZ⟩ : ∃ Z : Nat, Z = i + b.size + 1 := ⟨_, rfl⟩
        rw [← hZ] at m0 hle2
        have HZ := hide hZ
        have hZi : i < Z := by omega
        by_cases hq : b.wr * op.v.toNat = 0
        · have hcd2 := hcd.out.skip hq
          rw [show i + b.size + 2 = Z + 1 by omega] at hcd2
          rw [hq] at y0
          have HCD := hide hcd2
          clear e1 k7 e3 es hst hle hZ hq hcd2
          go_wp2
          go_roundw
          case rel => exact ⟨Z + 1, ao, as', co, cs, n, s, out, r, st, by go_num, by omega, rfl, rfl, hn, hs, by omega, by omega, HCD, hoo.alloc _, hos.alloc _, hbr.alloc hzr _⟩
          case measure => simp [intOf]; omega
        · have hcd2 := hcd.out.open_ hq
          obtain ⟨q, hqq⟩ : ∃ q : Nat, q = b.wr * op.v.toNat := ⟨_, rfl⟩
          rw [← hqq] at y0 hq
          have hqb : ((q : Int) == 0) = false := by simpa using hq
          have HCD := hide hcd2
          have hoo1 : Own (wr.alloc (.cells #[.int .i64 op.kind, .int .i64 op.d, .int .i64 op.a, .int .i64 op.b, .int .u64 (op.v.toNat : Int)] 89)) w3.heap.size 176 ao co out := hoo.alloc _
          have hos1 : Own (wr.alloc (.cells #[.int .i64 op.kind, .int .i64 op.d, .int .i64 op.a, .int .i64 op.b, .int .u64 (op.v.toNat : Int)] 89)) w3.heap.size 3 as' cs (opn st) := hos.alloc _
          have hX1 := Blk.new wr 89 #[.int .i64 op.kind, .int .i64 op.d, .int .i64 op.a, .int .i64 op.b, .int .u64 (op.v.toNat : Int)]
          have hb1 := hbr.alloc hzr (.cells #[.int .i64 op.kind, .int .i64 op.d, .int .i64 op.a, .int .i64 op.b, .int .u64 (op.v.toNat : Int)] 89)
          have HOL : Hid (s = (opn st).length) := by show s = _; rw [opn_length]; exact hs.out
          clear e1 k7 e3 es hst hle hZ hqq hq hcd2
          go_wp2_with (first
            | (at_builtin; refine wpList_push tyI hos1 (n : Int) rfl rfl rfl rfl rfl (by simp) HOL.out (by simp; omega) (by omega) ?_; intro a4 c4 w4 hown4 hg4 hm4; have hoo2 := hoo1.grown hg4 (hoo1.far_E hos1 (by decide)); have hX2 := hX1.grown hg4 (by intro e; have := (hos.blk _ e.symm).2; omega); obtain ⟨v0, v1, v2, v3, v4, f0, f1, f2, f3, f4⟩ := hX2.c5; have hb2 := below_push hb1 hos1 hg4 (by simp; omega); have hz4 := hb2.size; clear hoo1 hX1)
            | (at_builtin; refine wpList_push tyIns hoo2 (op, (0 : Int)) rfl rfl rfl rfl rfl rfl hn.out hz4 (by omega) ?_; intro a5 c5 w5 hown5 hg5 hm5))
          go_roundw
          case rel =>
            refine ⟨i + 1, a5, a4, c5, c4, n + 1, s + 1, out ++ [(op, 0)], b, ⟨out.length, op, fin, r⟩ :: st, by go_num, by omega, rfl, rfl, by show n + 1 = _; rw [hn.out]; simp, by show s + 1 = _; rw [hs.out]; rfl, by omega, by omega, HCD, hown5, ?_, below_push hb2 hoo2 hg5 hz4⟩
            rw [opn_cons]
            have := hown4.grown hg5 (hown4.far_E hoo2 (by decide))
            rw [hn.out] at this
            exact this
          case measure => simp [intOf]; omega
    · obtain rfl : i = f.flat.length := by omega
      obtain ⟨rfl, rfl⟩ := hcd.out.last.2 rfl
      have HD := hide (hcd.out.done.2)
      go_wp2
      go_ret2
      unfold CodePost
      rw [HC.out, HK.out, HD.out]
      exact ⟨ao, co, by rw [hn.out]; rfl, hoo.mono hs3, hB3.trans (hbr.mono hs3)⟩
theorem Code_calls (regs : Int) (a : Option Addr) (c : Nat) (l : List OpD) (w : World) (h : At w a l) (hl : l.length ≤ 1000000) :
    Calls Tryz.prog 47 #[.agg #[.int .i64 regs, .slice a l.length c]] w (CodePost regs l w) := by
  by_cases hc : checkS regs l = 0
  · obtain ⟨f, rfl, g⟩ := good_of_check hc
    exact cd_good regs a c f w h g
  · exact cd_bad regs a c l w h hl hc
end Go.Proofs.YtcamcnahkdiefaaGreat

/- Chapter 12: the steps, as an iterator. -/
namespace Go.Proofs.YtcamcnahkdiefaaGreat
set_option linter.unusedVariables false
set_option linter.unusedSimpArgs false
open Go.RowKit Go.Shelf

theorem At.getIns {w wr : World} {a : Option Addr} {l : List (OpD × Int)} (h : At w a l) (hb : Below w.heap.size w wr) {k : Nat} {x : OpD × Int} (hk : l[k]? = some x) :
    ∃ b off, a = some ⟨b, off, none⟩ ∧ wr.cell? ⟨b, off + k * 6, none⟩ = some (.int .i64 x.1.kind) ∧ wr.cell? ⟨b, off + k * 6 + 1, none⟩ = some (.int .i64 x.1.d) ∧
      wr.cell? ⟨b, off + k * 6 + 2, none⟩ = some (.int .i64 x.1.a) ∧ wr.cell? ⟨b, off + k * 6 + 3, none⟩ = some (.int .i64 x.1.b) ∧ wr.cell? ⟨b, off + k * 6 + 4, none⟩ = some (.int .u64 (x.1.v.toNat : Int)) ∧
      wr.cell? ⟨b, off + k * 6 + 5, none⟩ = some (.int .i64 x.2) := by
  obtain ⟨b, off, y, e, hy, hc⟩ := (h.belowN hb).get (List.getElem?_eq_some_iff.1 hk).1
  obtain rfl : x = y := by have := hk.symm.trans hy.out; simpa using this
  exact ⟨b, off, e, hc 0 _ rfl, hc 1 _ rfl, hc 2 _ rfl, hc 3 _ rfl, hc 4 _ rfl, hc 5 _ rfl⟩

def StI (code : List (OpD × Int)) (steps : List Tk) (J : List OpD → List Nat → World → Prop) (F0 : List Nat) (W : World) (N : Nat) (lv av : Value) (wr : World) : Prop :=
  ∃ (pre rest : List Tk) (p : Nat) (st : List UInt64) (al : Option Addr) (cl k : Nat) (G : List Nat), rest.length = N ∧ av = .int .i64 p ∧ lv = .slice al k cl ∧ k = st.length ∧ p ≤ code.length ∧ k ≤ 8 ∧ Chn code (p, st) rest (code.length, []) ∧ steps = pre ++ rest ∧
    Own wr W.heap.size 50 al cl st ∧ J (pre.map (·.op)) G wr ∧ (∀ g, al.map (·.block) = some g → g ∉ G) ∧ (∀ g ∈ G, g ∈ F0 ∨ W.heap.size ≤ g) ∧ Turned F0 W wr

theorem StI.measure {code : List (OpD × Int)} {steps : List Tk} {J : List OpD → List Nat → World → Prop} {F0 : List Nat} {W : World} {N : Nat} {lv av : Value} {wr : World} {lv' av' : Value} {wr' : World}
    (hN : N + 1 = leastOf (fun N => StI code steps J F0 W N lv av wr)) (h : StI code steps J F0 W N lv' av' wr') : leastOf (fun N => StI code steps J F0 W N lv' av' wr') < leastOf (fun N => StI code steps J F0 W N lv av wr) := by
  have := (leastOf_spec (p := fun N => StI code steps J F0 W N lv' av' wr') ⟨N, h⟩).2 N h
  omega
set_option maxRecDepth 100000 in
set_option maxHeartbeats 6400000 in
theorem steps1_seq (n : Nat) (hn : 1 ≤ n) (Bs : Nat) (ac : Option Addr) (cc : Nat) (regs : Int) (f : Fo) (g : Good regs f) (w : World) (z : Nat) (hBs : Blk w Bs 100 #[.slice ac (f.bare.code 0).length cc]) (hc : At w ac (f.bare.code 0)) (hz : f.bare.code 0 ≠ [] → ∀ g, ac.map (·.block) = some g → g < z) :
    SeqAll Fence.wide n Tryz.prog 98 #[.pointer (some ⟨Bs, 0, none⟩)] (fun x : OpD => #[.agg #[.int .i64 x.kind, .int .i64 x.d, .int .i64 x.a, .int .i64 x.b, .int .u64 (x.v.toNat : Int)]]) (f.steps.map (·.op)) (fun b => z ≤ b ∧ b ≠ Bs) w := fun l J F0 W hW hJ hF0 hY h0 => by
  have hlen := g.code_length
  have HTK := hide g.tk
  have HPOS := hide g.tk_pos
  have hchn := hide g.chn
  generalize f.bare.code 0 = code at *
  generalize f.steps = steps at *
  have HY := hide hY
  have HJ := hide hJ
  have HF0 := hide hF0
  have H0 := hide h0
  have HZ := hide hz
  have hBW := hBs.belowN hW
  have hcW := hc.belowN hW
  have hws := hW.size
  have hbl := hBW.lt
  have hB0 := hBs.lt
  clear hY hJ hF0 h0 hBs hz
  refine callsIn_of_wp Tryz.func98 rfl trivial ?_ rfl
  simp only [Tryz.ntmps98, List.size_toArray, List.length_cons, List.length_nil, Nat.reduceAdd, Nat.reduceSub, Array.replicate_succ, Array.replicate_zero, List.push_toArray, List.append_toArray, List.nil_append, List.cons_append]
  gi_wp2
  gi_loopw [3, 4] (fun lv av wr => ∃ N, StI code steps J F0 W N lv av wr) (fun lv av wr => leastOf fun N => StI code steps J F0 W N lv av wr)
  case atStart => exact ⟨_, [], steps, 0, [], none, 0, 0, F0, rfl, rfl, rfl, rfl, by omega, by omega, hchn.out, rfl, Own.none _ _ _, H0.out, fun g hg => by simp at hg, fun g hg => .inl hg, Turned.refl _ _⟩
  case round =>
    obtain ⟨N0, hN0⟩ : ∃ N0, N0 = leastOf (fun N => StI code steps J F0 W N u3 u4 wr) := ⟨_, rfl⟩
    have hs := (leastOf_spec hrel).1
    rw [← hN0] at hs
    obtain ⟨pre, rest, p, st, al, cl, k, G, hrN, hav, hlv, hk, hp, hk8, hch, hst, hown, hj, hdis, hG, hT⟩ := hs
    have HN0 := hide hN0
    have hXr : At wr ac code := hcW.turned hT (fun hne g hg e => by have h1 := HZ.out hne g e; have h2 := (HF0.out g hg).1; omega)
    obtain ⟨b0, b0f⟩ := (hBW.belowN (Below.refl _ _)).c1
    have hBr : Blk wr Bs 100 #[.slice ac code.length cc] := (hT.block Bs hbl (fun hm => (HF0.out _ hm).2 rfl)).trans hBW
    obtain ⟨q0, q1⟩ := hBr.c1
    clear b0 b0f
    have HCH := hide hch
    have HST := hide hst
    have HJ0 := hide hj
    have HDIS := hide hdis
    have HGG := hide hG
    have HK := hide hk
    clear hch hst hj hdis hG hk hrel hN0
    subst hav hlv
    cases rest with
    | nil =>
      have e := HCH.out
      change (p, st) = (code.length, []) at e
      injection e with e1 e2
      subst e1
      have e3 : steps = pre := by rw [HST.out]; simp
      have HE := hide e3
      clear e2 e3
      gi_wp2
      go_end0
      exact ⟨⟨_, rfl⟩, G, by rw [HE.out]; exact HJ0.out, hT, HGG.out⟩
    | cons x rest =>
      obtain ⟨e1, e2, e3⟩ := HCH.out
      injection e1 with e1a e1b
      subst e1a e1b
      have hmem : x ∈ steps := by rw [HST.out]; simp
      obtain ⟨t1, t2, t3, t4, t5, t6, t7, t8, t9⟩ := HTK.out x hmem
      obtain ⟨b1, off1, hac, x0, x1, x2, x3, x4, x5⟩ := hXr.getIns (Below.refl _ _) e2
      subst hac
      simp only at x0 x1 x2 x3 x4 x5
      have hlt := HJ.out.lt _ _ _ HJ0.out
      have hj1 : J (pre.map (·.op)) G (wr.alloc (.cells #[.int .i64 x.op.kind, .int .i64 x.op.d, .int .i64 x.op.a, .int .i64 x.op.b, .int .u64 (x.op.v.toNat : Int), .int .i64 x.to] 176)) := HJ.out.keep _ _ _ _ HJ0.out (by simp) (fun b hb => Below.heap_alloc _ _ _ (hlt b hb))
      have hT1 : Turned F0 W (wr.alloc (.cells #[.int .i64 x.op.kind, .int .i64 x.op.d, .int .i64 x.op.a, .int .i64 x.op.b, .int .u64 (x.op.v.toNat : Int), .int .i64 x.to] 176)) := hT.trans (Turned.ofBelow (F := F0) (Below.alloc (Below.refl _ _) (Nat.le_refl _) _)) (fun b hb => .inl hb)
      obtain ⟨fn, tmps, assign, body, hy, hR⟩ := HY.out (pre.map (·.op)) x.op G _ hj1 hT1 ⟨rest.map (·.op), by rw [HST.out]; simp⟩
      have hX := Blk.new wr 176 #[.int .i64 x.op.kind, .int .i64 x.op.d, .int .i64 x.op.a, .int .i64 x.op.b, .int .u64 (x.op.v.toNat : Int), .int .i64 x.to]
      have HLT := hide hlt
      have HE3 := hide e3
      have HPX := hide (HPOS.out x hmem)
      have hown1 := hown.alloc (.cells #[.int .i64 x.op.kind, .int .i64 x.op.d, .int .i64 x.op.a, .int .i64 x.op.b, .int .u64 (x.op.v.toNat : Int), .int .i64 x.to] 176)
      clear hj1 e2 e3 hmem t5 hlt HY
      try dsimp only at hy
      gi_wp2
      refine hR.mono ?_
      rintro e W3 ⟨rfl, G', hj3, hT3, hG3⟩
      have hz3 := hT3.size
      simp only [World.size_alloc] at hz3
      have hX3 : Blk W3 wr.heap.size 176 #[.int .i64 x.op.kind, .int .i64 x.op.d, .int .i64 x.op.a, .int .i64 x.op.b, .int .u64 (x.op.v.toNat : Int), .int .i64 x.to] := (hT3.block _ hX.lt (fun hm => by have := HLT.out _ hm; omega)).trans hX
      obtain ⟨v0, v1, v2, v3, v4, v5, f0, f1, f2, f3, f4, f5⟩ := hX3.c6
      have hown3 := hown1.turned hT3 HDIS.out
      have HJ3 := hide hj3
      have hsz := hT.size
      have hT13 : Turned F0 W W3 := hT1.trans hT3 (fun b hb => HGG.out b hb)
      have hG3' : ∀ b ∈ G', b ∈ F0 ∨ W.heap.size ≤ b := fun b hb => (hG3 b hb).elim (HGG.out b) (fun h => .inr (by simp at h; omega))
      have hdis3 : ∀ g, al.map (·.block) = some g → g ∉ G' := fun g hg hm => (hG3 g hm).elim (HDIS.out g hg) (fun h => by have := (hown.blk g hg).2; simp at h; omega)
      have HG3 := hide hG3'
      have HD3 := hide hdis3
      have hst2 : steps = (pre ++ [x]) ++ rest := by rw [HST.out]; simp
      have HST2 := hide hst2
      have hmap : (pre ++ [x]).map (·.op) = pre.map (·.op) ++ [x.op] := by simp
      rw [← hmap] at HJ3
      have HOBL := hide (fun q (hq : al.map (·.block) = some q) => (hown.blk q hq).2)
      clear hj3 hG3 hG3' hdis3 hst2 hmap hR x0 x1 x2 x3 x4 x5 hown hown1 hX hX3 hT1 hT3 hy
      rcases kind_cases x.op with ⟨k7, b7, b0⟩ | ⟨k0, b7, b0⟩ | ⟨k7, k0, b7, b0⟩
      · have hnx : x.next = (x.at' + 1, x.st ++ [x.op.v]) := by unfold Tk.next; rw [if_pos k7]
        have hch2 := HE3.out
        rw [hnx] at hch2
        have HCH2 := hide hch2
        have hk7 := t3 k7
        rw [← HK.out] at hk7
        clear hnx hch2 k7 t3 t4
        gi_wp2_with (gi_at_builtin; refine wpListIn_push tyU hown3 x.op.v rfl rfl rfl rfl rfl rfl HK.out (by omega) (by omega) ?_; intro a4 c4 w4 hown4 hg4 hm4)
        have hlt3 := HJ.out.lt _ _ _ HJ3.out
        have hne4 : ∀ g, a4.map (·.block) = some g → g ∉ G' := by
          intro g hg hm
          rcases hm4 with e | ⟨g', e, hle⟩
          · exact HD3.out g (by rw [← e]; exact hg) hm
          · have := hlt3 g hm; rw [e] at hg; injection hg with hg; omega
        have hnew : StI code steps J F0 W rest.length (.slice a4 (k + 1) c4) (.int .i64 ((x.at' : Int) + 1)) w4 :=
          ⟨pre ++ [x], rest, x.at' + 1, x.st ++ [x.op.v], a4, c4, k + 1, G', rfl, by go_num, rfl, by rw [HK.out]; simp, by omega, by omega, HCH2.out, HST2.out, hown4,
            HJ.out.keep _ _ _ _ HJ3.out hg4.size (fun b hb => hg4.block b (hlt3 b hb) (fun e => HD3.out b e.symm hb)), hne4, HG3.out,
            hT13.trans (Turned.ofGrown (F := (al.map (·.block)).toList) hg4 (fun b hb => .inl (by rw [hb]; simp))) (fun b hb => .inr (hown3.blk b (by simpa using hb)).1)⟩
        go_roundw
        case rel => exact ⟨_, hnew⟩
        case measure => exact StI.measure (by have := HN0.out; rw [← this, ← hrN]; rfl) hnew
      ·
        have hst0 := t4 k0
        obtain ⟨gs, hgs, hgs1, hgs2⟩ := hown3.some_ hst0
        subst hgs
        obtain ⟨st', last, hst'⟩ : ∃ st' last, x.st = st' ++ [last] := ⟨x.st.dropLast, x.st.getLast hst0, (List.dropLast_concat_getLast hst0).symm⟩
        have hpos := HPX.out k0
        have hk' : k = st'.length + 1 := by rw [HK.out, hst']; simp
        obtain ⟨k', rfl⟩ : ∃ k', k = k' + 1 := ⟨k - 1, by omega⟩
        have hk2 : k' = st'.length := by omega
        have hlast : x.st[k']? = some last := by rw [hst', hk2]; simp
        have hgl : x.st.getLast?.getD 0 = last := by rw [hst']; simp
        rw [hgl] at hpos
        have hub := last.toNat_lt
        have tl : W3.cell? ⟨gs, k', none⟩ = some (.int .u64 (last.toNat : Int)) := by simpa [Flat.n] using hown3.cellAt hlast (f := 0) rfl
        have tlf := hown3.frozen k'
        have hcap : k' + 1 ≤ cl := by have := hown3.cap.1; rw [hst'] at this; simp at this; omega
        have hlt3 := HJ.out.lt _ _ _ HJ3.out
        have hsub : ((last.toNat : Int) - 1) = ((last - 1).toNat : Int) := by rw [UInt64.toNat_sub]; simp; omega
        have hset : Own (W3.setCell ⟨gs, k', none⟩ (.int .u64 ((last.toNat : Int) - 1))) W.heap.size 50 (some ⟨gs, 0, none⟩) cl (x.st.set k' (last - 1)) := hown3.set1 k' (last - 1) _ (by rw [hsub]; rfl)
        have hsetl : x.st.set k' (last - 1) = st' ++ [last - 1] := by rw [hst', hk2]; simp
        rw [hsetl] at hset
        have hJ4 : J ((pre ++ [x]).map (·.op)) G' (W3.setCell ⟨gs, k', none⟩ (.int .u64 ((last.toNat : Int) - 1))) := HJ.out.keep _ _ _ _ HJ3.out (by simp) (fun b hb => Below.heap_setCell _ _ _ _ (fun e => HD3.out gs rfl (by have e' : b = gs := e; rw [← e']; exact hb)))
        have hT4 : Turned F0 W (W3.setCell ⟨gs, k', none⟩ (.int .u64 ((last.toNat : Int) - 1))) := hT13.trans (Turned.ofGrown (F := [gs]) (grown_setCell W3 gs k' _) (fun b hb => .inl (by injection hb with hb; simp [hb]))) (fun b hb => .inr (by simp at hb; omega))
        have HJ4 := hide hJ4
        have HS' := hide hst'
        have HK2 := hide hk2
        have hgn : gs ≠ wr.heap.size := by have := HOBL.out gs rfl; omega
        by_cases hq : 1 < last.toNat
        · have hnx : x.next = (x.to.toNat, st' ++ [last - 1]) := by unfold Tk.next; rw [if_neg (by omega), if_pos k0, hgl, if_pos hq, HS'.out]; simp
          have hch2 := HE3.out
          rw [hnx] at hch2
          have HCH2 := hide hch2
          have hdq : decide (0 < (last.toNat : Int) - 1) = true := by simp; omega
          clear hnx hch2 k0 t3 t4 hlast hgl hsub hsetl hJ4 hst0 hst' hk2 hk' HPX
          gi_wp2
          have hnew : StI code steps J F0 W rest.length (.slice (some ⟨gs, 0, none⟩) (k' + 1) cl) (.int .i64 x.to) (W3.setCell ⟨gs, k', none⟩ (.int .u64 ((last.toNat : Int) - 1))) :=
            ⟨pre ++ [x], rest, x.to.toNat, st' ++ [last - 1], some ⟨gs, 0, none⟩, cl, k' + 1, G', rfl, by congr 1; omega, rfl, by rw [HK2.out]; simp, by omega, by omega, HCH2.out, HST2.out, hset, HJ4.out, HD3.out, HG3.out, hT4⟩
          go_roundw
          case rel => exact ⟨_, hnew⟩
          case measure => exact StI.measure (by have := HN0.out; rw [← this, ← hrN]; rfl) hnew
        · have hnx : x.next = (x.at' + 1, st') := by unfold Tk.next; rw [if_neg (by omega), if_pos k0, hgl, if_neg hq, HS'.out]; simp
          have hch2 := HE3.out
          rw [hnx] at hch2
          have HCH2 := hide hch2
          have hdq : decide (0 < (last.toNat : Int) - 1) = false := by simp; omega
          have hpop := hset.pop (by simp)
          rw [List.dropLast_concat] at hpop
          clear hnx hch2 k0 t3 t4 hlast hgl hsub hsetl hJ4 hst0 hst' hk2 hk' HPX
          gi_wp2
          have hnew : StI code steps J F0 W rest.length (.slice (some ⟨gs, 0, none⟩) k' cl) (.int .i64 ((x.at' : Int) + 1)) (W3.setCell ⟨gs, k', none⟩ (.int .u64 ((last.toNat : Int) - 1))) :=
            ⟨pre ++ [x], rest, x.at' + 1, st', some ⟨gs, 0, none⟩, cl, k', G', rfl, by go_num, rfl, HK2.out, by omega, by omega, HCH2.out, HST2.out, hpop, HJ4.out, HD3.out, HG3.out, hT4⟩
          go_roundw
          case rel => exact ⟨_, hnew⟩
          case measure => exact StI.measure (by have := HN0.out; rw [← this, ← hrN]; rfl) hnew
      ·
        have hnx : x.next = (x.at' + 1, x.st) := by unfold Tk.next; rw [if_neg k7, if_neg k0]
        have hch2 := HE3.out
        rw [hnx] at hch2
        have HCH2 := hide hch2
        clear hnx hch2 k7 k0 t3 t4
        gi_wp2
        have hnew : StI code steps J F0 W rest.length (.slice al k cl) (.int .i64 ((x.at' : Int) + 1)) W3 :=
          ⟨pre ++ [x], rest, x.at' + 1, x.st, al, cl, k, G', rfl, by go_num, rfl, HK.out, by omega, by omega, HCH2.out, HST2.out, hown3, HJ3.out, HD3.out, HG3.out, hT13⟩
        go_roundw
        case rel => exact ⟨_, hnew⟩
        case measure => exact StI.measure (by have := HN0.out; rw [← this, ← hrN]; rfl) hnew
end Go.Proofs.YtcamcnahkdiefaaGreat

/- Chapter 12: Unroll, Steps. -/
namespace Go.Proofs.YtcamcnahkdiefaaGreat
set_option linter.unusedVariables false
set_option linter.unusedSimpArgs false
open Go.RowKit Go.Shelf
attribute [local go_sem] Oper.semAt_some

noncomputable def unrS (regs : Int) (l : List OpD) : List OpD := if checkS regs l = 0 then (fo l).unroll else []
theorem unrS_good {regs : Int} {f : Fo} (g : Good regs f) : unrS regs f.flat = f.unroll := by unfold unrS; rw [if_pos g.check, fo_flat g.ok]
theorem unrS_bad {regs : Int} {l : List OpD} (h : checkS regs l ≠ 0) : unrS regs l = [] := by unfold unrS; rw [if_neg h]
def UnrPost (regs : Int) (l : List OpD) (w : World) (e : Ending) (w' : World) : Prop :=
  ∃ a c, e = .returned (.tuple #[.slice a (unrS regs l).length c, .int .i64 (checkS regs l)]) ∧ Own w' w.heap.size 89 a c (unrS regs l) ∧ Below w.heap.size w w'

theorem steps_calls (ac : Option Addr) (n cc : Nat) (w : World) : Calls Tryz.prog 48 #[.slice ac n cc] w fun e w' => e = .returned (.func (.func 98) #[] #[.pointer (some ⟨w.heap.size, 0, none⟩)]) ∧ w' = w.alloc (.cells #[.slice ac n cc] 100) := by
  go_enter Tryz.func48, Tryz.ntmps48
  go_wp2
  go_ret
  exact ⟨rfl, rfl⟩

set_option maxHeartbeats 800000 in
theorem unr_bad (regs : Int) (a : Option Addr) (c : Nat) (l : List OpD) (w : World) (h : At w a l) (hl : l.length ≤ 1000000) (hc : checkS regs l ≠ 0) :
    Calls Tryz.prog 17 #[.agg #[.int .i64 regs, .slice a l.length c]] w (UnrPost regs l w) := by
  have h1 := h.belowN (below_new12 w (.cells #[.int .i64 regs, .slice a l.length c] 24))
  have hb0 := below_new12 w (.cells #[.int .i64 regs, .slice a l.length c] 24)
  have HP := hide (Code_calls regs a c l _ h1 hl)
  have HU := hide (unrS_bad hc)
  obtain ⟨E, hE⟩ : ∃ E, E = checkS regs l := ⟨_, rfl⟩
  unfold CodePost at HP
  rw [← hE] at HP hc
  have HE := hide hE
  have e1 : (E == 0) = false := by simpa using hc
  have e2 : (E != 0) = true := by simpa using hc
  clear hE hc
  go_enter Tryz.func17, Tryz.ntmps17
  go_wp2_with (go_at_call 47; ((with_reducible refine (HP.out).mono ?_); rintro e w1 ⟨a1, c1, rfl, hown1, hb1⟩))
  go_ret2
  unfold UnrPost
  rw [HU.out, ← HE.out]
  exact ⟨none, 0, rfl, Own.none _ _ _, hb0.trans (hb1.mono hb0.size)⟩
def UnI (Bo B0 : Nat) (pre : List OpD) (G : List Nat) (W : World) : Prop :=
  ∃ (a : Option Addr) (n c : Nat), Blk W Bo 22 #[.slice a n c] ∧ Hid (n = (wrs pre).length) ∧ Own W B0 89 a c (wrs pre) ∧ G = Bo :: (a.map (·.block)).toList ∧ a.map (·.block) ≠ some Bo
theorem UnI.foot (Bo B0 : Nat) : Foot (UnI Bo B0) where
  keep := by
    rintro pre G W W' ⟨a, n, c, h1, h2, h3, rfl, h5⟩ hs hk
    exact ⟨a, n, c, (hk _ (by simp)).trans h1, h2, h3.keep (fun k hk' _ => hk k (by rw [hk']; simp)), rfl, h5⟩
  lt := by
    rintro pre G W ⟨a, n, c, h1, h2, h3, rfl, h5⟩ b hb
    simp only [List.mem_cons, Option.mem_toList] at hb
    rcases hb with rfl | hb
    · exact h1.lt
    · exact (h3.blk b hb).2
theorem wrs_snoc (l : List OpD) (x : OpD) : wrs (l ++ [x]) = if x.kind ≠ 7 ∧ x.kind ≠ 0 then wrs l ++ [x] else wrs l := by
  rw [wrs_append]
  by_cases h : x.kind ≠ 7 ∧ x.kind ≠ 0
  · rw [if_pos h]; unfold wrs; rw [List.filter_cons, if_pos (by simp [h.1, h.2])]; rfl
  · rw [if_neg h]; have : wrs [x] = [] := by unfold wrs; rw [List.filter_cons, if_neg (by simp; intro h1; exact Classical.byContradiction fun h2 => h ⟨h1, h2⟩)]; rfl
    rw [this, List.append_nil]
theorem wrs_length (l : List OpD) : (wrs l).length ≤ l.length := List.length_filter_le _ _

set_option maxRecDepth 100000 in
set_option maxHeartbeats 3200000 in
theorem unr_good (regs : Int) (a : Option Addr) (c : Nat) (f : Fo) (w : World) (h : At w a f.flat) (g : Good regs f) :
    Calls Tryz.prog 17 #[.agg #[.int .i64 regs, .slice a f.flat.length c]] w (UnrPost regs f.flat w) := by
  have hl : f.flat.length ≤ 4096 := g.len
  have h1 := h.belowN (below_new12 w (.cells #[.int .i64 regs, .slice a f.flat.length c] 24))
  have hb0 := below_new12 w (.cells #[.int .i64 regs, .slice a f.flat.length c] 24)
  have HP := hide (Code_calls regs a c f.flat _ h1 (by omega))
  have HU := hide (unrS_good g)
  have HK := hide g.check
  have HG := hide g
  have hcl := g.code_length
  have hgl := g.gone_le
  rw [← steps_length] at hgl
  unfold CodePost at HP
  rw [g.check, codeS_good g] at HP
  clear g
  refine (callsIn_wide (n := 5)).1 ?_
  refine callsIn_of_wp_marks Tryz.func17 rfl trivial ?_ rfl
  simp only [Tryz.ntmps17, List.size_toArray, List.length_cons, List.length_nil, Nat.reduceAdd, Nat.reduceSub, Array.replicate_succ, Array.replicate_zero, List.push_toArray, List.append_toArray, List.nil_append, List.cons_append]
  gi_wp2_with (first
    | (refine ⟨trivial, ?_⟩; gi_at_call 47; ((with_reducible refine (callsIn_wide.2 HP.out).mono ?_); rintro e w1 ⟨a1, c1, rfl, hown1, hb1⟩))
    | (refine ⟨trivial, ?_⟩; gi_at_call 48; ((with_reducible refine (callsIn_wide.2 (steps_calls _ _ _ _)).mono ?_); rintro e w2 ⟨rfl, rfl⟩)))
  have hs1 := hb1.size
  simp only [World.size_alloc] at hs1
  have hc1 := ((hown1.at_.belowN (below_new12 w1 (.cells #[.slice none 0 0] 22))).belowN (below_new12 _ (.cells #[.slice a1 (f.bare.code 0).length c1] 100)))
  have hBs := Blk.new (w1.alloc (.cells #[.slice none 0 0] 22)) 100 #[.slice a1 (f.bare.code 0).length c1]
  have hBo := (Blk.new w1 22 #[.slice none 0 0]).alloc (.cells #[.slice a1 (f.bare.code 0).length c1] 100)
  have hBB : Below w.heap.size w ((w1.alloc (.cells #[.slice none 0 0] 22)).alloc (.cells #[.slice a1 (f.bare.code 0).length c1] 100)) := ((hb0.trans (hb1.mono hb0.size)).alloc (by omega) _).alloc (by simp; omega) _
  have hz1 : ∀ g, a1.map (·.block) = some g → g < w1.heap.size := fun g hg => (hown1.blk g hg).2
  obtain ⟨Wb, hWb⟩ : ∃ Wb, Wb = (w1.alloc (.cells #[.slice none 0 0] 22)).alloc (.cells #[.slice a1 (f.bare.code 0).length c1] 100) := ⟨_, rfl⟩
  have hsz : Wb.heap.size = w1.heap.size + 2 := by rw [hWb]; simp
  simp only [World.size_alloc] at hBs
  rw [← hWb] at hc1 hBs hBo hBB ⊢
  have HZ1 := hide hz1
  have HSZ := hide hsz
  have hsz1 : w1.heap.size + 2 ≤ Wb.heap.size := by omega
  have hsz2 : Wb.heap.size ≤ w1.heap.size + 2 := by omega
  have hseq := steps1_seq 4 (by omega) (w1.heap.size + 1) a1 c1 regs f HG.out Wb w1.heap.size hBs hc1 (fun _ => hz1)
  generalize hxs : f.steps.map (·.op) = xs at hseq
  have hxl : xs.length ≤ 65536 * 17 := by rw [← hxs]; simpa using hgl
  have HXS := hide hxs
  generalize hn1 : (f.bare.code 0).length = n1 at *
  clear hxs hWb hown1 hb1 h1 hc1 hz1 hsz hgl hcl hn1
  refine wpIn_rangeFunc_all (F := Fence.wide) rfl (by omega) (gf := 98) (lb := #[.pointer (some ⟨w1.heap.size + 1, 0, none⟩)]) rfl trivial (enters_of Tryz.func98 (by kernel_rfl) rfl) hseq (fun b hb => ⟨by omega, by omega⟩) (Below.refl _ _) (fun _ => rfl)
    (UnI w1.heap.size Wb.heap.size) (UnI.foot _ _) [w1.heap.size] (fun b hb => by simp at hb; subst hb; omega) ⟨none, 0, 0, hBo, rfl, Own.none _ _ _, rfl, by simp⟩
    (fun x a' W => ∃ b, Wb.heap.size + 1 < b ∧ Blk W b 89 #[.int .i64 x.kind, .int .i64 x.d, .int .i64 x.a, .int .i64 x.b, .int .u64 (x.v.toNat : Int)] ∧ a' = { defers := [], tmps := #[.agg #[.int .i64 regs, .slice a f.flat.length c],
          .pointer (some ⟨w.heap.size, 0, none⟩), .slice none 0 0, .int .i64 0,
          .slice a1 n1 c1, .int .i64 0,
          .pointer (some ⟨w1.heap.size, 0, none⟩), .pointer (some ⟨b, 0, none⟩),
          .tuple #[.slice a1 n1 c1, .int .i64 0],
          .agg #[.int .i64 regs, .slice a f.flat.length c],
          .tuple #[.slice a1 n1 c1, .int .i64 0],
          .slice a1 n1 c1, .int .i64 0, .int .i64 0,
          .bool false, undef, .slice a1 n1 c1,
          .func (.func 98) #[] #[.pointer (some ⟨w1.heap.size + 1, 0, none⟩)], .agg #[.int .i64 x.kind, .int .i64 x.d, .int .i64 x.a, .int .i64 x.b, .int .u64 (x.v.toNat : Int)], undef,
          undef, undef, undef, undef, undef, undef, undef, undef, undef, undef, undef, undef] })
    (fun x a' W W' ⟨b, h1, h2, h3⟩ _ hk => ⟨b, h1, (hk b (by omega)).trans h2, h3⟩) ?assign ?body ?done
  case assign =>
    intro l pre x G W K hi hx hlt hG hK
    gi_wp2
    exact hK _ _ ⟨W.heap.size, hlt, Blk.new W _ _, rfl⟩ (below_new12 W _)
  case body =>
    rintro l pre x G W a' ⟨ao, no, co, hBo', hno, hown, rfl, hne⟩ ⟨b, hb, hbx, rfl⟩ hx hlt hG
    have hpl : pre.length < xs.length := by obtain ⟨t, rfl⟩ := hx; simp
    have hwl := wrs_length pre
    have hnl : no ≤ 65536 * 17 := by rw [hno.out]; omega
    obtain ⟨x0, x1, x2, x3, x4, y0, y1, y2, y3, y4⟩ := hbx.c5
    obtain ⟨o0, o1⟩ := hBo'.c1
    have hbl := hbx.lt
    have HX := hide hx
    have HSN := hide (wrs_snoc pre x)
    have HGG := hide hG
    have hzo : Wb.heap.size ≤ W.heap.size := by omega
    clear hx hG hwl hpl
    rcases kind_cases x with ⟨k7, b7, b0⟩ | ⟨k0, b7, b0⟩ | ⟨k7, k0, b7, b0⟩
    · have n7 : (x.kind != 7) = false := by simp [k7]
      have hs : wrs (pre ++ [x]) = wrs pre := by rw [HSN.out, if_neg (fun h => h.1 k7)]
      have HS := hide hs
      clear hs k7
      gi_wp2
      refine ⟨_, ⟨ao, no, co, hBo', by rw [HS.out]; exact hno, by rw [HS.out]; exact hown, rfl, hne⟩, Turned.refl _ _, fun b hb => .inl hb⟩
    · have n7 : (x.kind != 7) = true := by simp [k0]
      have n0 : (x.kind != 0) = false := by simp [k0]
      have hs : wrs (pre ++ [x]) = wrs pre := by rw [HSN.out, if_neg (fun h => h.2 k0)]
      have HS := hide hs
      clear hs k0
      gi_wp2
      refine ⟨_, ⟨ao, no, co, hBo', by rw [HS.out]; exact hno, by rw [HS.out]; exact hown, rfl, hne⟩, Turned.refl _ _, fun b hb => .inl hb⟩
    · have n7 : (x.kind != 7) = true := by simp [k7]
      have n0 : (x.kind != 0) = true := by simp [k0]
      have hs : wrs (pre ++ [x]) = wrs pre ++ [x] := by rw [HSN.out, if_pos ⟨k7, k0⟩]
      have HS := hide hs
      clear hs k7 k0
      gi_wp2_with (gi_at_builtin; refine wpListIn_push tyO hown x rfl rfl rfl rfl rfl rfl hno.out hzo (by omega) ?_; intro a4 c4 w4 hown4 hg4 hm4; have hBo4 := hBo'.grown hg4 (fun e => hne e.symm); obtain ⟨o0', o1'⟩ := hBo4.c1)
      have hne4 : a4.map (·.block) ≠ some w1.heap.size := by
        rcases hm4 with e | ⟨g', e, hle⟩
        · rw [e]; exact hne
        · rw [e]; intro e'; injection e' with e'; omega
      refine ⟨_, ⟨a4, no + 1, c4, hBo4.set_ 0 _, ?_, ?_, rfl, hne4⟩, ?_, ?_⟩
      · rw [HS.out, List.length_append, ← hno.out]; rfl
      · rw [HS.out]; exact hown4.setCell (by simp; omega) _
      · refine (Turned.ofGrown hg4 (fun k hk => .inl (by rw [hk]; simp))).trans (Turned.ofGrown (F := [w1.heap.size]) (grown_setCell w4 w1.heap.size 0 _) (fun k hk => .inl (by injection hk with hk; simp [hk]))) (fun k hk => .inl (by simp at hk; simp [hk]))
      · intro k hk
        simp only [List.mem_cons, Option.mem_toList] at hk ⊢
        rcases hk with rfl | hk
        · exact .inl (.inl rfl)
        · rcases hm4 with e | ⟨g', e, hle⟩
          · rw [e] at hk; exact .inl (.inr hk)
          · rw [e] at hk; injection hk with hk; exact .inr (by omega)
  case done =>
    rintro G W ⟨ao, no, co, hBo', hno, hown, rfl, hne⟩ hT hK hlt hG
    have hsz' := hT.size
    obtain ⟨o0, o1⟩ := hBo'.c1
    gi_wp2
    refine ⟨by simp, .inl ⟨_, _, rfl, run_takeDeferred hK, ?_⟩⟩
    refine ⟨_, results_tmp2 rfl _ _ _, ?_⟩
    have hxs : wrs xs = f.unroll := by rw [← HXS.out]; exact HG.out.steps_ops
    have hw0 := hb0.size
    simp only [World.size_alloc] at hw0
    unfold UnrPost
    rw [HU.out, HK.out, ← hxs]
    refine ⟨ao, co, by rw [← hno.out]; rfl, ?_, ?_⟩
    · exact (hown.keep (fun k hk _ => World.putObj_heap_other (fun e => hG (by rw [← e, hk]; simp)))).mono (by omega)
    · exact Turned.below (Turned.below hBB hT (fun k hk => by simp at hk; omega) (by omega)) (turned_putObj W Wb.heap.size _) (fun k hk => by simp at hk; omega) (by omega)
theorem Unroll_calls (regs : Int) (a : Option Addr) (c : Nat) (l : List OpD) (w : World) (h : At w a l) (hl : l.length ≤ 1000000) :
    Calls Tryz.prog 17 #[.agg #[.int .i64 regs, .slice a l.length c]] w (UnrPost regs l w) := by
  by_cases hc : checkS regs l = 0
  · obtain ⟨f, rfl, g⟩ := good_of_check hc
    exact unr_good regs a c f w h g
  · exact unr_bad regs a c l w h hl hc

def StN (Bo : Nat) (pre : List OpD) (G : List Nat) (W : World) : Prop := Blk W Bo 3 #[.int .i64 (pre.length : Int)] ∧ G = [Bo]
theorem StN.foot (Bo : Nat) : Foot (StN Bo) where
  keep := by
    rintro pre G W W' ⟨h1, rfl⟩ hs hk
    exact ⟨(hk _ (by simp)).trans h1, rfl⟩
  lt := by
    rintro pre G W ⟨h1, rfl⟩ b hb
    simp only [List.mem_singleton] at hb
    rw [hb]; exact h1.lt

end Go.Proofs.YtcamcnahkdiefaaGreat

/- Several texts of mine in one file: E13, E13b, E13c, E13d. -/
/- Chapter 13: the machine that runs. -/
namespace Go.Proofs.YtcamcnahkdiefaaGreat
set_option linter.unusedVariables false
set_option linter.unusedSimpArgs false
open Go.RowKit

def uptoL (U : List OpD) (m : Int) : List OpD := if m < 0 then U else U.take m.toNat
def LeftAt (w : World) (b : Nat) (st : List UInt64) : Prop := ∃ cs : Array Value, Blk w b 190 cs ∧ cs.size = 8 ∧ ∀ (i : Nat) (v : UInt64), st[i]? = some v → cs[i]? = some (.int .u64 (v.toNat : Int))
theorem LeftAt.room {w : World} {b : Nat} {st : List UInt64} (h : LeftAt w b st) {i : Nat} (hi : i < 8) : ∃ v, w.cell? ⟨b, i, none⟩ = some v ∧ w.frozen? ⟨b, i, none⟩ = false := by
  obtain ⟨cs, h1, h2, h3⟩ := h
  exact ⟨cs[i]'(by omega), h1.cell_ (Array.getElem?_eq_getElem _), h1.frozen i⟩
theorem LeftAt.cell {w : World} {b : Nat} {st : List UInt64} (h : LeftAt w b st) {i : Nat} {v : UInt64} (hv : st[i]? = some v) : w.cell? ⟨b, i, none⟩ = some (.int .u64 (v.toNat : Int)) := by
  obtain ⟨cs, h1, h2, h3⟩ := h
  exact h1.cell_ (h3 i v hv)
theorem LeftAt.push {w : World} {b : Nat} {st : List UInt64} (h : LeftAt w b st) (hs : st.length < 8) (v : UInt64) : LeftAt (w.setCell ⟨b, st.length, none⟩ (.int .u64 (v.toNat : Int))) b (st ++ [v]) := by
  obtain ⟨cs, h1, h2, h3⟩ := h
  refine ⟨_, h1.set_ st.length _, by simp [h2], fun i u hu => ?_⟩
  rw [Array.getElem?_setIfInBounds]
  by_cases hi : st.length = i
  · subst hi
    simp at hu
    subst hu
    rw [if_pos rfl, if_pos (by omega)]
  · rw [if_neg hi]
    refine h3 i u ?_
    rw [List.getElem?_append] at hu
    split at hu
    · exact hu
    · have := (List.getElem?_eq_some_iff.1 hu).1; simp at this; omega
theorem LeftAt.turn {w : World} {b : Nat} {st : List UInt64} {v : UInt64} (h : LeftAt w b (st ++ [v])) (hs : st.length < 8) (u : UInt64) : LeftAt (w.setCell ⟨b, st.length, none⟩ (.int .u64 (u.toNat : Int))) b (st ++ [u]) := by
  obtain ⟨cs, h1, h2, h3⟩ := h
  have h' : LeftAt w b st := ⟨cs, h1, h2, fun i x hx => h3 i x (by rw [List.getElem?_append_left (List.getElem?_eq_some_iff.1 hx).1]; exact hx)⟩
  exact h'.push hs u
theorem LeftAt.pop {w : World} {b : Nat} {st : List UInt64} {v : UInt64} (h : LeftAt w b (st ++ [v])) : LeftAt w b st := by
  obtain ⟨cs, h1, h2, h3⟩ := h
  exact ⟨cs, h1, h2, fun i x hx => h3 i x (by rw [List.getElem?_append_left (List.getElem?_eq_some_iff.1 hx).1]; exact hx)⟩
theorem LeftAt.turned {F : List Nat} {w w' : World} {b : Nat} {st : List UInt64} (h : LeftAt w b st) (hT : Turned F w w') (hb : b ∉ F) : LeftAt w' b st := by
  obtain ⟨cs, h1, h2, h3⟩ := h
  exact ⟨cs, (hT.block b h1.lt hb).trans h1, h2, h3⟩
theorem LeftAt.far {w : World} {b : Nat} {st : List UInt64} (h : LeftAt w b st) {p : Addr} (hp : b ≠ p.block) (u : Value) : LeftAt (w.setCell p u) b st := by
  obtain ⟨cs, h1, h2, h3⟩ := h
  exact ⟨cs, h1.far hp u, h2, h3⟩
theorem LeftAt.lt {w : World} {b : Nat} {st : List UInt64} (h : LeftAt w b st) : b < w.heap.size := by
  obtain ⟨cs, h1, h2, h3⟩ := h
  exact h1.lt
theorem Good.tk_in {regs : Int} {f : Fo} (g : Good regs f) : ∀ x ∈ f.steps, 1 ≤ x.op.kind → x.op.kind ≤ 6 → InR regs x.op := fun x hx h1 h2 => g.inF x.op (f.bare_mem _ (g.tk x hx).2.2.2.2.1) h1 h2
theorem wrs_snoc' (l : List OpD) (x : OpD) : wrs (l ++ [x]) = if x.kind ≠ 7 ∧ x.kind ≠ 0 then wrs l ++ [x] else wrs l := by
  rw [wrs_append]
  by_cases h : x.kind ≠ 7 ∧ x.kind ≠ 0
  · rw [if_pos h]; unfold wrs; rw [List.filter_cons, if_pos (by simp [h.1, h.2])]; rfl
  · rw [if_neg h]; have : wrs [x] = [] := by unfold wrs; rw [List.filter_cons, if_neg (by simp; intro h1; exact Classical.byContradiction fun h2 => h ⟨h1, h2⟩)]; rfl
    rw [this, List.append_nil]

section
variable {P : Program} {a : Act} {w : World} {Q : Exit → Act → World → Prop}
theorem wp_scope_at {X Y rest : Code} (l : Nat) (J : Act → World → Prop) (μ : Act → World → Nat) (hf : findLabel (X.seq (Y.seq ((Code.label l).seq rest))) l = some (Code.skip.seq rest))
    (first : X.wp P (Exit.then (fun a w => Y.wp P (Exit.then J (fun _ _ _ => False)) a w) (fun _ _ _ => False)) a w)
    (pass : ∀ a w, J a w → rest.wp P (Exit.jump l (fun a' w' => J a' w' ∧ μ a' w' < μ a w) Q) a w) : (Code.scope (X.seq (Y.seq ((Code.label l).seq rest)))).wp P Q a w := by
  refine wp_scope_jumps l J μ hf ?_ (fun a w hJ => wp_seq (wp_skip (pass a w hJ)))
  refine wp_seq (wp_mono first fun e a1 w1 h => ?_)
  cases e with
  | normal =>
    refine wp_seq (wp_mono h fun e a2 w2 h2 => ?_)
    cases e with
    | normal =>
      refine wp_seq (wp_label (wp_mono (pass a2 w2 h2) fun e a3 w3 h3 => ?_))
      cases e with
      | goto l' => exact ⟨h3.1, h3.2.1⟩
      | _ => exact h3
    | _ => exact h2.elim
  | _ => exact h.elim
end

theorem below2 (W : World) (o1 o2 : Obj) : Below W.heap.size W ((W.alloc o1).alloc o2) := Below.alloc (Below.alloc (Below.refl _ _) (Nat.le_refl _) _) (by simp) _
theorem wrs_length' (l : List OpD) : (wrs l).length ≤ l.length := List.length_filter_le _ _
theorem arr_of_size (t : Array Value) (n : Nat) (h : t.size = n) : t = ((List.range n).map fun i => t.getD i undef).toArray := by
  subst h
  apply Array.ext
  · simp
  · intro i h1 h2
    simp [h1]
theorem arr80 (t : Array Value) (h : t.size = 80) : t = #[t.getD 0 undef, t.getD 1 undef, t.getD 2 undef, t.getD 3 undef, t.getD 4 undef, t.getD 5 undef, t.getD 6 undef, t.getD 7 undef, t.getD 8 undef, t.getD 9 undef, t.getD 10 undef, t.getD 11 undef, t.getD 12 undef, t.getD 13 undef, t.getD 14 undef, t.getD 15 undef, t.getD 16 undef, t.getD 17 undef, t.getD 18 undef, t.getD 19 undef, t.getD 20 undef, t.getD 21 undef, t.getD 22 undef, t.getD 23 undef, t.getD 24 undef, t.getD 25 undef, t.getD 26 undef, t.getD 27 undef, t.getD 28 undef, t.getD 29 undef, t.getD 30 undef, t.getD 31 undef, t.getD 32 undef, t.getD 33 undef, t.getD 34 undef, t.getD 35 undef, t.getD 36 undef, t.getD 37 undef, t.getD 38 undef, t.getD 39 undef, t.getD 40 undef, t.getD 41 undef, t.getD 42 undef, t.getD 43 undef, t.getD 44 undef, t.getD 45 undef, t.getD 46 undef, t.getD 47 undef, t.getD 48 undef, t.getD 49 undef, t.getD 50 undef, t.getD 51 undef, t.getD 52 undef, t.getD 53 undef, t.getD 54 undef, t.getD 55 undef, t.getD 56 undef, t.getD 57 undef, t.getD 58 undef, t.getD 59 undef, t.getD 60 undef, t.getD 61 undef, t.getD 62 undef, t.getD 63 undef, t.getD 64 undef, t.getD 65 undef, t.getD 66 undef, t.getD 67 undef, t.getD 68 undef, t.getD 69 undef, t.getD 70 undef, t.getD 71 undef, t.getD 72 undef, t.getD 73 undef, t.getD 74 undef, t.getD 75 undef, t.getD 76 undef, t.getD 77 undef, t.getD 78 undef, t.getD 79 undef] := arr_of_size t 80 h
theorem frame80 {t : Array Value} (h : t.size = 80) {s0 s1 s2 s3 s8 s9 s10 s11 : Value} (h0 : t.getD 0 undef = s0) (h1 : t.getD 1 undef = s1) (h2 : t.getD 2 undef = s2) (h3 : t.getD 3 undef = s3) (h8 : t.getD 8 undef = s8) (h9 : t.getD 9 undef = s9) (h10 : t.getD 10 undef = s10) (h11 : t.getD 11 undef = s11) :
    ∃ u : Nat → Value, t = #[s0, s1, s2, s3, u 4, u 5, u 6, u 7, s8, s9, s10, s11, u 12, u 13, u 14, u 15, u 16, u 17, u 18, u 19, u 20, u 21, u 22, u 23, u 24, u 25, u 26, u 27, u 28, u 29, u 30, u 31, u 32, u 33, u 34, u 35, u 36, u 37, u 38, u 39, u 40, u 41, u 42, u 43, u 44, u 45, u 46, u 47, u 48, u 49, u 50, u 51, u 52, u 53, u 54, u 55, u 56, u 57, u 58, u 59, u 60, u 61, u 62, u 63, u 64, u 65, u 66, u 67, u 68, u 69, u 70, u 71, u 72, u 73, u 74, u 75, u 76, u 77, u 78, u 79] :=
  ⟨fun i => t.getD i undef, by subst h0 h1 h2 h3 h8 h9 h10 h11; exact arr80 t h⟩

def ExJ (code : List (OpD × Int)) (steps : List Tk) (S : Nat → World → Prop) (G0 : List Nat) (ac : Option Addr) (cc gr nr cr B Bl : Nat) (most : Int) (see : Value) (r0 : List UInt64) (W : World) (N : Nat) (a' : Act) (wr : World) : Prop :=
  ∃ (pre rest : List Tk) (p d k : Nat) (st : List UInt64), a'.defers = [] ∧ a'.tmps.size = 80 ∧
    a'.tmps.getD 0 undef = .slice ac code.length cc ∧ a'.tmps.getD 1 undef = .slice (some ⟨gr, 0, none⟩) nr cr ∧ a'.tmps.getD 2 undef = .int .i64 most ∧ a'.tmps.getD 3 undef = see ∧ a'.tmps.getD 8 undef = .pointer (some ⟨Bl, 0, none⟩) ∧
    a'.tmps.getD 9 undef = .int .i64 (p : Int) ∧ a'.tmps.getD 10 undef = .int .i64 (k : Int) ∧ a'.tmps.getD 11 undef = .int .i64 (d : Int) ∧
    rest.length = N ∧ p ≤ code.length ∧ k = st.length ∧ k ≤ 8 ∧ Chn code (p, st) rest (code.length, []) ∧ steps = pre ++ rest ∧ d = (wrs (pre.map (·.op))).length ∧ d ≤ 1200000 ∧ (most < 0 ∨ (d : Int) ≤ most) ∧
    LeftAt wr Bl st ∧ Own wr B 50 (some ⟨gr, 0, none⟩) cr (runR (wrs (pre.map (·.op))) r0) ∧ S d wr ∧ Turned (gr :: G0) W wr
theorem ExJ.measure {J : Nat → Act → World → Prop} {N : Nat} {a a' : Act} {w w' : World} (hN : N + 1 = leastOf (fun N => J N a w)) (h : J N a' w') : leastOf (fun N => J N a' w') < leastOf (fun N => J N a w) := by
  have := (leastOf_spec (p := fun N => J N a' w') ⟨N, h⟩).2 N h
  omega

set_option maxRecDepth 100000 in
set_option maxHeartbeats 6400000 in
theorem execRun_calls  (S : Nat → World → Prop) (G0 : List Nat) (regs : Int) (f : Fo) (g : Good regs f) (ac : Option Addr) (cc gr cr B : Nat) (most : Int) (r0 : List UInt64) (w : World)
    (hc : At w ac (f.bare.code 0)) (hcb : f.bare.code 0 ≠ [] → ∀ q, ac.map (·.block) = some q → q ≠ gr ∧ q ∉ G0)
    (hr : Own w B 50 (some ⟨gr, 0, none⟩) cr r0) (hrl : (r0.length : Int) = regs)
    (hS : S 0 w) (hK : ∀ i W W', S i W → W.heap.size ≤ W'.heap.size → (∀ b ∈ G0, W'.heap[b]? = W.heap[b]?) → S i W')
    (hG : ∀ b ∈ G0, b < w.heap.size ∧ b ≠ gr)
    (hsee : ∀ (i : Nat) (x : OpD) (W : World), f.unroll[i]? = some x → S i W → Calls Tryz.prog 68 #[.int .i64 (i : Int), .agg #[.int .i64 x.kind, .int .i64 x.d, .int .i64 x.a, .int .i64 x.b, .int .u64 (x.v.toNat : Int)]] W fun e W' => e = .returned (.tuple #[]) ∧ S (i + 1) W' ∧ Turned G0 W W') :
    Calls Tryz.prog 67 #[.slice ac (f.bare.code 0).length cc, .slice (some ⟨gr, 0, none⟩) r0.length cr, .int .i64 most, .func (.func 68) #[] #[]] w fun e w' => e = .returned (.tuple #[]) ∧ Own w' B 50 (some ⟨gr, 0, none⟩) cr (runR (uptoL f.unroll most) r0) ∧ S (uptoL f.unroll most).length w' ∧ Turned (gr :: G0) w w' := by
  have hlen := g.code_length
  have HTK := hide g.tk
  have HPOS := hide g.tk_pos
  have hchn := hide g.chn
  have HIN := hide g.tk_in
  have HOPS := hide g.steps_ops
  have hgl := g.gone_le
  rw [← steps_length] at hgl
  obtain ⟨r1, r2⟩ : 1 ≤ regs ∧ regs ≤ 64 := ⟨g.r1, g.r2⟩
  generalize f.bare.code 0 = code at *
  generalize f.steps = steps at *
  generalize f.unroll = U at *
  have HCB := hide hcb
  have HK := hide hK
  have HG := hide hG
  have HSEE := hide hsee
  have HRL := hide hrl
  have hgr := (hr.blk gr rfl)
  obtain ⟨nr, hnr⟩ : ∃ nr, nr = r0.length := ⟨_, rfl⟩
  have hnr64 : nr ≤ 64 := by omega
  have HNR := hide hnr
  rw [← hnr]
  clear hcb hK hG hsee hrl g hnr
  go_enter Tryz.func67, Tryz.ntmps67
  go_wp2
  refine wp_scope_at 0 (fun a' wr => ∃ N, ExJ code steps S G0 ac cc gr nr cr B w.heap.size most (.func (.func 68) #[] #[]) r0 w N a' wr) (fun a' wr => leastOf fun N => ExJ code steps S G0 ac cc gr nr cr B w.heap.size most (.func (.func 68) #[] #[]) r0 w N a' wr) rfl ?_ ?_
  · go_wp2
    exact ⟨steps.length, [], steps, 0, 0, 0, [], rfl, rfl, rfl, rfl, rfl, rfl, rfl, rfl, rfl, rfl, rfl, by omega, rfl, by omega, hchn.out, rfl, rfl, by omega, by omega,
      ⟨_, Blk.new w _ _, rfl, fun i v h => by simp at h⟩, hr.alloc _, HK.out _ _ _ hS (by simp) (fun b hb => Below.heap_alloc _ _ _ (HG.out b hb).1), Turned.ofBelow (Below.alloc (Below.refl _ _) (Nat.le_refl _) _)⟩
  · intro a' wr hJ
    obtain ⟨N0, hN0⟩ : ∃ N0, N0 = leastOf (fun N => ExJ code steps S G0 ac cc gr nr cr B w.heap.size most (.func (.func 68) #[] #[]) r0 w N a' wr) := ⟨_, rfl⟩
    have hs := (leastOf_spec hJ).1
    rw [← hN0] at hs
    obtain ⟨pre, rest, p, d, k, st, hdf, hsz, f0, f1, f2, f3, f8, f9, f10, f11, hrN, hp, hk, hk8, hch, hst, hd, hd5, hdm, hL, hown, hSd, hT⟩ := hs
    obtain ⟨tm, df⟩ := a'
    simp only at hdf hsz f0 f1 f2 f3 f8 f9 f10 f11
    obtain ⟨u, rfl⟩ := frame80 hsz f0 f1 f2 f3 f8 f9 f10 f11
    subst hdf
    clear hsz f0 f1 f2 f3 f8 f9 f10 f11
    have HN0 := hide hN0
    have HKK := hide hk
    have HST := hide hst
    have HD := hide hd
    have HCH := hide hch
    have hzT := hT.size
    have hG0 : ∀ b ∈ gr :: G0, b < w.heap.size := fun b hb => by
      simp only [List.mem_cons] at hb
      rcases hb with rfl | hb
      · exact hgr.2
      · exact (HG.out b hb).1
    have hXr : At wr ac code := hc.turned hT (fun hne q hq e => by
      obtain ⟨h1, h2⟩ := HCB.out hne q e
      simp only [List.mem_cons] at hq
      exact hq.elim h1 h2)
    have hLl := hL.lt
    have HG0 := hide hG0
    clear hN0 hk hst hd hch hJ hG0
    cases rest with
    | nil =>
      have e := HCH.out
      change (p, st) = (code.length, []) at e
      injection e with e1 e2
      subst e1
      have hU : wrs (pre.map (·.op)) = U := by rw [← HOPS.out, HST.out]; simp
      have hup : uptoL U most = wrs (pre.map (·.op)) := by
        unfold uptoL
        rw [hU]
        rcases hdm with h | h
        · rw [if_pos h]
        · rw [if_neg (by omega), List.take_of_length_le (by rw [← hU, ← HD.out]; omega)]
      have HUP := hide hup
      clear e2 hU hup
      go_wp2
      simp only [Exit.jump]
      try rw [Exit.noGoto_ret]
      refine bodyPost_ret (results_none rfl _ _ _) rfl ⟨rfl, ?_⟩
      rw [HUP.out, ← HD.out]
      exact ⟨hown, hSd, hT⟩
    | cons x rest =>
      obtain ⟨e1, e2, e3⟩ := HCH.out
      injection e1 with e1a e1b
      subst e1a e1b
      have hplt : x.at' < code.length := (List.getElem?_eq_some_iff.1 e2).1
      have bp : ((x.at' : Int) == (code.length : Int)) = false := by simp; omega
      have hpU : wrs (pre.map (·.op)) ++ wrs ((x :: rest).map (·.op)) = U := by rw [← wrs_append, ← List.map_append, ← HST.out, HOPS.out]
      by_cases hdq : (d : Int) = most
      · have bd : ((d : Int) == most) = true := by simpa using hdq
        have hup : uptoL U most = wrs (pre.map (·.op)) := by
          unfold uptoL
          rw [if_neg (by omega), ← hpU, ← hdq, Int.toNat_natCast, HD.out, List.take_left]
        have HUP := hide hup
        clear hpU hup hdq e2 e3
        go_wp2
        simp only [Exit.jump]
        try rw [Exit.noGoto_ret]
        refine bodyPost_ret (results_none rfl _ _ _) rfl ⟨rfl, ?_⟩
        rw [HUP.out, ← HD.out]
        exact ⟨hown, hSd, hT⟩
      have bd : ((d : Int) == most) = false := by simpa using hdq
      have hmem : x ∈ steps := by rw [HST.out]; simp
      obtain ⟨t1, t2, t3, t4, t5, t6, t7, t8, t9⟩ := HTK.out x hmem
      obtain ⟨b1, off1, hac, x0, x1, x2, x3, x4, x5⟩ := hXr.getIns (Below.refl _ _) e2
      subst hac
      simp only at x0 x1 x2 x3 x4 x5
      have KEEP : Hid (∀ W3, Turned [w.heap.size] wr W3 → Own W3 B 50 (some ⟨gr, 0, none⟩) cr (runR (wrs (pre.map (·.op))) r0) ∧ S d W3 ∧ Turned (gr :: G0) w W3) := fun W3 hT3 =>
        ⟨hown.turned hT3 (fun q hq => by simp at hq; simp; omega), HK.out _ _ _ hSd hT3.size (fun b hb => hT3.block b (by have := (HG.out b hb).1; omega) (by have := (HG.out b hb).1; simp; omega)), hT.trans hT3 (fun q hq => by simp at hq; exact .inr (by omega))⟩
      have hmap : (pre ++ [x]).map (·.op) = pre.map (·.op) ++ [x.op] := by simp
      have hst2 : steps = (pre ++ [x]) ++ rest := by rw [HST.out]; simp
      have hsn := wrs_snoc' (pre.map (·.op)) x.op
      rw [← hmap] at hsn
      have HSN := hide hsn
      have HST2 := hide hst2
      have HE3 := hide e3
      have HPX := hide (HPOS.out x hmem)
      have HINX := hide (HIN.out x hmem)
      have HPU := hide hpU
      have hrdx : d < 1200000 := by
        have h1 := wrs_length' (pre.map (·.op))
        have h2 : (pre.map (·.op)).length + 1 ≤ steps.length := by rw [HST.out]; simp
        have := HD.out
        omega
      have hmost : most < 0 ∨ (d : Int) + 1 ≤ most := by omega
      clear hmap hst2 hsn e2 e3 hmem hpU hdq t5
      rcases kind_cases x.op with ⟨k7, b7, b0⟩ | ⟨k0, b7, b0⟩ | ⟨k7, k0, b7, b0⟩
      · have hnx : x.next = (x.at' + 1, x.st ++ [x.op.v]) := by unfold Tk.next; rw [if_pos k7]
        have hch2 := HE3.out
        rw [hnx] at hch2
        have HCH2 := hide hch2
        have hk7 := t3 k7
        rw [← HKK.out] at hk7
        have hws : wrs ((pre ++ [x]).map (·.op)) = wrs (pre.map (·.op)) := by rw [HSN.out, if_neg (fun h => h.1 k7)]
        have HWS := hide hws
        obtain ⟨v0, c0, c1⟩ := hL.room (i := k) (by omega)
        have hL3 := hL.push (by have := HKK.out; omega) x.op.v
        rw [← HKK.out] at hL3
        have HL3 := hide hL3
        clear hL3
        clear hnx hch2 k7 t3 t4 hws
        go_wp2
        go_step3
        refine ⟨rfl, ?_⟩
        suffices hnew : ExJ code steps S G0 (some ⟨b1, off1, none⟩) cc gr nr cr B w.heap.size most (.func (.func 68) #[] #[]) r0 w rest.length _ _ from ⟨⟨_, hnew⟩, ExJ.measure (J := ExJ code steps S G0 (some ⟨b1, off1, none⟩) cc gr nr cr B w.heap.size most (.func (.func 68) #[] #[]) r0 w) (by have := HN0.out; rw [← this, ← hrN]; rfl) hnew⟩
        refine ⟨pre ++ [x], rest, x.at' + 1, d, k + 1, x.st ++ [x.op.v], rfl, rfl, rfl, rfl, rfl, rfl, rfl, rfl, rfl, rfl, rfl, by omega, by rw [List.length_append, ← HKK.out]; rfl, by omega, HCH2.out, HST2.out, by rw [HWS.out]; exact HD.out, hd5, hdm,
          HL3.out.turned (Turned.ofBelow (F := []) (below2 _ _ _)) (by simp), ?_⟩
        rw [HWS.out]
        exact KEEP.out _ ((Turned.ofGrown (F := [w.heap.size]) (grown_setCell _ _ _ _) (fun q hq => .inl (by injection hq with hq; simp [hq]))).trans (Turned.ofBelow (F := []) (below2 _ _ _)) (fun q hq => by cases hq))
      · have hst0 := t4 k0
        obtain ⟨st', last, hst'⟩ : ∃ st' last, x.st = st' ++ [last] := ⟨x.st.dropLast, x.st.getLast hst0, (List.dropLast_concat_getLast hst0).symm⟩
        have hpos := HPX.out k0
        have hk' : k = st'.length + 1 := by rw [HKK.out, hst']; simp
        obtain ⟨k', rfl⟩ : ∃ k', k = k' + 1 := ⟨k - 1, by omega⟩
        have hk2 : k' = st'.length := by omega
        have hgl : x.st.getLast?.getD 0 = last := by rw [hst']; simp
        rw [hgl] at hpos
        have hub := last.toNat_lt
        have hlast : x.st[k']? = some last := by rw [hst', hk2]; simp
        have c0 := hL.cell hlast
        obtain ⟨v0, c0', c1⟩ := hL.room (i := k') (by omega)
        have hsub : ((last.toNat : Int) - 1) = ((last - 1).toNat : Int) := by rw [UInt64.toNat_sub]; simp; omega
        have hL1 : LeftAt wr w.heap.size (st' ++ [last]) := by rw [← hst']; exact hL
        have hL3 := hL1.turn (by omega) (last - 1)
        rw [← hsub, ← hk2] at hL3
        have HL3 := hide hL3
        have hws : wrs ((pre ++ [x]).map (·.op)) = wrs (pre.map (·.op)) := by rw [HSN.out, if_neg (fun h => h.2 k0)]
        have HWS := hide hws
        have HK2 := hide hk2
        have HS' := hide hst'
        have hkk8 : (k' : Int) < 8 := by omega
        clear c0' hL1 hL3
        by_cases hq : 1 < last.toNat
        · have hnx : x.next = (x.to.toNat, st' ++ [last - 1]) := by unfold Tk.next; rw [if_neg (by omega), if_pos k0, hgl, if_pos hq, hst']; simp
          have hch2 := HE3.out
          rw [hnx] at hch2
          have HCH2 := hide hch2
          have hdq : decide (0 < (last.toNat : Int) - 1) = true := by simp; omega
          clear hnx hch2 k0 t3 t4 hlast hgl hsub hst0 hst' hk2 hk' HPX hws
          go_wp2
          go_step3
          refine ⟨rfl, ?_⟩
          suffices hnew : ExJ code steps S G0 (some ⟨b1, off1, none⟩) cc gr nr cr B w.heap.size most (.func (.func 68) #[] #[]) r0 w rest.length _ _ from ⟨⟨_, hnew⟩, ExJ.measure (J := ExJ code steps S G0 (some ⟨b1, off1, none⟩) cc gr nr cr B w.heap.size most (.func (.func 68) #[] #[]) r0 w) (by have := HN0.out; rw [← this, ← hrN]; rfl) hnew⟩
          refine ⟨pre ++ [x], rest, x.to.toNat, d, k' + 1, st' ++ [last - 1], rfl, rfl, rfl, rfl, rfl, rfl, rfl, congrArg (Value.int .i64) (by omega), rfl, rfl, rfl, by omega, by rw [List.length_append, ← HK2.out]; rfl, by omega, HCH2.out, HST2.out, by rw [HWS.out]; exact HD.out, hd5, hdm,
            HL3.out.turned (Turned.ofBelow (F := []) (below2 _ _ _)) (by simp), ?_⟩
          rw [HWS.out]
          exact KEEP.out _ ((Turned.ofGrown (F := [w.heap.size]) (grown_setCell _ _ _ _) (fun q hq => .inl (by injection hq with hq; simp [hq]))).trans (Turned.ofBelow (F := []) (below2 _ _ _)) (fun q hq => by cases hq))
        · have hnx : x.next = (x.at' + 1, st') := by unfold Tk.next; rw [if_neg (by omega), if_pos k0, hgl, if_neg hq, hst']; simp
          have hch2 := HE3.out
          rw [hnx] at hch2
          have HCH2 := hide hch2
          have hdq : decide (0 < (last.toNat : Int) - 1) = false := by simp; omega
          clear hnx hch2 k0 t3 t4 hlast hgl hsub hst0 hst' hk2 hk' HPX hws
          go_wp2
          go_step3
          refine ⟨rfl, ?_⟩
          suffices hnew : ExJ code steps S G0 (some ⟨b1, off1, none⟩) cc gr nr cr B w.heap.size most (.func (.func 68) #[] #[]) r0 w rest.length _ _ from ⟨⟨_, hnew⟩, ExJ.measure (J := ExJ code steps S G0 (some ⟨b1, off1, none⟩) cc gr nr cr B w.heap.size most (.func (.func 68) #[] #[]) r0 w) (by have := HN0.out; rw [← this, ← hrN]; rfl) hnew⟩
          refine ⟨pre ++ [x], rest, x.at' + 1, d, k', st', rfl, rfl, rfl, rfl, rfl, rfl, rfl, rfl, rfl, rfl, rfl, by omega, HK2.out, by omega, HCH2.out, HST2.out, by rw [HWS.out]; exact HD.out, hd5, hdm,
            (HL3.out.pop).turned (Turned.ofBelow (F := []) (below2 _ _ _)) (by simp), ?_⟩
          rw [HWS.out]
          exact KEEP.out _ ((Turned.ofGrown (F := [w.heap.size]) (grown_setCell _ _ _ _) (fun q hq => .inl (by injection hq with hq; simp [hq]))).trans (Turned.ofBelow (F := []) (below2 _ _ _)) (fun q hq => by cases hq))
      · have hkk1 : 1 ≤ x.op.kind := by omega
        have hkk2 : x.op.kind ≤ 6 := by omega
        obtain ⟨⟨d1, d2⟩, ⟨a1, a2⟩, ⟨i1, i2⟩⟩ := HINX.out hkk1 hkk2
        have hlr : (runR (wrs (pre.map (·.op))) r0).length = nr := by rw [runR_length, HNR.out]
        have HLR := hide hlr
        have HRL2 := HRL.out
        rw [← HNR.out] at HRL2
        have hAn : x.op.a.toNat < nr := by omega
        have hEn : x.op.b.toNat < nr := by omega
        have hDn : x.op.d.toNat < nr := by omega
        have a3 : x.op.a < (nr : Int) := by omega
        have i3 : x.op.b < (nr : Int) := by omega
        have d3 : x.op.d < (nr : Int) := by omega
        generalize hregs : runR (wrs (pre.map (·.op))) r0 = R at *
        obtain ⟨va, hva⟩ : ∃ va, R[x.op.a.toNat]? = some va := ⟨R[x.op.a.toNat]'(by omega), List.getElem?_eq_getElem _⟩
        obtain ⟨vb, hvb⟩ : ∃ vb, R[x.op.b.toNat]? = some vb := ⟨R[x.op.b.toNat]'(by omega), List.getElem?_eq_getElem _⟩
        obtain ⟨vd, hvd⟩ : ∃ vd, R[x.op.d.toNat]? = some vd := ⟨R[x.op.d.toNat]'(by omega), List.getElem?_eq_getElem _⟩
        have ra : wr.cell? ⟨gr, x.op.a.toNat, none⟩ = some (.int .u64 (va.toNat : Int)) := by simpa [Flat.n] using hown.cellAt hva (f := 0) rfl
        have rb : wr.cell? ⟨gr, x.op.b.toNat, none⟩ = some (.int .u64 (vb.toNat : Int)) := by simpa [Flat.n] using hown.cellAt hvb (f := 0) rfl
        have rd : wr.cell? ⟨gr, x.op.d.toNat, none⟩ = some (.int .u64 (vd.toNat : Int)) := by simpa [Flat.n] using hown.cellAt hvd (f := 0) rfl
        have rf := hown.frozen x.op.d.toNat
        have hgl := (hown.blk gr rfl).2
        have HAP := hide (fun w => Apply_calls x.op va vb w)
        have HVA := hide hva
        have HVB := hide hvb
        have HVD := hide hvd
        have HRG := hide hregs
        have hOb := Blk.new (wr.alloc (.cells #[.int .i64 x.op.kind, .int .i64 x.op.d, .int .i64 x.op.a, .int .i64 x.op.b, .int .u64 (x.op.v.toNat : Int), .int .i64 x.to] 176)) 89 #[.int .i64 x.op.kind, .int .i64 x.op.d, .int .i64 x.op.a, .int .i64 x.op.b, .int .u64 (x.op.v.toNat : Int)]
        simp only [World.size_alloc] at hOb
        have hown2 := hown.belowN (below2 wr (.cells #[.int .i64 x.op.kind, .int .i64 x.op.d, .int .i64 x.op.a, .int .i64 x.op.b, .int .u64 (x.op.v.toNat : Int), .int .i64 x.to] 176) (.cells #[.int .i64 x.op.kind, .int .i64 x.op.d, .int .i64 x.op.a, .int .i64 x.op.b, .int .u64 (x.op.v.toNat : Int)] 89))
        clear hva hvb hvd hregs hlr t3 t4 HPX hkk1 hkk2
        go_wp2_with fail
        have hB02 := below2 wr (.cells #[.int .i64 x.op.kind, .int .i64 x.op.d, .int .i64 x.op.a, .int .i64 x.op.b, .int .u64 (x.op.v.toNat : Int), .int .i64 x.to] 176) (.cells #[.int .i64 x.op.kind, .int .i64 x.op.d, .int .i64 x.op.a, .int .i64 x.op.b, .int .u64 (x.op.v.toNat : Int)] 89)
        generalize hW2 : (wr.alloc (.cells #[.int .i64 x.op.kind, .int .i64 x.op.d, .int .i64 x.op.a, .int .i64 x.op.b, .int .u64 (x.op.v.toNat : Int), .int .i64 x.to] 176)).alloc (.cells #[.int .i64 x.op.kind, .int .i64 x.op.d, .int .i64 x.op.a, .int .i64 x.op.b, .int .u64 (x.op.v.toNat : Int)] 89) = W2 at *
        obtain ⟨y0, y1, y2, y3, y4, z0, z1, z2, z3, z4⟩ := hOb.c5
        have hz2 : W2.heap.size = wr.heap.size + 2 := by rw [← hW2]; simp
        have ra2 : W2.cell? ⟨gr, x.op.a.toNat, none⟩ = some (.int .u64 (va.toNat : Int)) := by simpa [Flat.n] using hown2.cellAt HVA.out (f := 0) rfl
        have rb2 : W2.cell? ⟨gr, x.op.b.toNat, none⟩ = some (.int .u64 (vb.toNat : Int)) := by simpa [Flat.n] using hown2.cellAt HVB.out (f := 0) rfl
        have rd2 : W2.cell? ⟨gr, x.op.d.toNat, none⟩ = some (.int .u64 (vd.toNat : Int)) := by simpa [Flat.n] using hown2.cellAt HVD.out (f := 0) rfl
        have rf2 := hown2.frozen x.op.d.toNat
        have hgl2 : gr < W2.heap.size := by omega
        have hol2 : wr.heap.size + 1 < W2.heap.size := by omega
        have hgo : gr ≠ wr.heap.size + 1 := by omega
        clear ra rb rd rf hW2
        obtain ⟨S', hS'⟩ : ∃ S' : World → Prop, S' = fun w' => (w'.cell? ⟨wr.heap.size + 1, 0, none⟩ = some (.int .i64 x.op.kind) ∧ w'.cell? ⟨wr.heap.size + 1, 1, none⟩ = some (.int .i64 x.op.d) ∧ w'.cell? ⟨wr.heap.size + 1, 2, none⟩ = some (.int .i64 x.op.a) ∧ w'.cell? ⟨wr.heap.size + 1, 3, none⟩ = some (.int .i64 x.op.b) ∧ w'.cell? ⟨wr.heap.size + 1, 4, none⟩ = some (.int .u64 (x.op.v.toNat : Int))) ∧ w'.cell? ⟨gr, x.op.a.toNat, none⟩ = some (.int .u64 (va.toNat : Int)) ∧ w'.cell? ⟨gr, x.op.b.toNat, none⟩ = some (.int .u64 (vb.toNat : Int)) := ⟨_, rfl⟩
        have hSe : ∀ w', S' w' → (w'.cell? ⟨wr.heap.size + 1, 0, none⟩ = some (.int .i64 x.op.kind) ∧ w'.cell? ⟨wr.heap.size + 1, 1, none⟩ = some (.int .i64 x.op.d) ∧ w'.cell? ⟨wr.heap.size + 1, 2, none⟩ = some (.int .i64 x.op.a) ∧ w'.cell? ⟨wr.heap.size + 1, 3, none⟩ = some (.int .i64 x.op.b) ∧ w'.cell? ⟨wr.heap.size + 1, 4, none⟩ = some (.int .u64 (x.op.v.toNat : Int))) ∧ w'.cell? ⟨gr, x.op.a.toNat, none⟩ = some (.int .u64 (va.toNat : Int)) ∧ w'.cell? ⟨gr, x.op.b.toNat, none⟩ = some (.int .u64 (vb.toNat : Int)) := fun w' h => by rw [hS'] at h; exact h
        have HSE := hide hSe
        have HSI : Hid (S' W2.drew) := by show S' W2.drew; rw [hS']; exact ⟨⟨y0, y1, y2, y3, y4⟩, ra2, rb2⟩
        have HSI4 : Hid (∀ w4, Below W2.drew.heap.size W2.drew w4 → S' w4) := by
          show ∀ w4, _ → _
          intro w4 hb4
          obtain ⟨hc4, hf4⟩ := bcell hb4
          rw [hS']
          exact ⟨⟨(hc4 _ 0 hol2).trans y0, (hc4 _ 1 hol2).trans y1, (hc4 _ 2 hol2).trans y2, (hc4 _ 3 hol2).trans y3, (hc4 _ 4 hol2).trans y4⟩, (hc4 _ _ hgl2).trans ra2, (hc4 _ _ hgl2).trans rb2⟩
        clear hSe hS'
        refine wp_region_call 14 S' (by kernel_rfl) (by kernel_rfl) HSI.out ?_
        simp only [List.take_succ_cons, List.take_zero, List.drop_succ_cons, List.drop_zero]
        iterate 14
          apply headK_step (by rfl)
          · intro w' hw'
            obtain ⟨⟨s0, s1, s2, s3, s4⟩, s5, s6⟩ := HSE.out w' hw'
            go_simp
            rfl
          intro a' ha'
          simp only [Act.put, List.setIfInBounds_toArray, List.set_cons_succ, List.set_cons_zero] at ha'
          subst ha'
        refine headK_nil ?_
        intro o ho K0 hK0
        simp only [List.getElem?_cons_succ, List.getElem?_cons_zero, Option.some.injEq] at ho
        subst ho
        have HK0 := hide hK0
        clear hK0
        go_simp
        go_at_call 114
        refine (HAP.out _).mono ?_
        rintro e w4 ⟨rfl, hb4⟩
        refine HK0.out _ _ (HSI4.out w4 hb4) ?_
        obtain ⟨hc4, hf4⟩ := bcell hb4
        have q0 := (hc4 _ 0 hol2).trans y0
        have q1 := (hc4 _ 1 hol2).trans y1
        have q2 := (hc4 _ 2 hol2).trans y2
        have q3 := (hc4 _ 3 hol2).trans y3
        have q4 := (hc4 _ 4 hol2).trans y4
        have qd := (hc4 _ _ hgl2).trans rd2
        have qf := (hf4 _ x.op.d.toNat hgl2).trans rf2
        clear hc4 hf4 HK0
        go_wp2
        refine NoPanic.normal ?_
        have hb4' : Below W2.heap.size W2 w4 := ⟨hb4.os, hb4.tape, hb4.output, hb4.size, hb4.block⟩
        have hTb : Turned [gr] wr w4 := (Turned.ofBelow (F := [gr]) hB02).trans (Turned.ofBelow (F := []) hb4') (fun b hb => by cases hb)
        have hT5 : Turned [gr] wr (w4.setCell ⟨gr, x.op.d.toNat, none⟩ (.int .u64 ((applyU x.op va vb).toNat : Int))) := hTb.trans (Turned.ofGrown (F := [gr]) (grown_setCell _ _ _ _) (fun q hq => .inl (by injection hq with hq; simp [hq]))) (fun b hb => .inl hb)
        have hown4 : Own w4 B 50 (some ⟨gr, 0, none⟩) cr R := hown2.drew.belowN hb4
        have hown5 := hown4.set1 x.op.d.toNat (applyU x.op va vb) _ rfl
        have hstep : R.set x.op.d.toNat (applyU x.op va vb) = runR (wrs ((pre ++ [x]).map (·.op))) r0 := by
          rw [HSN.out, if_pos ⟨k7, k0⟩, runR_append, HRG.out]
          show _ = stepR R x.op
          unfold stepR getR
          rw [HVA.out, HVB.out]
          rfl
        rw [hstep] at hown5
        have hS5 := HK.out _ _ _ hSd hT5.size (fun b hb => hT5.block b (by have := (HG.out b hb).1; omega) (by have := (HG.out b hb).2; simpa using this))
        have hL5 := hL.turned hT5 (by simp; omega)
        have hUd : U[d]? = some x.op := by
          rw [← HPU.out, HD.out, List.getElem?_append_right (Nat.le_refl _), Nat.sub_self, List.map_cons]
          unfold wrs
          rw [List.filter_cons, if_pos (by simp [k7, k0])]
          rfl
        have HC := hide (HSEE.out d x.op _ hUd hS5)
        have hnx : x.next = (x.at' + 1, x.st) := by unfold Tk.next; rw [if_neg k7, if_neg k0]
        have hch2 := HE3.out
        rw [hnx] at hch2
        have HCH2 := hide hch2
        have HOWN := hide hown5
        have HD2 : Hid (d + 1 = (wrs ((pre ++ [x]).map (·.op))).length) := by show d + 1 = _; rw [HSN.out, if_pos ⟨k7, k0⟩, List.length_append, ← HD.out]; rfl
        have hl4 : gr < w4.heap.size := by have := hb4.size; simp at this; omega
        clear hnx hch2 hUd hS5 hstep hown5 hown4 k7 k0 HSI4 HSI HSE hOb hown2
        go_wp2_with (go_at_call 68; ((with_reducible refine (HC.out).mono ?_); rintro e w6 ⟨rfl, hS6, hT6⟩))
        have hTT : Turned (gr :: G0) w w6 := (hT.trans hT5 (fun q hq => .inl (by simp at hq; simp [hq]))).trans hT6 (fun q hq => .inl (by simp [hq]))
        go_step3
        refine ⟨rfl, ?_⟩
        suffices hnew : ExJ code steps S G0 (some ⟨b1, off1, none⟩) cc gr nr cr B w.heap.size most (.func (.func 68) #[] #[]) r0 w rest.length _ _ from ⟨⟨_, hnew⟩, ExJ.measure (J := ExJ code steps S G0 (some ⟨b1, off1, none⟩) cc gr nr cr B w.heap.size most (.func (.func 68) #[] #[]) r0 w) (by have := HN0.out; rw [← this, ← hrN]; rfl) hnew⟩
        exact ⟨pre ++ [x], rest, x.at' + 1, d + 1, k, x.st, rfl, rfl, rfl, rfl, rfl, rfl, rfl, rfl, rfl, rfl, rfl, by omega, HKK.out, by omega, HCH2.out, HST2.out, HD2.out, by omega, by omega,
          hL5.turned hT6 (fun hm => by have := (HG.out _ hm).1; omega), HOWN.out.turned hT6 (fun q hq hm => by simp at hq; subst hq; exact (HG.out _ hm).2 rfl), hS6, hTT⟩
end Go.Proofs.YtcamcnahkdiefaaGreat

/- Chapter 13: begin, Run, Upto, Last. -/
namespace Go.Proofs.YtcamcnahkdiefaaGreat
set_option linter.unusedVariables false
set_option linter.unusedSimpArgs false
open Go.RowKit

def dimsS (regs : Int) (l : List OpD) (n : Nat) : Int := if checkS regs l ≠ 0 then checkS regs l else if regs < (n : Int) then 10 else 0
theorem dims_good {regs : Int} {l : List OpD} {n : Nat} (h : dimsS regs l n = 0) : ∃ f : Fo, l = f.flat ∧ Good regs f ∧ (n : Int) ≤ regs := by
  unfold dimsS at h
  by_cases hc : checkS regs l = 0
  · rw [if_neg (by simpa using hc)] at h
    obtain ⟨f, rfl, g⟩ := good_of_check hc
    by_cases hn : regs < (n : Int)
    · rw [if_pos hn] at h; cases h
    · exact ⟨f, rfl, g, by omega⟩
  · rw [if_pos hc] at h; exact absurd h hc
theorem dims_of_good {regs : Int} {f : Fo} (g : Good regs f) {n : Nat} (hn : (n : Int) ≤ regs) : dimsS regs f.flat n = 0 := by
  unfold dimsS
  rw [if_neg (by simpa using g.check), if_neg (by omega)]
noncomputable def uptoS (regs : Int) (l : List OpD) (r : List UInt64) (m : Int) : List UInt64 := if dimsS regs l r.length = 0 then runR (uptoL (unrS regs l) m) (startR regs.toNat r) else []
theorem uptoS_good {regs : Int} {f : Fo} (g : Good regs f) {r : List UInt64} (hn : (r.length : Int) ≤ regs) (m : Int) : uptoS regs f.flat r m = runR (uptoL f.unroll m) (startR regs.toNat r) := by
  unfold uptoS
  rw [if_pos (dims_of_good g hn), unrS_good g]
theorem uptoS_bad {regs : Int} {l : List OpD} {r : List UInt64} (h : dimsS regs l r.length ≠ 0) (m : Int) : uptoS regs l r m = [] := by unfold uptoS; rw [if_neg h]

theorem tyU0 : TyZ Tryz.prog 46 50 (0 : UInt64) (.int .u64 0) := TyZ.of (bytes := 8) Tryz.underlying46 (by kernel_rfl) (by decide) rfl rfl
theorem enc_map (l : List UInt64) : l.flatMap Flat.enc = l.map fun x => Value.int .u64 (x.toNat : Int) := by
  induction l with
  | nil => rfl
  | cons x r ih => rw [List.flatMap_cons, ih]; rfl
theorem wpList_copyIn {P : Program} {w : World} {ops : Array Oper} {rest : List Oper} {o : Oper} {act : Act} {Q : Exit → Act → World → Prop} {T E : TypeId} (hu : P.underlying T = some (.slice E)) (hsz : (P.info? E).map (·.size) = some 1)
    {d s : Operand} (hgd : o.guard = none) (ho : o.op = .call { callee := .builtin .copy, args := #[d, s], argTypes := #[T, T] }) {B g dLen dCap sLen sCap : Nat} {sp : Option Addr} {l l2 : List UInt64}
    (hd : act.eval d = .slice (some ⟨g, 0, none⟩) dLen dCap) (hs : act.eval s = .slice sp sLen sCap) (hdl : dLen = l.length) (hsl : sLen = l2.length) (hle : l2.length ≤ l.length) (own : Own w B E (some ⟨g, 0, none⟩) dCap l) (src : At w sp l2)
    (h : ∀ w', Own w' B E (some ⟨g, 0, none⟩) dCap (l2 ++ l.drop l2.length) → w.grownBy w' (some g) → wpList P ops Q rest (act.put o.dst (goInt l2.length)) w') : wpList P ops Q (o :: rest) act w := by
  subst hdl hsl
  by_cases h0 : l2 = []
  · subst h0
    refine wpList_copy_nothing hgd d s T T ho E hu hsz _ _ _ _ _ _ hd hs (by simp) ?_
    exact h w (by simpa using own) (grown_drewN w 0 _)
  · obtain ⟨b, off, hsp, hlt⟩ := src.lt h0
    subst hsp
    rcases own.2 with ⟨hv, _⟩ | ⟨g', cap, cur, hv, hB, hg, hc1, hc2, hc3, hc4⟩
    · injection hv with h1 _ _; cases h1
    injection hv with e1 e2 e3
    subst e3
    injection e1 with e1
    injection e1 with e1 _ _
    subst e1
    rw [enc_map] at hc4
    have hn1 : Flat.n UInt64 = 1 := rfl
    rw [hn1, Nat.mul_one] at hc3 hc4
    have hcl : (l2.map fun x => Value.int .u64 (x.toNat : Int)).length = l2.length := by simp
    refine wpList_copy_own hgd d s T T ho E hu hsz g 0 _ _ ⟨b, off, none⟩ _ _ hd hs cur E hg (l2.map fun x => Value.int .u64 (x.toNat : Int)) (by rw [hcl]; exact (Nat.min_eq_left hle).symm) ?_ (by rw [hcl]; omega) (by intro v hv; obtain ⟨x, _, rfl⟩ := List.mem_map.1 hv; rfl) ?_
    · intro j v hv
      rw [List.getElem?_map] at hv
      cases hx : l2[j]? with
      | none => rw [hx] at hv; cases hv
      | some x =>
        rw [hx] at hv
        injection hv with hv
        obtain ⟨b', off', e, h2⟩ := src j x hx
        injection e with e
        injection e with e1 e2 _
        subst e1 e2
        have := h2 0 _ rfl
        rw [addr_add, ← hv]
        simpa [hn1] using this
    · rw [hcl]
      refine h _ ⟨enc_length _, .inr ⟨g, dCap, _, ?_, hB, setRow_heap w g _ _ _ _ hg, ?_, hc2, ?_, ?_⟩⟩ ⟨rfl, rfl, rfl, by simp [World.setRow], fun k hk hne => setRow_other w g k _ (fun e => hne (by rw [e]))⟩
      · rw [List.length_append, List.length_drop]
      · rw [List.length_append, List.length_drop]; omega
      · simp [hn1, hc3]; omega
      · rw [enc_map, hn1, Nat.mul_one, List.length_append, List.length_drop]
        have e1 : l2.length + (l.length - l2.length) = l.length := by omega
        rw [e1, List.toList_toArray, List.take_zero, List.nil_append, Nat.zero_add, List.map_append, List.map_drop, ← hc4, List.take_append, hcl, List.take_of_length_le (by rw [hcl]; omega), List.drop_take]

set_option maxHeartbeats 800000 in
theorem begin_bad (regs : Int) (a : Option Addr) (c : Nat) (l : List OpD) (ra : Option Addr) (rc : Nat) (r : List UInt64) (w : World) (h : At w a l) (hl : l.length ≤ 1000000) (hc : checkS regs l ≠ 0) :
    Calls Tryz.prog 66 #[.agg #[.int .i64 regs, .slice a l.length c], .slice ra r.length rc] w fun e w' => e = .returned (.tuple #[.slice none 0 0, .slice none 0 0, .int .i64 (checkS regs l)]) ∧ Below w.heap.size w w' := by
  have h1 := h.belowN (below_new12 w (.cells #[.int .i64 regs, .slice a l.length c] 24))
  have hb0 := below_new12 w (.cells #[.int .i64 regs, .slice a l.length c] 24)
  have HP := hide (Code_calls regs a c l _ h1 hl)
  obtain ⟨E, hE⟩ : ∃ E, E = checkS regs l := ⟨_, rfl⟩
  unfold CodePost at HP
  rw [← hE] at HP hc ⊢
  have e1 : (E == 0) = false := by simpa using hc
  have e2 : (E != 0) = true := by simpa using hc
  clear hE hc
  go_enter Tryz.func66, Tryz.ntmps66
  go_wp2_with (go_at_call 47; ((with_reducible refine (HP.out).mono ?_); rintro e w1 ⟨a1, c1, rfl, hown1, hb1⟩))
  go_ret3
  exact ⟨rfl, hb0.trans (hb1.mono hb0.size)⟩
set_option maxHeartbeats 800000 in
theorem begin_dims (regs : Int) (a : Option Addr) (c : Nat) (f : Fo) (g : Good regs f) (ra : Option Addr) (rc : Nat) (r : List UInt64) (w : World) (h : At w a f.flat) (hn : regs < (r.length : Int)) :
    Calls Tryz.prog 66 #[.agg #[.int .i64 regs, .slice a f.flat.length c], .slice ra r.length rc] w fun e w' => e = .returned (.tuple #[.slice none 0 0, .slice none 0 0, .int .i64 10]) ∧ Below w.heap.size w w' := by
  have hl : f.flat.length ≤ 4096 := g.len
  have h1 := h.belowN (below_new12 w (.cells #[.int .i64 regs, .slice a f.flat.length c] 24))
  have hb0 := below_new12 w (.cells #[.int .i64 regs, .slice a f.flat.length c] 24)
  have HP := hide (Code_calls regs a c f.flat _ h1 (by omega))
  unfold CodePost at HP
  rw [g.check, codeS_good g] at HP
  clear g
  go_enter Tryz.func66, Tryz.ntmps66
  go_wp2_with (go_at_call 47; ((with_reducible refine (HP.out).mono ?_); rintro e w1 ⟨a1, c1, rfl, hown1, hb1⟩; have hbx := (Blk.new w 24 #[.int .i64 regs, .slice a f.flat.length c]).belowN hb1; obtain ⟨p0, p1, p2, p3⟩ := hbx.c2))
  go_ret3
  exact ⟨rfl, hb0.trans (hb1.mono hb0.size)⟩
def BegPost (regs : Int) (f : Fo) (r : List UInt64) (w : World) (e : Ending) (w' : World) : Prop :=
  ∃ ac cc gr cr, e = .returned (.tuple #[.slice ac (f.bare.code 0).length cc, .slice (some ⟨gr, 0, none⟩) (startR regs.toNat r).length cr, .int .i64 0]) ∧ Own w' w.heap.size 176 ac cc (f.bare.code 0) ∧ Own w' w.heap.size 50 (some ⟨gr, 0, none⟩) cr (startR regs.toNat r) ∧ ac.map (·.block) ≠ some gr ∧ Below w.heap.size w w'
set_option maxRecDepth 100000 in
set_option maxHeartbeats 1600000 in
theorem begin_good (regs : Int) (a : Option Addr) (c : Nat) (f : Fo) (g : Good regs f) (ra : Option Addr) (rc : Nat) (r : List UInt64) (w : World) (h : At w a f.flat) (hr : At w ra r) (hn : (r.length : Int) ≤ regs) :
    Calls Tryz.prog 66 #[.agg #[.int .i64 regs, .slice a f.flat.length c], .slice ra r.length rc] w (BegPost regs f r w) := by
  have hl : f.flat.length ≤ 4096 := g.len
  obtain ⟨nr, rfl⟩ : ∃ nr : Nat, regs = nr := ⟨regs.toNat, by have := g.r1; omega⟩
  have hr64 : nr ≤ 64 := by have := g.r2; omega
  have h1 := h.belowN (below_new12 w (.cells #[.int .i64 nr, .slice a f.flat.length c] 24))
  have hr1 := hr.belowN (below_new12 w (.cells #[.int .i64 nr, .slice a f.flat.length c] 24))
  have hb0 := below_new12 w (.cells #[.int .i64 nr, .slice a f.flat.length c] 24)
  have HP := hide (Code_calls nr a c f.flat _ h1 (by omega))
  have hrl : r.length ≤ nr := by omega
  have hnn : ¬ nr < r.length := by omega
  have HSL := hide (startR_length nr r hrl)
  unfold CodePost at HP
  rw [g.check, codeS_good g] at HP
  clear g
  go_enter Tryz.func66, Tryz.ntmps66
  go_wp2_with (first
    | (go_at_call 47; ((with_reducible refine (HP.out).mono ?_); rintro e w1 ⟨a1, c1, rfl, hown1, hb1⟩; have hbx := (Blk.new w 24 #[.int .i64 nr, .slice a f.flat.length c]).belowN hb1; obtain ⟨p0, p1, p2, p3⟩ := hbx.c2))
    | (at_make; refine wpList_mk tyU0 (B := w.heap.size) (n := nr) rfl rfl rfl rfl rfl rfl (by have := hb1.size; simp at this; omega) (by omega) ?_; intro w2 hown2 hg2)
    | (refine wpList_copyIn Tryz.underlying46 (by kernel_rfl) rfl rfl rfl rfl (by simp) rfl (by simpa using hrl) hown2 ((hr1.belowN hb1).grown hg2 (fun _ => .inr rfl)) ?_; intro w3 hown3 hg3))
  go_ret3
  have hs1 := hb1.size
  simp only [World.size_alloc] at hs1
  unfold BegPost
  have hst : startR nr r = r ++ (List.replicate nr (0 : UInt64)).drop r.length := by unfold startR; rw [List.drop_replicate]
  refine ⟨a1, c1, w1.heap.size, nr, ?_, ((hown1.mono (by simp)).belowN (below_of_grown hg2)).grown hg3 ?_, ?_, ?_, ?_⟩
  · rw [Int.toNat_natCast, HSL.out]; rfl
  · refine .inr fun e => ?_
    have := (hown1.blk _ e).2
    omega
  · rw [Int.toNat_natCast, hst]; exact hown3
  · intro e
    have := (hown1.blk _ e).2
    omega
  · exact Below.grown (Below.grown (hb0.trans (hb1.mono hb0.size)) hg2 (by omega) (fun k hk => by cases hk)) hg3 (by have := hg2.size; omega) (fun k hk => by injection hk with hk; omega)
theorem begin_err (regs : Int) (a : Option Addr) (c : Nat) (l : List OpD) (ra : Option Addr) (rc : Nat) (r : List UInt64) (w : World) (h : At w a l) (hl : l.length ≤ 1000000) (hc : dimsS regs l r.length ≠ 0) :
    Calls Tryz.prog 66 #[.agg #[.int .i64 regs, .slice a l.length c], .slice ra r.length rc] w fun e w' => e = .returned (.tuple #[.slice none 0 0, .slice none 0 0, .int .i64 (dimsS regs l r.length)]) ∧ Below w.heap.size w w' := by
  by_cases h0 : checkS regs l = 0
  · obtain ⟨f, rfl, g⟩ := good_of_check h0
    have hn : regs < (r.length : Int) := by
      rcases Int.lt_or_le regs r.length with h1 | h1
      · exact h1
      · exact absurd (dims_of_good g h1) hc
    have e : dimsS regs f.flat r.length = 10 := by unfold dimsS; rw [if_neg (by simpa using h0), if_pos hn]
    rw [e]
    exact begin_dims regs a c f g ra rc r w h hn
  · have e : dimsS regs l r.length = checkS regs l := by unfold dimsS; rw [if_pos h0]
    rw [e]
    exact begin_bad regs a c l ra rc r w h hl h0
end Go.Proofs.YtcamcnahkdiefaaGreat

/- Chapter 13: Run, Upto, Last. -/
namespace Go.Proofs.YtcamcnahkdiefaaGreat
set_option linter.unusedVariables false
set_option linter.unusedSimpArgs false
open Go.RowKit

def RunPost (regs : Int) (l : List OpD) (r : List UInt64) (m : Int) (w : World) (e : Ending) (w' : World) : Prop :=
  ∃ a c, e = .returned (.tuple #[.slice a (uptoS regs l r m).length c, .int .i64 (dimsS regs l r.length)]) ∧ Own w' w.heap.size 50 a c (uptoS regs l r m) ∧ Below w.heap.size w w'
theorem below_turned {F : List Nat} {w w1 w' : World} {B : Nat} (hb : Below B w w1) (hT : Turned F w1 w') (hF : ∀ b ∈ F, B ≤ b) (hB : B ≤ w1.heap.size) : Below B w w' :=
  hb.trans ⟨hT.os, hT.tape, hT.output, hT.size, fun k hk => hT.block k (by omega) (fun hm => by have := hF k hm; omega)⟩

theorem Run1_calls (i : Nat) (x : OpD) (w : World) : Calls Tryz.prog 68 #[.int .i64 (i : Int), .agg #[.int .i64 x.kind, .int .i64 x.d, .int .i64 x.a, .int .i64 x.b, .int .u64 (x.v.toNat : Int)]] w fun e w' => e = .returned (.tuple #[]) ∧ True ∧ Turned [] w w' := by
  go_enter Tryz.func68, Tryz.ntmps68
  go_wp2
  go_end0
  exact ⟨rfl, trivial, Turned.ofBelow (below_new12 _ _)⟩
set_option maxRecDepth 100000 in
set_option maxHeartbeats 1600000 in
theorem Run_calls (regs : Int) (a : Option Addr) (c : Nat) (l : List OpD) (ra : Option Addr) (rc : Nat) (r : List UInt64) (w : World) (h : At w a l) (hl : l.length ≤ 1000000) (hr : At w ra r) :
    Calls Tryz.prog 32 #[.agg #[.int .i64 regs, .slice a l.length c], .slice ra r.length rc] w (RunPost regs l r (-1) w) := by
  have hb0 := below_new12 w (.cells #[.int .i64 regs, .slice a l.length c] 24)
  have h1 := h.belowN hb0
  have hr1 := hr.belowN hb0
  by_cases hc : dimsS regs l r.length = 0
  · obtain ⟨f, rfl, g, hn⟩ := dims_good hc
    have HU := hide (uptoS_good g hn (-1))
    have HC := hide hc
    have HSL := hide (show ((startR regs.toNat r).length : Int) = regs by rw [startR_length _ _ (by omega)]; have := g.r1; omega)
    have HB := hide (begin_good regs a c f g ra rc r _ h1 hr1 hn)
    have HX := hide fun ac cc gr cr B w2 hc2 hcb hr2 hrl => execRun_calls (fun _ _ => True) [] regs f g ac cc gr cr B (-1) (startR regs.toNat r) w2 hc2 hcb hr2 hrl trivial (fun _ _ _ _ _ _ => trivial) (fun b hb => by cases hb) (fun i x W _ _ => Run1_calls i x W)
    unfold BegPost at HB
    clear hc
    go_enter Tryz.func32, Tryz.ntmps32
    go_wp2_with (first
      | (go_at_call 66; ((with_reducible refine (HB.out).mono ?_); rintro e w1 ⟨a1, c1, g1, cr1, rfl, hown1, hown2, hne1, hb1⟩))
      | (go_at_call 67; go_must ((with_reducible refine (HX.out _ _ _ _ _ _ hown1.at_ (fun _ q hq => ⟨fun e => absurd (by rw [hq, e]) hne1, by simp⟩) hown2 HSL.out).mono ?_); rintro e w2 ⟨rfl, hown3, _, hT⟩)))
    go_ret2
    have hs1 := hb1.size
    simp only [World.size_alloc] at hs1
    unfold RunPost
    rw [HU.out, HC.out]
    refine ⟨some ⟨g1, 0, none⟩, cr1, ?_, hown3.mono (by simp), below_turned (hb0.trans (hb1.mono hb0.size)) hT (fun b hb => by simp at hb; subst hb; have := (hown2.blk _ rfl).1; simp at this; omega) (by omega)⟩
    rw [runR_length]; rfl
  · have HU := hide (uptoS_bad hc (-1))
    have HB := hide (begin_err regs a c l ra rc r _ h1 hl hc)
    obtain ⟨E, hE⟩ : ∃ E, E = dimsS regs l r.length := ⟨_, rfl⟩
    unfold RunPost
    rw [← hE] at HB hc ⊢
    have e1 : (E == 0) = false := by simpa using hc
    have e2 : (E != 0) = true := by simpa using hc
    clear hE hc
    go_enter Tryz.func32, Tryz.ntmps32
    go_wp2_with (go_at_call 66; ((with_reducible refine (HB.out).mono ?_); rintro e w1 ⟨rfl, hb1⟩))
    go_ret2
    rw [HU.out]
    exact ⟨none, 0, rfl, Own.none _ _ _, hb0.trans (hb1.mono hb0.size)⟩
end Go.Proofs.YtcamcnahkdiefaaGreat

/- Chapter 13: Last. -/
namespace Go.Proofs.YtcamcnahkdiefaaGreat
set_option linter.unusedVariables false
set_option linter.unusedSimpArgs false
open Go.RowKit

end Go.Proofs.YtcamcnahkdiefaaGreat

/- Several texts of mine in one file: R12a, R12b, Ur. -/
/- Chapter 12, the document's answers: bare operations, Code. -/
namespace Go.Proofs.YtcamcnahkdiefaaGreat
set_option linter.unusedVariables false
set_option linter.unusedSimpArgs false
open Go.RowKit

/-! ### Code -/
end Go.Proofs.YtcamcnahkdiefaaGreat

/- Chapter 12, the document's answers: Laid, Unroll, Steps. -/
namespace Go.Proofs.YtcamcnahkdiefaaGreat
set_option linter.unusedVariables false
set_option linter.unusedSimpArgs false
open Go.RowKit

section
variable {a am : Option Addr} {c cm : Nat} {l : List OpD} {m : List Int}
end

theorem Good.unroll_le {regs : Int} {f : Fo} (g : Good regs f) : f.unroll.length ≤ 65536 := by rw [Fo.unroll_length]; exact g.few

end Go.Proofs.YtcamcnahkdiefaaGreat

/- Contracts of chapter 12 with their results named; how long they are. -/
namespace Go.Proofs.YtcamcnahkdiefaaGreat
set_option linter.unusedVariables false
set_option linter.unusedSimpArgs false
open Go.RowKit

theorem good_of_lit {regs : Int} {f : Fo} (hf : f.ok) (h : checkS regs f.flat = 0) : Good regs f := by
  obtain ⟨f', e, g⟩ := good_of_check h
  have := Fo.flat_eq hf g.ok e
  subst this
  exact g

theorem UnrollR (regs : Int) (a : Option Addr) (c : Nat) (l : List OpD) (w : World) (R : List OpD) (E : Int) (hR : unrS regs l = R) (hE : checkS regs l = E) (h : At w a l) (hl : l.length ≤ 1000000) :
    Calls Tryz.prog 17 #[.agg #[.int .i64 regs, .slice a l.length c]] w fun e w' => ∃ a' c', e = .returned (.tuple #[.slice a' R.length c', .int .i64 E]) ∧ Own w' w.heap.size 89 a' c' R ∧ Below w.heap.size w w' := by
  subst hR hE; exact Unroll_calls regs a c l w h hl
end Go.Proofs.YtcamcnahkdiefaaGreat
