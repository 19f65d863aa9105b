/- Several texts of mine in one file: Cd, F12a, F12b, F12c. -/
import Derived.Test.YtmmepffdjmpblaaGreatQf
import Derived.Test.YtmmepffdjmpblaaGreatQg
import Derived.Deep.LoopGhost
import Derived.Test.YtmmepffdjmpblaaGreatQb
/- Plain facts on how code is laid, operation by operation. No program is named here. -/
namespace Go.Proofs.YtmmepffdjmpblaaGreat
set_option linter.unusedVariables false
set_option linter.unusedSimpArgs false
open Go.RowKit

instance : Flat (OpD × Int) := ⟨6, fun x => [.int .i64 x.1.kind, .int .i64 x.1.d, .int .i64 x.1.a, .int .i64 x.1.b, .int .u64 (x.1.v.toNat : Int), .int .i64 x.2], fun _ => rfl,
  fun x u hu => by simp at hu; rcases hu with rfl | rfl | rfl | rfl | rfl | rfl <;> rfl, by decide⟩

/-- an open block: where its code begins, what follows it -/
structure Cf where
  bg : Nat
  op : OpD
  fin : OpD
  r : Fo
def opn (st : List Cf) : List Int := (st.map fun x => (x.bg : Int)).reverse
def CdK (l : List OpD) (m : List Int) (R : List (OpD × Int)) : Nat → List (OpD × Int) → List Cf → Prop
  | j, X, [] => j = l.length ∧ R = X
  | j, X, s :: st => l[j]? = some s.fin ∧ s.fin.kind = 0 ∧ X[s.bg]? = some (s.op, 0) ∧ Stands l m (j + 1) s.r ∧
      CdK l m R (j + 1 + s.r.size) (X.set s.bg (s.op, ((X.length + 1 : Nat) : Int)) ++ (s.fin, ((s.bg + 1 : Nat) : Int)) :: s.r.bare.code (X.length + 1)) st
/-- How far code is laid: what is to come at place `i` is `g`, then what the open blocks tell. -/
def CdOk (l : List OpD) (m : List Int) (R : List (OpD × Int)) (i : Nat) (out : List (OpD × Int)) (g : Fo) (st : List Cf) : Prop :=
  Stands l m i g ∧ CdK l m R (i + g.size) (out ++ g.bare.code out.length) st
section
variable {l : List OpD} {m : List Int} {R out : List (OpD × Int)} {i : Nat} {st : List Cf}
theorem CdOk.start {f : Fo} (hf : f.ok) : CdOk f.flat (matchL f.flat) (f.bare.code 0) 0 [] f [] :=
  ⟨Stands.whole hf, by simp [Fo.size], by simp⟩
theorem CdOk.done (h : CdOk l m R i out .nil []) : i = l.length ∧ R = out := by
  obtain ⟨_, h1, h2⟩ := h
  exact ⟨by simpa [Fo.size, Fo.flat] using h1, by simpa [Fo.bare, Fo.code] using h2⟩
theorem CdOk.leaf {op : OpD} {r : Fo} (h : CdOk l m R i out (.leaf op r) st) : l[i]? = some op ∧ 1 ≤ op.kind ∧ op.kind ≤ 6 ∧ CdOk l m R (i + 1) (out ++ [(op, 0)]) r st := by
  obtain ⟨hs, hk⟩ := h
  obtain ⟨e1, k1, k2, e2, hr⟩ := hs.leaf
  refine ⟨e1, k1, k2, hr, ?_⟩
  have e : i + 1 + r.size = i + (Fo.leaf op r).size := by rw [Fo.size_leaf]; omega
  rw [e]
  simpa [Fo.bare, Fo.code] using hk
theorem CdOk.skip {op fin : OpD} {b r : Fo} (h : CdOk l m R i out (.rep op b fin r) st) (h0 : b.wr * op.v.toNat = 0) : CdOk l m R (i + b.size + 2) out r st := by
  obtain ⟨hs, hk⟩ := h
  refine ⟨hs.rep.2.2.2.2.2.2.2, ?_⟩
  have e : i + b.size + 2 + r.size = i + (Fo.rep op b fin r).size := by rw [Fo.size_rep]; omega
  have e2 : (Fo.rep op b fin r).bare = r.bare := by rw [Fo.bare, if_pos h0]
  rw [e]
  rwa [e2] at hk
theorem CdOk.open_ {op fin : OpD} {b r : Fo} (h : CdOk l m R i out (.rep op b fin r) st) (h0 : b.wr * op.v.toNat ≠ 0) : CdOk l m R (i + 1) (out ++ [(op, 0)]) b (⟨out.length, op, fin, r⟩ :: st) := by
  obtain ⟨hs, hk⟩ := h
  obtain ⟨e1, k7, e3, e4, k0, e6, hb, hr⟩ := hs.rep
  have e2 : (Fo.rep op b fin r).bare = .rep op b.bare fin r.bare := by rw [Fo.bare, if_neg h0]
  rw [e2] at hk
  have hlen : (out ++ [(op, (0 : Int))]).length = out.length + 1 := by simp
  refine ⟨hb, by rw [show i + 1 + b.size = i + b.size + 1 by omega]; exact e4, k0, ?_, by rw [show i + 1 + b.size + 1 = i + b.size + 2 by omega]; exact hr, ?_⟩
  · simp
  · have e : i + 1 + b.size + 1 + r.size = i + (Fo.rep op b fin r).size := by rw [Fo.size_rep]; omega
    simp only
    rw [e]
    have hx : (out ++ [(op, (0 : Int))] ++ b.bare.code (out.length + 1)).length = out.length + 1 + b.bare.size := by simp [Fo.code_length]; omega
    rw [hlen, hx]
    have hset : (out ++ [(op, (0 : Int))] ++ b.bare.code (out.length + 1)).set out.length (op, ((out.length + 1 + b.bare.size + 1 : Nat) : Int)) = out ++ (op, ((out.length + 1 + b.bare.size + 1 : Nat) : Int)) :: b.bare.code (out.length + 1) := by simp
    rw [hset]
    have e5 : out.length + 1 + b.bare.size + 1 = out.length + b.bare.size + 2 := by omega
    rw [e5]
    simpa [Fo.code] using hk
theorem CdOk.end_ {s : Cf} (h : CdOk l m R i out .nil (s :: st)) : l[i]? = some s.fin ∧ s.fin.kind = 0 ∧ out[s.bg]? = some (s.op, 0) ∧ CdOk l m R (i + 1) (out.set s.bg (s.op, ((out.length + 1 : Nat) : Int)) ++ [(s.fin, ((s.bg + 1 : Nat) : Int))]) s.r st := by
  obtain ⟨hs, h1, h2, h3, h4, h5⟩ := h
  simp only [Fo.size, Fo.flat, Fo.bare, Fo.code, List.length_nil, Nat.add_zero, List.append_nil] at h1 h3 h4 h5
  refine ⟨h1, h2, h3, h4, ?_⟩
  have e : (out.set s.bg (s.op, ((out.length + 1 : Nat) : Int)) ++ [(s.fin, ((s.bg + 1 : Nat) : Int))]).length = out.length + 1 := by simp
  rw [e]
  simpa [Fo.size] using h5
theorem CdOk.last {g : Fo} (h : CdOk l m R i out g st) : i ≤ l.length ∧ (i = l.length → g = .nil ∧ st = []) := by
  have hl := h.1.lt.1
  refine ⟨by omega, fun e => ?_⟩
  cases g with
  | leaf op r => rw [Fo.size_leaf] at hl; omega
  | rep op b fin r => rw [Fo.size_rep] at hl; omega
  | nil =>
    refine ⟨rfl, ?_⟩
    cases st with
    | nil => rfl
    | cons s st => have := (List.getElem?_eq_some_iff.1 h.end_.1).1; omega
end
theorem opn_cons (s : Cf) (st : List Cf) : opn (s :: st) = opn st ++ [(s.bg : Int)] := by simp [opn]
theorem opn_length (st : List Cf) : (opn st).length = st.length := by simp [opn]
end Go.Proofs.YtmmepffdjmpblaaGreat

/- Chapter 12: Code. -/
namespace Go.Proofs.YtmmepffdjmpblaaGreat
set_option linter.unusedVariables false
set_option linter.unusedSimpArgs false
open Go.RowKit

theorem below_new12 (w : World) (o : Obj) : Below w.heap.size w (w.alloc o) := Below.alloc (Below.refl _ _) (Nat.le_refl _) _
theorem tyIns : Ty Tryz.prog 90 117 (OpD × Int) := Ty.of (z := .agg #[.int .i64 0, .int .i64 0, .int .i64 0, .int .i64 0, .int .u64 0, .int .i64 0]) (size := 6) (bytes := 48) Tryz.underlying90 (by kernel_rfl) rfl (by decide) rfl
theorem Own.far_E {α β : Type} [Flat α] [Flat β] {w : World} {B B' : Nat} {E E' : TypeId} {a a' : Option Addr} {c c' : Nat} {l : List α} {l' : List β} (h : Own w B E a c l) (h' : Own w B' E' a' c' l') (hE : E ≠ E') : a.map (·.block) = Option.none ∨ a.map (·.block) ≠ a'.map (·.block) := by
  rcases h.form with ⟨rfl, _⟩ | ⟨g, rfl, _⟩
  · exact .inl rfl
  · rcases h'.form with ⟨rfl, _⟩ | ⟨g', rfl, _⟩
    · exact .inr (by simp)
    · exact .inr (by have := h.ne_E h' hE; simpa using this)
theorem sizes_at {f : Fo} (hf : f.ok) {i : Nat} {op fin : OpD} {b r : Fo} (h : Stands f.flat (matchL f.flat) i (.rep op b fin r)) : f.sizes[i]? = some ((b.wr * op.v.toNat : Nat) : Int) := by
  obtain ⟨e1, k7, e3, e4, k0, e6, hb, hr⟩ := h.rep
  rcases place9 hf e1 with ⟨h7, b', fin', r', hs, g1, g2, g3⟩ | ⟨h0, _⟩ | ⟨h1, h2, _⟩
  · obtain ⟨_, rfl⟩ := h.one hs
    exact g1
  · omega
  · omega
/-- the code that is told of a program; none: an error -/
noncomputable def codeS (regs : Int) (l : List OpD) : List (OpD × Int) := if checkS regs l = 0 then (fo l).bare.code 0 else []
theorem codeS_good {regs : Int} {f : Fo} (g : Good regs f) : codeS regs f.flat = f.bare.code 0 := by unfold codeS; rw [if_pos g.check, fo_flat g.ok]
theorem codeS_bad {regs : Int} {l : List OpD} (h : checkS regs l ≠ 0) : codeS regs l = [] := by unfold codeS; rw [if_neg h]
def CodePost (regs : Int) (l : List OpD) (w : World) (e : Ending) (w' : World) : Prop :=
  ∃ a c, e = .returned (.tuple #[.slice a (codeS regs l).length c, .int .i64 (checkS regs l)]) ∧ Own w' w.heap.size 117 a c (codeS regs l) ∧ Below w.heap.size w w'
theorem cd_bad (regs : Int) (a : Option Addr) (c : Nat) (l : List OpD) (w : World) (h : At w a l) (hl : l.length ≤ 1000000) (hc : checkS regs l ≠ 0) :
    Calls Tryz.prog 41 #[.agg #[.int .i64 regs, .slice a l.length c]] w (CodePost regs l w) := by
  have h1 := h.belowN (below_new12 w (.cells #[.int .i64 regs, .slice a l.length c] 24))
  have hb0 := below_new12 w (.cells #[.int .i64 regs, .slice a l.length c] 24)
  have HP := hide (Prog_calls regs a c l _ h1 hl)
  have HC := hide (codeS_bad hc)
  obtain ⟨E, hE⟩ : ∃ E, E = checkS regs l := ⟨_, rfl⟩
  rw [← hE] at HP hc
  have HE := hide hE
  have e1 : (E == 0) = false := by simpa using hc
  have e2 : (E != 0) = true := by simpa using hc
  clear hE hc
  go_enter Tryz.func41, Tryz.ntmps41
  go_wp2_with (go_at_call 58; ((with_reducible refine (HP.out).mono ?_); rintro e w1 ⟨rfl, hb1⟩))
  go_ret2
  unfold CodePost
  rw [HC.out, ← HE.out]
  exact ⟨none, 0, rfl, Own.none _ _ _, hb0.trans (hb1.mono hb0.size)⟩
theorem getOp_eq {w wr : World} {a : Option Addr} {l : List OpD} (h : At w a l) (hb : Below w.heap.size w wr) {k : Nat} {x : OpD} (hk : l[k]? = some x) :
    ∃ b off, a = some ⟨b, off, none⟩ ∧ wr.cell? ⟨b, off + k * 5, none⟩ = some (.int .i64 x.kind) ∧ wr.cell? ⟨b, off + k * 5 + 1, none⟩ = some (.int .i64 x.d) ∧
      wr.cell? ⟨b, off + k * 5 + 2, none⟩ = some (.int .i64 x.a) ∧ wr.cell? ⟨b, off + k * 5 + 3, none⟩ = some (.int .i64 x.b) ∧ wr.cell? ⟨b, off + k * 5 + 4, none⟩ = some (.int .u64 (x.v.toNat : Int)) := by
  obtain ⟨b, off, y, e, hy, h0⟩ := h.getOp hb (List.getElem?_eq_some_iff.1 hk).1
  obtain rfl : x = y := by have := hk.symm.trans hy.out; simpa using this
  exact ⟨b, off, e, h0⟩
theorem getI_eq {w wr : World} {a : Option Addr} {l : List Int} (h : At w a l) (hb : Below w.heap.size w wr) {k : Nat} {x : Int} (hk : l[k]? = some x) :
    ∃ b off, a = some ⟨b, off, none⟩ ∧ wr.cell? ⟨b, off + k, none⟩ = some (.int .i64 x) := by
  obtain ⟨b, off, y, e, hy, h0⟩ := h.getI hb (List.getElem?_eq_some_iff.1 hk).1
  obtain rfl : x = y := by have := hk.symm.trans hy.out; simpa using this
  exact ⟨b, off, e, h0⟩

set_option maxRecDepth 100000 in
set_option maxHeartbeats 6400000 in
theorem cd_good (regs : Int) (a : Option Addr) (c : Nat) (f : Fo) (w : World) (h : At w a f.flat) (g : Good regs f) :
    Calls Tryz.prog 41 #[.agg #[.int .i64 regs, .slice a f.flat.length c]] w (CodePost regs f.flat w) := by
  have hl : f.flat.length ≤ 4096 := g.len
  have h1 := h.belowN (below_new12 w (.cells #[.int .i64 regs, .slice a f.flat.length c] 24))
  have hb0 := below_new12 w (.cells #[.int .i64 regs, .slice a f.flat.length c] 24)
  have hX := Blk.new w 24 #[.int .i64 regs, .slice a f.flat.length c]
  have HP := hide (Prog_calls regs a c f.flat _ h1 (by omega))
  have HM := hide (fun w' (g1 : At w' a f.flat) => MatchW a c f.flat w' g1 (by omega) (well_of_flat f g.ok))
  have HZ := hide (fun w' (g1 : At w' a f.flat) => SizeZ_calls a c f.flat w' g1 (by omega))
  obtain ⟨z1, z2, z3, z4⟩ := W9_ok g.ok ⟨g.may, g.few⟩
  rw [z1, z3, f.sizes_length] at HZ
  have HC := hide (codeS_good g)
  have HK := hide g.check
  have HG := hide g
  rw [g.check] at HP
  change Hid (∀ w', At w' a f.flat → Calls Tryz.prog 60 #[.slice a f.flat.length c] w' fun e w'' => ∃ a' c', e = .returned (.tuple #[.slice a' f.flat.length c', .int .i64 0]) ∧ Own w'' w'.heap.size 3 a' c' f.sizes ∧ Below w'.heap.size w' w'') at HZ
  clear z1 z2 z3 z4 g
  go_enter Tryz.func41, Tryz.ntmps41
  go_wp2_with (first
    | (go_at_call 58; ((with_reducible refine (HP.out).mono ?_); rintro e w1 ⟨rfl, hb1⟩; have hB1 := hb0.trans (hb1.mono hb0.size); obtain ⟨q0, q1, q2, q3⟩ := (hX.belowN hb1).c2))
    | (go_at_call 59; ((with_reducible refine (HM.out _ (h.belowN hB1)).mono ?_); rintro e w2 ⟨am, cm, rfl, hom, hb2⟩; have hB2 := hB1.trans (hb2.mono hB1.size); obtain ⟨q0', q1', q2', q3'⟩ := ((hX.belowN hb1).belowN hb2).c2))
    | (go_at_call 60; ((with_reducible refine (HZ.out _ (h.belowN hB2)).mono ?_); rintro e w3 ⟨az, cz, rfl, hoz, hb3⟩; have hB3 := hB2.trans (hb3.mono hB2.size); have hX3 := ((hX.belowN hb1).belowN hb2).belowN hb3)))
  have hm3 : At w3 am (matchL f.flat) := (hom.belowN hb3).at_
  have hz3 : At w3 az f.sizes := hoz.at_
  have hl3 : At w3 a f.flat := h.belowN hB3
  have hs3 := hB3.size
  have hxl := hX3.lt
  clear hom hoz hb1 hb2 hb3 hB1 hB2 q0 q1 q2 q3 q0' q1' q2' q3' h1 hX HP HM HZ
  go_loopw [9, 10, 11] (fun ov sv iv wr => ∃ (i : Nat) (ao as' : Option Addr) (co cs n s : Nat) (out : List (OpD × Int)) (gf : Fo) (st : List Cf), iv = .int .i64 i ∧ i ≤ f.flat.length ∧ ov = .slice ao n co ∧ sv = .slice as' s cs ∧ Hid (n = out.length) ∧ Hid (s = st.length) ∧ n ≤ i ∧ s ≤ i ∧
      Hid (CdOk f.flat (matchL f.flat) (f.bare.code 0) i out gf st) ∧ Own wr w3.heap.size 117 ao co out ∧ Own wr w3.heap.size 3 as' cs (opn st) ∧ Below w3.heap.size w3 wr) (fun _ _ iv _ => f.flat.length - (intOf iv).toNat)
  case atStart => exact ⟨0, none, none, 0, 0, 0, 0, [], f, [], rfl, by omega, rfl, rfl, rfl, rfl, by omega, by omega, hide (CdOk.start HG.out.ok), Own.none _ _ _, Own.none _ _ _, Below.refl _ _⟩
  case round =>
    obtain ⟨i, ao, as', co, cs, n, s, out, gf, st, rfl, hi, rfl, rfl, hn, hs, hni, hsi, hcd, hoo, hos, hbr⟩ := hrel
    have hzr := hbr.size
    obtain ⟨q0, q1, q2, q3⟩ := (hX3.belowN hbr).c2
    by_cases hlt : i < f.flat.length
    · cases gf with
      | nil =>
        cases st with
        | nil => exact absurd (hcd.out.done).1 (by omega)
        | cons s0 st =>
          obtain ⟨e1, ek, eo, hcd2⟩ := hcd.out.end_
          obtain ⟨b1, off1, rfl, x0, x1, x2, x3, x4⟩ := getOp_eq hl3 hbr e1
          have k7 : (s0.fin.kind == 7) = false := by simp; omega
          have k0 : (s0.fin.kind == 0) = true := by simp; omega
          have hone : out ≠ [] := by intro e; subst e; simp at eo
          have hsne : opn (s0 :: st) ≠ [] := by rw [opn_cons]; simp
          obtain ⟨go, rfl, hgo1, hgo2⟩ := hoo.some_ hone
          obtain ⟨gs, rfl, hgs1, hgs2⟩ := hos.some_ hsne
          obtain ⟨s', rfl⟩ : ∃ s', s = s' + 1 := ⟨s - 1, by have := hs.out; simp at this; omega⟩
          have hs' : s' = st.length := by have := hs.out; simp at this; omega
          have hlast : (opn (s0 :: st))[s']? = some (s0.bg : Int) := by rw [opn_cons, List.getElem?_append_right (by rw [opn_length]; omega), opn_length, hs', Nat.sub_self]; rfl
          have t0 : wr.cell? ⟨gs, s', none⟩ = some (.int .i64 (s0.bg : Int)) := by simpa [Flat.n] using hos.cellAt hlast (f := 0) rfl
          have hcap : s' + 1 ≤ cs := by have := hos.cap.1; rw [opn_length] at this; simp at this; omega
          have hbg : s0.bg < n := by rw [hn.out]; exact (List.getElem?_eq_some_iff.1 eo).1
          have tc : wr.cell? ⟨go, s0.bg * 6 + 5, none⟩ = some (.int .i64 0) := by simpa [Flat.n] using hoo.cellAt eo (f := 5) rfl
          have tf := hoo.frozen (s0.bg * 6 + 5)
          have hpop : Own wr w3.heap.size 3 (some ⟨gs, 0, none⟩) cs (opn st) := by have := hos.pop hsne; rwa [opn_cons, List.dropLast_concat] at this
          have hgn : go ≠ wr.heap.size := by omega
          have hgg : go ≠ gs := hoo.ne_E hos (by decide)
          have hnn : ((n : Int) + 1) = ((out.length + 1 : Nat) : Int) := by rw [hn.out]; rfl
          have hoo1 : Own ((wr.setCell ⟨go, s0.bg * 6 + 5, none⟩ (.int .i64 ((n : Int) + 1))).alloc (.cells #[.int .i64 s0.fin.kind, .int .i64 s0.fin.d, .int .i64 s0.fin.a, .int .i64 s0.fin.b, .int .u64 (s0.fin.v.toNat : Int)] 71)) w3.heap.size 117 (some ⟨go, 0, none⟩) co (out.set s0.bg (s0.op, ((out.length + 1 : Nat) : Int))) :=
            (hoo.setAt s0.bg 5 (s0.op, ((out.length + 1 : Nat) : Int)) (s0.op, 0) (.int .i64 ((n : Int) + 1)) eo (by decide) (by rw [hnn]; rfl)).alloc _
          have hps1 : Own ((wr.setCell ⟨go, s0.bg * 6 + 5, none⟩ (.int .i64 ((n : Int) + 1))).alloc (.cells #[.int .i64 s0.fin.kind, .int .i64 s0.fin.d, .int .i64 s0.fin.a, .int .i64 s0.fin.b, .int .u64 (s0.fin.v.toNat : Int)] 71)) w3.heap.size 3 (some ⟨gs, 0, none⟩) cs (opn st) := (hpop.far (by simpa using hgg.symm) _).alloc _
          have hb1 := (hbr.setCell (p := ⟨go, s0.bg * 6 + 5, none⟩) hgo1 (.int .i64 ((n : Int) + 1))).alloc (by simpa using hzr) (.cells #[.int .i64 s0.fin.kind, .int .i64 s0.fin.d, .int .i64 s0.fin.a, .int .i64 s0.fin.b, .int .u64 (s0.fin.v.toNat : Int)] 71)
          have HOL : Hid (n = (out.set s0.bg (s0.op, ((out.length + 1 : Nat) : Int))).length) := by show n = _; rw [List.length_set]; exact hn.out
          have hz1 := hb1.size
          have HCD := hide hcd2
          have HS' := hide hs'
          clear e1 ek eo hcd2 hlast hone hsne hnn hs'
          go_wp2_with (at_builtin; go_loud (refine wpList_push tyIns hoo1 (s0.fin, ((s0.bg + 1 : Nat) : Int)) rfl rfl rfl rfl rfl (by simp) HOL.out hz1 (by omega) ?_); intro a4 c4 w4 hown4 hg4 hm4)
          go_roundw
          case rel =>
            refine ⟨i + 1, a4, some ⟨gs, 0, none⟩, c4, cs, n + 1, s', _, s0.r, st, by go_num, by omega, rfl, rfl, ?_, HS'.out, by omega, by omega, HCD, hown4, hps1.grown hg4 (hps1.far_E hoo1 (by decide)), below_push hb1 hoo1 hg4 hz1⟩
            show n + 1 = _
            rw [List.length_append, ← HOL.out]
            rfl
          case measure => simp [intOf]; omega
      | leaf op r =>
        obtain ⟨e1, k1, k2, hcd2⟩ := hcd.out.leaf
        obtain ⟨b1, off1, rfl, x0, x1, x2, x3, x4⟩ := getOp_eq hl3 hbr e1
        have k7 : (op.kind == 7) = false := by simp; omega
        have k0 : (op.kind == 0) = false := by simp; omega
        have hoo1 : Own (wr.alloc (.cells #[.int .i64 op.kind, .int .i64 op.d, .int .i64 op.a, .int .i64 op.b, .int .u64 (op.v.toNat : Int)] 71)) w3.heap.size 117 ao co out := hoo.alloc _
        have HCD := hide hcd2
        clear e1 k1 k2 hcd2
        go_wp2_with (at_builtin; refine wpList_push tyIns hoo1 (op, (0 : Int)) rfl rfl rfl rfl rfl (by simp) hn.out (by simp; omega) (by omega) ?_; intro a4 c4 w4 hown4 hg4 hm4)
        go_roundw
        case rel =>
          refine ⟨i + 1, a4, as', c4, cs, n + 1, s, out ++ [(op, 0)], r, st, by go_num, by omega, rfl, rfl, by show n + 1 = _; rw [hn.out]; simp, hs, by omega, by omega, HCD, hown4, (hos.alloc _).grown hg4 ((hos.alloc _).far_E hoo1 (by decide)), below_push (hbr.alloc hzr _) hoo1 hg4 (by simp; omega)⟩
        case measure => simp [intOf]; omega
      | rep op b fin r =>
        have hst := hcd.out.1
        obtain ⟨e1, k7, e3, _⟩ := hst.rep
        have es := sizes_at HG.out.ok hst
        obtain ⟨b1, off1, rfl, x0, x1, x2, x3, x4⟩ := getOp_eq hl3 hbr e1
        obtain ⟨b2, off2, rfl, y0⟩ := getI_eq hz3 hbr es
        obtain ⟨b3, off3, rfl, m0⟩ := getI_eq hm3 hbr e3
        have k7b : (op.kind == 7) = true := by simp; omega
        have hyl := World.block_lt_of_cell? _ _ y0
        have hml := World.block_lt_of_cell? _ _ m0
        have k0 : (op.kind == 0) = false := by simp; omega
        have hle := hst.lt.1
        rw [Fo.size_rep] at hle
        have hle2 : i + b.size + 1 < f.flat.length := by omega
        obtain ⟨Z, hZ⟩ : ∃ Z : Nat, Z = i + b.size + 1 := ⟨_, rfl⟩
        rw [← hZ] at m0 hle2
        have HZ := hide hZ
        have hZi : i < Z := by omega
        by_cases hq : b.wr * op.v.toNat = 0
        · have hcd2 := hcd.out.skip hq
          rw [show i + b.size + 2 = Z + 1 by omega] at hcd2
          rw [hq] at y0
          have HCD := hide hcd2
          clear e1 k7 e3 es hst hle hZ hq hcd2
          go_wp2
          go_roundw
          case rel => exact ⟨Z + 1, ao, as', co, cs, n, s, out, r, st, by go_num, by omega, rfl, rfl, hn, hs, by omega, by omega, HCD, hoo.alloc _, hos.alloc _, hbr.alloc hzr _⟩
          case measure => simp [intOf]; omega
        · have hcd2 := hcd.out.open_ hq
          obtain ⟨q, hqq⟩ : ∃ q : Nat, q = b.wr * op.v.toNat := ⟨_, rfl⟩
          rw [← hqq] at y0 hq
          have hqb : ((q : Int) == 0) = false := by simpa using hq
          have HCD := hide hcd2
          have hoo1 : Own (wr.alloc (.cells #[.int .i64 op.kind, .int .i64 op.d, .int .i64 op.a, .int .i64 op.b, .int .u64 (op.v.toNat : Int)] 71)) w3.heap.size 117 ao co out := hoo.alloc _
          have hos1 : Own (wr.alloc (.cells #[.int .i64 op.kind, .int .i64 op.d, .int .i64 op.a, .int .i64 op.b, .int .u64 (op.v.toNat : Int)] 71)) w3.heap.size 3 as' cs (opn st) := hos.alloc _
          have hX1 := Blk.new wr 71 #[.int .i64 op.kind, .int .i64 op.d, .int .i64 op.a, .int .i64 op.b, .int .u64 (op.v.toNat : Int)]
          have hb1 := hbr.alloc hzr (.cells #[.int .i64 op.kind, .int .i64 op.d, .int .i64 op.a, .int .i64 op.b, .int .u64 (op.v.toNat : Int)] 71)
          have HOL : Hid (s = (opn st).length) := by show s = _; rw [opn_length]; exact hs.out
          clear e1 k7 e3 es hst hle hZ hqq hq hcd2
          go_wp2_with (first
            | (at_builtin; refine wpList_push tyI hos1 (n : Int) rfl rfl rfl rfl rfl (by simp) HOL.out (by simp; omega) (by omega) ?_; intro a4 c4 w4 hown4 hg4 hm4; have hoo2 := hoo1.grown hg4 (hoo1.far_E hos1 (by decide)); have hX2 := hX1.grown hg4 (by intro e; have := (hos.blk _ e.symm).2; omega); obtain ⟨v0, v1, v2, v3, v4, f0, f1, f2, f3, f4⟩ := hX2.c5; have hb2 := below_push hb1 hos1 hg4 (by simp; omega); have hz4 := hb2.size; clear hoo1 hX1)
            | (at_builtin; refine wpList_push tyIns hoo2 (op, (0 : Int)) rfl rfl rfl rfl rfl rfl hn.out hz4 (by omega) ?_; intro a5 c5 w5 hown5 hg5 hm5))
          go_roundw
          case rel =>
            refine ⟨i + 1, a5, a4, c5, c4, n + 1, s + 1, out ++ [(op, 0)], b, ⟨out.length, op, fin, r⟩ :: st, by go_num, by omega, rfl, rfl, by show n + 1 = _; rw [hn.out]; simp, by show s + 1 = _; rw [hs.out]; rfl, by omega, by omega, HCD, hown5, ?_, below_push hb2 hoo2 hg5 hz4⟩
            rw [opn_cons]
            have := hown4.grown hg5 (hown4.far_E hoo2 (by decide))
            rw [hn.out] at this
            exact this
          case measure => simp [intOf]; omega
    · obtain rfl : i = f.flat.length := by omega
      obtain ⟨rfl, rfl⟩ := hcd.out.last.2 rfl
      have HD := hide (hcd.out.done.2)
      go_wp2
      go_ret2
      unfold CodePost
      rw [HC.out, HK.out, HD.out]
      exact ⟨ao, co, by rw [hn.out]; rfl, hoo.mono hs3, hB3.trans (hbr.mono hs3)⟩
theorem Code_calls (regs : Int) (a : Option Addr) (c : Nat) (l : List OpD) (w : World) (h : At w a l) (hl : l.length ≤ 1000000) :
    Calls Tryz.prog 41 #[.agg #[.int .i64 regs, .slice a l.length c]] w (CodePost regs l w) := by
  by_cases hc : checkS regs l = 0
  · obtain ⟨f, rfl, g⟩ := good_of_check hc
    exact cd_good regs a c f w h g
  · exact cd_bad regs a c l w h hl hc
end Go.Proofs.YtmmepffdjmpblaaGreat

/- Chapter 12: the steps, as an iterator. -/
namespace Go.Proofs.YtmmepffdjmpblaaGreat
set_option linter.unusedVariables false
set_option linter.unusedSimpArgs false
open Go.RowKit Go.Shelf

theorem At.getIns {w wr : World} {a : Option Addr} {l : List (OpD × Int)} (h : At w a l) (hb : Below w.heap.size w wr) {k : Nat} {x : OpD × Int} (hk : l[k]? = some x) :
    ∃ b off, a = some ⟨b, off, none⟩ ∧ wr.cell? ⟨b, off + k * 6, none⟩ = some (.int .i64 x.1.kind) ∧ wr.cell? ⟨b, off + k * 6 + 1, none⟩ = some (.int .i64 x.1.d) ∧
      wr.cell? ⟨b, off + k * 6 + 2, none⟩ = some (.int .i64 x.1.a) ∧ wr.cell? ⟨b, off + k * 6 + 3, none⟩ = some (.int .i64 x.1.b) ∧ wr.cell? ⟨b, off + k * 6 + 4, none⟩ = some (.int .u64 (x.1.v.toNat : Int)) ∧
      wr.cell? ⟨b, off + k * 6 + 5, none⟩ = some (.int .i64 x.2) := by
  obtain ⟨b, off, y, e, hy, hc⟩ := (h.belowN hb).get (List.getElem?_eq_some_iff.1 hk).1
  obtain rfl : x = y := by have := hk.symm.trans hy.out; simpa using this
  exact ⟨b, off, e, hc 0 _ rfl, hc 1 _ rfl, hc 2 _ rfl, hc 3 _ rfl, hc 4 _ rfl, hc 5 _ rfl⟩

/-- Where the iterator stands when `N` steps are to come. -/
def StI (code : List (OpD × Int)) (steps : List Tk) (J : List OpD → List Nat → World → Prop) (F0 : List Nat) (W : World) (N : Nat) (lv av : Value) (wr : World) : Prop :=
  ∃ (pre rest : List Tk) (p : Nat) (st : List UInt64) (al : Option Addr) (cl k : Nat) (G : List Nat), rest.length = N ∧ av = .int .i64 p ∧ lv = .slice al k cl ∧ k = st.length ∧ p ≤ code.length ∧ k ≤ 8 ∧ Chn code (p, st) rest (code.length, []) ∧ steps = pre ++ rest ∧
    Own wr W.heap.size 50 al cl st ∧ J (pre.map (·.op)) G wr ∧ (∀ g, al.map (·.block) = some g → g ∉ G) ∧ (∀ g ∈ G, g ∈ F0 ∨ W.heap.size ≤ g) ∧ Turned F0 W wr

theorem StI.measure {code : List (OpD × Int)} {steps : List Tk} {J : List OpD → List Nat → World → Prop} {F0 : List Nat} {W : World} {N : Nat} {lv av : Value} {wr : World} {lv' av' : Value} {wr' : World}
    (hN : N + 1 = leastOf (fun N => StI code steps J F0 W N lv av wr)) (h : StI code steps J F0 W N lv' av' wr') : leastOf (fun N => StI code steps J F0 W N lv' av' wr') < leastOf (fun N => StI code steps J F0 W N lv av wr) := by
  have := (leastOf_spec (p := fun N => StI code steps J F0 W N lv' av' wr') ⟨N, h⟩).2 N h
  omega
end Go.Proofs.YtmmepffdjmpblaaGreat

/- Chapter 12: Unroll, Steps. -/
namespace Go.Proofs.YtmmepffdjmpblaaGreat
set_option linter.unusedVariables false
set_option linter.unusedSimpArgs false
open Go.RowKit Go.Shelf
attribute [local go_sem] Oper.semAt_some

/-- what a program is unrolled; how many operations are gone by -/
noncomputable def unrS (regs : Int) (l : List OpD) : List OpD := if checkS regs l = 0 then (fo l).unroll else []
noncomputable def stepsS (regs : Int) (l : List OpD) : Nat := if checkS regs l = 0 then (fo l).bare.gone.length else 0
theorem unrS_good {regs : Int} {f : Fo} (g : Good regs f) : unrS regs f.flat = f.unroll := by unfold unrS; rw [if_pos g.check, fo_flat g.ok]
theorem unrS_bad {regs : Int} {l : List OpD} (h : checkS regs l ≠ 0) : unrS regs l = [] := by unfold unrS; rw [if_neg h]
theorem stepsS_good {regs : Int} {f : Fo} (g : Good regs f) : stepsS regs f.flat = f.steps.length := by unfold stepsS; rw [if_pos g.check, fo_flat g.ok, steps_length]
theorem stepsS_bad {regs : Int} {l : List OpD} (h : checkS regs l ≠ 0) : stepsS regs l = 0 := by unfold stepsS; rw [if_neg h]
def UnrPost (regs : Int) (l : List OpD) (w : World) (e : Ending) (w' : World) : Prop :=
  ∃ a c, e = .returned (.tuple #[.slice a (unrS regs l).length c, .int .i64 (checkS regs l)]) ∧ Own w' w.heap.size 71 a c (unrS regs l) ∧ Below w.heap.size w w'

/-- What Unroll keeps in a round. -/
def UnI (Bo B0 : Nat) (pre : List OpD) (G : List Nat) (W : World) : Prop :=
  ∃ (a : Option Addr) (n c : Nat), Blk W Bo 22 #[.slice a n c] ∧ Hid (n = (wrs pre).length) ∧ Own W B0 71 a c (wrs pre) ∧ G = Bo :: (a.map (·.block)).toList ∧ a.map (·.block) ≠ some Bo
theorem UnI.foot (Bo B0 : Nat) : Foot (UnI Bo B0) where
  keep := by
    rintro pre G W W' ⟨a, n, c, h1, h2, h3, rfl, h5⟩ hs hk
    exact ⟨a, n, c, (hk _ (by simp)).trans h1, h2, h3.keep (fun k hk' _ => hk k (by rw [hk']; simp)), rfl, h5⟩
  lt := by
    rintro pre G W ⟨a, n, c, h1, h2, h3, rfl, h5⟩ b hb
    simp only [List.mem_cons, Option.mem_toList] at hb
    rcases hb with rfl | hb
    · exact h1.lt
    · exact (h3.blk b hb).2
theorem wrs_snoc (l : List OpD) (x : OpD) : wrs (l ++ [x]) = if x.kind ≠ 7 ∧ x.kind ≠ 0 then wrs l ++ [x] else wrs l := by
  rw [wrs_append]
  by_cases h : x.kind ≠ 7 ∧ x.kind ≠ 0
  · rw [if_pos h]; unfold wrs; rw [List.filter_cons, if_pos (by simp [h.1, h.2])]; rfl
  · rw [if_neg h]; have : wrs [x] = [] := by unfold wrs; rw [List.filter_cons, if_neg (by simp; intro h1; exact Classical.byContradiction fun h2 => h ⟨h1, h2⟩)]; rfl
    rw [this, List.append_nil]
theorem wrs_length (l : List OpD) : (wrs l).length ≤ l.length := List.length_filter_le _ _

/-- What Steps keeps in a round. -/
def StN (Bo : Nat) (pre : List OpD) (G : List Nat) (W : World) : Prop := Blk W Bo 3 #[.int .i64 (pre.length : Int)] ∧ G = [Bo]
theorem StN.foot (Bo : Nat) : Foot (StN Bo) where
  keep := by
    rintro pre G W W' ⟨h1, rfl⟩ hs hk
    exact ⟨(hk _ (by simp)).trans h1, rfl⟩
  lt := by
    rintro pre G W ⟨h1, rfl⟩ b hb
    simp only [List.mem_singleton] at hb
    rw [hb]; exact h1.lt

end Go.Proofs.YtmmepffdjmpblaaGreat
