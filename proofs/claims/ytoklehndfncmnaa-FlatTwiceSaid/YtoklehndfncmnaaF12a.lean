/- Chapter 12: Code. -/
import Derived.Test.YtoklehndfncmnaaCd
import Derived.Test.YtoklehndfncmnaaC10c
import Derived.Test.YtoklehndfncmnaaR9c
namespace Go.Proofs.Ytoklehndfncmnaa
set_option linter.unusedVariables false
set_option linter.unusedSimpArgs false
open Go.RowKit

theorem below_new12 (w : World) (o : Obj) : Below w.heap.size w (w.alloc o) := Below.alloc (Below.refl _ _) (Nat.le_refl _) _
theorem tyIns : Ty Try.prog 26 36 (OpD × Int) := Ty.of (z := .agg #[.int .i64 0, .int .i64 0, .int .i64 0, .int .i64 0, .int .u64 0, .int .i64 0]) (size := 6) (bytes := 48) Try.underlying26 (by kernel_rfl) rfl (by decide) rfl
theorem Own.far_E {α β : Type} [Flat α] [Flat β] {w : World} {B B' : Nat} {E E' : TypeId} {a a' : Option Addr} {c c' : Nat} {l : List α} {l' : List β} (h : Own w B E a c l) (h' : Own w B' E' a' c' l') (hE : E ≠ E') : a.map (·.block) = Option.none ∨ a.map (·.block) ≠ a'.map (·.block) := by
  rcases h.form with ⟨rfl, _⟩ | ⟨g, rfl, _⟩
  · exact .inl rfl
  · rcases h'.form with ⟨rfl, _⟩ | ⟨g', rfl, _⟩
    · exact .inr (by simp)
    · exact .inr (by have := h.ne_E h' hE; simpa using this)
theorem sizes_at {f : Fo} (hf : f.ok) {i : Nat} {op fin : OpD} {b r : Fo} (h : Stands f.flat (matchL f.flat) i (.rep op b fin r)) : f.sizes[i]? = some ((b.wr * op.v.toNat : Nat) : Int) := by
  obtain ⟨e1, k7, e3, e4, k0, e6, hb, hr⟩ := h.rep
  rcases place9 hf e1 with ⟨h7, b', fin', r', hs, g1, g2, g3⟩ | ⟨h0, _⟩ | ⟨h1, h2, _⟩
  · obtain ⟨_, rfl⟩ := h.one hs
    exact g1
  · omega
  · omega
/-- the code that is told of a program; none: an error -/
noncomputable def codeS (regs : Int) (l : List OpD) : List (OpD × Int) := if checkS regs l = 0 then (fo l).bare.code 0 else []
theorem codeS_good {regs : Int} {f : Fo} (g : Good regs f) : codeS regs f.flat = f.bare.code 0 := by unfold codeS; rw [if_pos g.check, fo_flat g.ok]
theorem codeS_bad {regs : Int} {l : List OpD} (h : checkS regs l ≠ 0) : codeS regs l = [] := by unfold codeS; rw [if_neg h]
def CodePost (regs : Int) (l : List OpD) (w : World) (e : Ending) (w' : World) : Prop :=
  ∃ a c, e = .returned (.tuple #[.slice a (codeS regs l).length c, .int .i64 (checkS regs l)]) ∧ Own w' w.heap.size 36 a c (codeS regs l) ∧ Below w.heap.size w w'
theorem cd_bad (regs : Int) (a : Option Addr) (c : Nat) (l : List OpD) (w : World) (h : At w a l) (hl : l.length ≤ 1000000) (hc : checkS regs l ≠ 0) :
    Calls Try.prog 13 #[.agg #[.int .i64 regs, .slice a l.length c]] w (CodePost regs l w) := by
  have h1 := h.belowN (below_new12 w (.cells #[.int .i64 regs, .slice a l.length c] 24))
  have hb0 := below_new12 w (.cells #[.int .i64 regs, .slice a l.length c] 24)
  have HP := hide (Prog_calls regs a c l _ h1 hl)
  have HC := hide (codeS_bad hc)
  obtain ⟨E, hE⟩ : ∃ E, E = checkS regs l := ⟨_, rfl⟩
  rw [← hE] at HP hc
  have HE := hide hE
  have e1 : (E == 0) = false := by simpa using hc
  have e2 : (E != 0) = true := by simpa using hc
  clear hE hc
  go_enter Try.func13, Try.ntmps13
  go_wp2_with (go_at_call 31; ((with_reducible refine (HP.out).mono ?_); rintro e w1 ⟨rfl, hb1⟩))
  go_ret2
  unfold CodePost
  rw [HC.out, ← HE.out]
  exact ⟨none, 0, rfl, Own.none _ _ _, hb0.trans (hb1.mono hb0.size)⟩
theorem getOp_eq {w wr : World} {a : Option Addr} {l : List OpD} (h : At w a l) (hb : Below w.heap.size w wr) {k : Nat} {x : OpD} (hk : l[k]? = some x) :
    ∃ b off, a = some ⟨b, off, none⟩ ∧ wr.cell? ⟨b, off + k * 5, none⟩ = some (.int .i64 x.kind) ∧ wr.cell? ⟨b, off + k * 5 + 1, none⟩ = some (.int .i64 x.d) ∧
      wr.cell? ⟨b, off + k * 5 + 2, none⟩ = some (.int .i64 x.a) ∧ wr.cell? ⟨b, off + k * 5 + 3, none⟩ = some (.int .i64 x.b) ∧ wr.cell? ⟨b, off + k * 5 + 4, none⟩ = some (.int .u64 (x.v.toNat : Int)) := by
  obtain ⟨b, off, y, e, hy, h0⟩ := h.getOp hb (List.getElem?_eq_some_iff.1 hk).1
  obtain rfl : x = y := by have := hk.symm.trans hy.out; simpa using this
  exact ⟨b, off, e, h0⟩
theorem getI_eq {w wr : World} {a : Option Addr} {l : List Int} (h : At w a l) (hb : Below w.heap.size w wr) {k : Nat} {x : Int} (hk : l[k]? = some x) :
    ∃ b off, a = some ⟨b, off, none⟩ ∧ wr.cell? ⟨b, off + k, none⟩ = some (.int .i64 x) := by
  obtain ⟨b, off, y, e, hy, h0⟩ := h.getI hb (List.getElem?_eq_some_iff.1 hk).1
  obtain rfl : x = y := by have := hk.symm.trans hy.out; simpa using this
  exact ⟨b, off, e, h0⟩

set_option maxRecDepth 100000 in
set_option maxHeartbeats 6400000 in
theorem cd_good (regs : Int) (a : Option Addr) (c : Nat) (f : Fo) (w : World) (h : At w a f.flat) (g : Good regs f) :
    Calls Try.prog 13 #[.agg #[.int .i64 regs, .slice a f.flat.length c]] w (CodePost regs f.flat w) := by
  have hl : f.flat.length ≤ 4096 := g.len
  have h1 := h.belowN (below_new12 w (.cells #[.int .i64 regs, .slice a f.flat.length c] 24))
  have hb0 := below_new12 w (.cells #[.int .i64 regs, .slice a f.flat.length c] 24)
  have hX := Blk.new w 24 #[.int .i64 regs, .slice a f.flat.length c]
  have HP := hide (Prog_calls regs a c f.flat _ h1 (by omega))
  have HM := hide (fun w' (g1 : At w' a f.flat) => MatchW a c f.flat w' g1 (by omega) (well_of_flat f g.ok))
  have HZ := hide (fun w' (g1 : At w' a f.flat) => SizeZ_calls a c f.flat w' g1 (by omega))
  obtain ⟨z1, z2, z3, z4⟩ := W9_ok g.ok ⟨g.may, g.few⟩
  rw [z1, z3, f.sizes_length] at HZ
  have HC := hide (codeS_good g)
  have HK := hide g.check
  have HG := hide g
  rw [g.check] at HP
  change Hid (∀ w', At w' a f.flat → Calls Try.prog 33 #[.slice a f.flat.length c] w' fun e w'' => ∃ a' c', e = .returned (.tuple #[.slice a' f.flat.length c', .int .i64 0]) ∧ Own w'' w'.heap.size 3 a' c' f.sizes ∧ Below w'.heap.size w' w'') at HZ
  clear z1 z2 z3 z4 g
  go_enter Try.func13, Try.ntmps13
  go_wp2_with (first
    | (go_at_call 31; ((with_reducible refine (HP.out).mono ?_); rintro e w1 ⟨rfl, hb1⟩; have hB1 := hb0.trans (hb1.mono hb0.size); obtain ⟨q0, q1, q2, q3⟩ := (hX.belowN hb1).c2))
    | (go_at_call 32; ((with_reducible refine (HM.out _ (h.belowN hB1)).mono ?_); rintro e w2 ⟨am, cm, rfl, hom, hb2⟩; have hB2 := hB1.trans (hb2.mono hB1.size); obtain ⟨q0', q1', q2', q3'⟩ := ((hX.belowN hb1).belowN hb2).c2))
    | (go_at_call 33; ((with_reducible refine (HZ.out _ (h.belowN hB2)).mono ?_); rintro e w3 ⟨az, cz, rfl, hoz, hb3⟩; have hB3 := hB2.trans (hb3.mono hB2.size); have hX3 := ((hX.belowN hb1).belowN hb2).belowN hb3)))
  have hm3 : At w3 am (matchL f.flat) := (hom.belowN hb3).at_
  have hz3 : At w3 az f.sizes := hoz.at_
  have hl3 : At w3 a f.flat := h.belowN hB3
  have hs3 := hB3.size
  have hxl := hX3.lt
  clear hom hoz hb1 hb2 hb3 hB1 hB2 q0 q1 q2 q3 q0' q1' q2' q3' h1 hX HP HM HZ
  go_loopw [9, 10, 11] (fun ov sv iv wr => ∃ (i : Nat) (ao as' : Option Addr) (co cs n s : Nat) (out : List (OpD × Int)) (gf : Fo) (st : List Cf), iv = .int .i64 i ∧ i ≤ f.flat.length ∧ ov = .slice ao n co ∧ sv = .slice as' s cs ∧ Hid (n = out.length) ∧ Hid (s = st.length) ∧ n ≤ i ∧ s ≤ i ∧
      Hid (CdOk f.flat (matchL f.flat) (f.bare.code 0) i out gf st) ∧ Own wr w3.heap.size 36 ao co out ∧ Own wr w3.heap.size 3 as' cs (opn st) ∧ Below w3.heap.size w3 wr) (fun _ _ iv _ => f.flat.length - (intOf iv).toNat)
  case atStart => exact ⟨0, none, none, 0, 0, 0, 0, [], f, [], rfl, by omega, rfl, rfl, rfl, rfl, by omega, by omega, hide (CdOk.start HG.out.ok), Own.none _ _ _, Own.none _ _ _, Below.refl _ _⟩
  case round =>
    obtain ⟨i, ao, as', co, cs, n, s, out, gf, st, rfl, hi, rfl, rfl, hn, hs, hni, hsi, hcd, hoo, hos, hbr⟩ := hrel
    have hzr := hbr.size
    obtain ⟨q0, q1, q2, q3⟩ := (hX3.belowN hbr).c2
    by_cases hlt : i < f.flat.length
    · cases gf with
      | nil =>
        cases st with
        | nil => exact absurd (hcd.out.done).1 (by omega)
        | cons s0 st =>
          obtain ⟨e1, ek, eo, hcd2⟩ := hcd.out.end_
          obtain ⟨b1, off1, rfl, x0, x1, x2, x3, x4⟩ := getOp_eq hl3 hbr e1
          have k7 : (s0.fin.kind == 7) = false := by simp; omega
          have k0 : (s0.fin.kind == 0) = true := by simp; omega
          have hone : out ≠ [] := by intro e; subst e; simp at eo
          have hsne : opn (s0 :: st) ≠ [] := by rw [opn_cons]; simp
          obtain ⟨go, rfl, hgo1, hgo2⟩ := hoo.some_ hone
          obtain ⟨gs, rfl, hgs1, hgs2⟩ := hos.some_ hsne
          obtain ⟨s', rfl⟩ : ∃ s', s = s' + 1 := ⟨s - 1, by have := hs.out; simp at this; omega⟩
          have hs' : s' = st.length := by have := hs.out; simp at this; omega
          have hlast : (opn (s0 :: st))[s']? = some (s0.bg : Int) := by rw [opn_cons, List.getElem?_append_right (by rw [opn_length]; omega), opn_length, hs', Nat.sub_self]; rfl
          have t0 : wr.cell? ⟨gs, s', none⟩ = some (.int .i64 (s0.bg : Int)) := by simpa [Flat.n] using hos.cellAt hlast (f := 0) rfl
          have hcap : s' + 1 ≤ cs := by have := hos.cap.1; rw [opn_length] at this; simp at this; omega
          have hbg : s0.bg < n := by rw [hn.out]; exact (List.getElem?_eq_some_iff.1 eo).1
          have tc : wr.cell? ⟨go, s0.bg * 6 + 5, none⟩ = some (.int .i64 0) := by simpa [Flat.n] using hoo.cellAt eo (f := 5) rfl
          have tf := hoo.frozen (s0.bg * 6 + 5)
          have hpop : Own wr w3.heap.size 3 (some ⟨gs, 0, none⟩) cs (opn st) := by have := hos.pop hsne; rwa [opn_cons, List.dropLast_concat] at this
          have hgn : go ≠ wr.heap.size := by omega
          have hgg : go ≠ gs := hoo.ne_E hos (by decide)
          have hnn : ((n : Int) + 1) = ((out.length + 1 : Nat) : Int) := by rw [hn.out]; rfl
          have hoo1 : Own ((wr.setCell ⟨go, s0.bg * 6 + 5, none⟩ (.int .i64 ((n : Int) + 1))).alloc (.cells #[.int .i64 s0.fin.kind, .int .i64 s0.fin.d, .int .i64 s0.fin.a, .int .i64 s0.fin.b, .int .u64 (s0.fin.v.toNat : Int)] 34)) w3.heap.size 36 (some ⟨go, 0, none⟩) co (out.set s0.bg (s0.op, ((out.length + 1 : Nat) : Int))) :=
            (hoo.setAt s0.bg 5 (s0.op, ((out.length + 1 : Nat) : Int)) (s0.op, 0) (.int .i64 ((n : Int) + 1)) eo (by decide) (by rw [hnn]; rfl)).alloc _
          have hps1 : Own ((wr.setCell ⟨go, s0.bg * 6 + 5, none⟩ (.int .i64 ((n : Int) + 1))).alloc (.cells #[.int .i64 s0.fin.kind, .int .i64 s0.fin.d, .int .i64 s0.fin.a, .int .i64 s0.fin.b, .int .u64 (s0.fin.v.toNat : Int)] 34)) w3.heap.size 3 (some ⟨gs, 0, none⟩) cs (opn st) := (hpop.far (by simpa using hgg.symm) _).alloc _
          have hb1 := (hbr.setCell (p := ⟨go, s0.bg * 6 + 5, none⟩) hgo1 (.int .i64 ((n : Int) + 1))).alloc (by simpa using hzr) (.cells #[.int .i64 s0.fin.kind, .int .i64 s0.fin.d, .int .i64 s0.fin.a, .int .i64 s0.fin.b, .int .u64 (s0.fin.v.toNat : Int)] 34)
          have HOL : Hid (n = (out.set s0.bg (s0.op, ((out.length + 1 : Nat) : Int))).length) := by show n = _; rw [List.length_set]; exact hn.out
          have hz1 := hb1.size
          have HCD := hide hcd2
          have HS' := hide hs'
          clear e1 ek eo hcd2 hlast hone hsne hnn hs'
          go_wp2_with (at_builtin; go_loud (refine wpList_push tyIns hoo1 (s0.fin, ((s0.bg + 1 : Nat) : Int)) rfl rfl rfl rfl rfl (by simp) HOL.out hz1 (by omega) ?_); intro a4 c4 w4 hown4 hg4 hm4)
          go_roundw
          case rel =>
            refine ⟨i + 1, a4, some ⟨gs, 0, none⟩, c4, cs, n + 1, s', _, s0.r, st, by go_num, by omega, rfl, rfl, ?_, HS'.out, by omega, by omega, HCD, hown4, hps1.grown hg4 (hps1.far_E hoo1 (by decide)), below_push hb1 hoo1 hg4 hz1⟩
            show n + 1 = _
            rw [List.length_append, ← HOL.out]
            rfl
          case measure => simp [intOf]; omega
      | leaf op r =>
        obtain ⟨e1, k1, k2, hcd2⟩ := hcd.out.leaf
        obtain ⟨b1, off1, rfl, x0, x1, x2, x3, x4⟩ := getOp_eq hl3 hbr e1
        have k7 : (op.kind == 7) = false := by simp; omega
        have k0 : (op.kind == 0) = false := by simp; omega
        have hoo1 : Own (wr.alloc (.cells #[.int .i64 op.kind, .int .i64 op.d, .int .i64 op.a, .int .i64 op.b, .int .u64 (op.v.toNat : Int)] 34)) w3.heap.size 36 ao co out := hoo.alloc _
        have HCD := hide hcd2
        clear e1 k1 k2 hcd2
        go_wp2_with (at_builtin; refine wpList_push tyIns hoo1 (op, (0 : Int)) rfl rfl rfl rfl rfl (by simp) hn.out (by simp; omega) (by omega) ?_; intro a4 c4 w4 hown4 hg4 hm4)
        go_roundw
        case rel =>
          refine ⟨i + 1, a4, as', c4, cs, n + 1, s, out ++ [(op, 0)], r, st, by go_num, by omega, rfl, rfl, by show n + 1 = _; rw [hn.out]; simp, hs, by omega, by omega, HCD, hown4, (hos.alloc _).grown hg4 ((hos.alloc _).far_E hoo1 (by decide)), below_push (hbr.alloc hzr _) hoo1 hg4 (by simp; omega)⟩
        case measure => simp [intOf]; omega
      | rep op b fin r =>
        have hst := hcd.out.1
        obtain ⟨e1, k7, e3, _⟩ := hst.rep
        have es := sizes_at HG.out.ok hst
        obtain ⟨b1, off1, rfl, x0, x1, x2, x3, x4⟩ := getOp_eq hl3 hbr e1
        obtain ⟨b2, off2, rfl, y0⟩ := getI_eq hz3 hbr es
        obtain ⟨b3, off3, rfl, m0⟩ := getI_eq hm3 hbr e3
        have k7b : (op.kind == 7) = true := by simp; omega
        have hyl := World.block_lt_of_cell? _ _ y0
        have hml := World.block_lt_of_cell? _ _ m0
        have k0 : (op.kind == 0) = false := by simp; omega
        have hle := hst.lt.1
        rw [Fo.size_rep] at hle
        have hle2 : i + b.size + 1 < f.flat.length := by omega
        obtain ⟨Z, hZ⟩ : ∃ Z : Nat, Z = i + b.size + 1 := ⟨_, rfl⟩
        rw [← hZ] at m0 hle2
        have HZ := hide hZ
        have hZi : i < Z := by omega
        by_cases hq : b.wr * op.v.toNat = 0
        · have hcd2 := hcd.out.skip hq
          rw [show i + b.size + 2 = Z + 1 by omega] at hcd2
          rw [hq] at y0
          have HCD := hide hcd2
          clear e1 k7 e3 es hst hle hZ hq hcd2
          go_wp2
          go_roundw
          case rel => exact ⟨Z + 1, ao, as', co, cs, n, s, out, r, st, by go_num, by omega, rfl, rfl, hn, hs, by omega, by omega, HCD, hoo.alloc _, hos.alloc _, hbr.alloc hzr _⟩
          case measure => simp [intOf]; omega
        · have hcd2 := hcd.out.open_ hq
          obtain ⟨q, hqq⟩ : ∃ q : Nat, q = b.wr * op.v.toNat := ⟨_, rfl⟩
          rw [← hqq] at y0 hq
          have hqb : ((q : Int) == 0) = false := by simpa using hq
          have HCD := hide hcd2
          have hoo1 : Own (wr.alloc (.cells #[.int .i64 op.kind, .int .i64 op.d, .int .i64 op.a, .int .i64 op.b, .int .u64 (op.v.toNat : Int)] 34)) w3.heap.size 36 ao co out := hoo.alloc _
          have hos1 : Own (wr.alloc (.cells #[.int .i64 op.kind, .int .i64 op.d, .int .i64 op.a, .int .i64 op.b, .int .u64 (op.v.toNat : Int)] 34)) w3.heap.size 3 as' cs (opn st) := hos.alloc _
          have hX1 := Blk.new wr 34 #[.int .i64 op.kind, .int .i64 op.d, .int .i64 op.a, .int .i64 op.b, .int .u64 (op.v.toNat : Int)]
          have hb1 := hbr.alloc hzr (.cells #[.int .i64 op.kind, .int .i64 op.d, .int .i64 op.a, .int .i64 op.b, .int .u64 (op.v.toNat : Int)] 34)
          have HOL : Hid (s = (opn st).length) := by show s = _; rw [opn_length]; exact hs.out
          clear e1 k7 e3 es hst hle hZ hqq hq hcd2
          go_wp2_with (first
            | (at_builtin; refine wpList_push tyI hos1 (n : Int) rfl rfl rfl rfl rfl (by simp) HOL.out (by simp; omega) (by omega) ?_; intro a4 c4 w4 hown4 hg4 hm4; have hoo2 := hoo1.grown hg4 (hoo1.far_E hos1 (by decide)); have hX2 := hX1.grown hg4 (by intro e; have := (hos.blk _ e.symm).2; omega); obtain ⟨v0, v1, v2, v3, v4, f0, f1, f2, f3, f4⟩ := hX2.c5; have hb2 := below_push hb1 hos1 hg4 (by simp; omega); have hz4 := hb2.size; clear hoo1 hX1)
            | (at_builtin; refine wpList_push tyIns hoo2 (op, (0 : Int)) rfl rfl rfl rfl rfl rfl hn.out hz4 (by omega) ?_; intro a5 c5 w5 hown5 hg5 hm5))
          go_roundw
          case rel =>
            refine ⟨i + 1, a5, a4, c5, c4, n + 1, s + 1, out ++ [(op, 0)], b, ⟨out.length, op, fin, r⟩ :: st, by go_num, by omega, rfl, rfl, by show n + 1 = _; rw [hn.out]; simp, by show s + 1 = _; rw [hs.out]; rfl, by omega, by omega, HCD, hown5, ?_, below_push hb2 hoo2 hg5 hz4⟩
            rw [opn_cons]
            have := hown4.grown hg5 (hown4.far_E hoo2 (by decide))
            rw [hn.out] at this
            exact this
          case measure => simp [intOf]; omega
    · obtain rfl : i = f.flat.length := by omega
      obtain ⟨rfl, rfl⟩ := hcd.out.last.2 rfl
      have HD := hide (hcd.out.done.2)
      go_wp2
      go_ret2
      unfold CodePost
      rw [HC.out, HK.out, HD.out]
      exact ⟨ao, co, by rw [hn.out]; rfl, hoo.mono hs3, hB3.trans (hbr.mono hs3)⟩
theorem Code_calls (regs : Int) (a : Option Addr) (c : Nat) (l : List OpD) (w : World) (h : At w a l) (hl : l.length ≤ 1000000) :
    Calls Try.prog 13 #[.agg #[.int .i64 regs, .slice a l.length c]] w (CodePost regs l w) := by
  by_cases hc : checkS regs l = 0
  · obtain ⟨f, rfl, g⟩ := good_of_check hc
    exact cd_good regs a c f w h g
  · exact cd_bad regs a c l w h hl hc
end Go.Proofs.Ytoklehndfncmnaa
