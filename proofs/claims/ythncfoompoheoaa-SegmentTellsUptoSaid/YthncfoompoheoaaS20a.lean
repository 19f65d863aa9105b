/- Chapter 20: the plan of a program; next, ahead. -/
import Derived.Test.YthncfoompoheoaaSg2
import Derived.Test.YthncfoompoheoaaQi
namespace Go.Proofs.Ythncfoompoheoaa
set_option linter.unusedVariables false
set_option linter.unusedSimpArgs false
open Go.RowKit
/-- A plan lies in block g: operations, what belongs together, sizes, rounds. -/
def PlanAt (W : World) (g : Nat) (f : Fo) : Prop :=
  ∃ (a am az ar : Option Addr) (c cm cz cr : Nat), Blk W g 120 #[.slice a f.flat.length c, .slice am f.flat.length cm, .slice az f.flat.length cz, .slice ar f.flat.length cr] ∧ At W a f.flat ∧ At W am (matchL f.flat) ∧ At W az f.sizes ∧ At W ar f.rounds
theorem PlanAt.belowN {W W' : World} {g : Nat} {f : Fo} (h : PlanAt W g f) (hb : Below W.heap.size W W') : PlanAt W' g f := by
  obtain ⟨a, am, az, ar, c, cm, cz, cr, h0, h1, h2, h3, h4⟩ := h
  exact ⟨a, am, az, ar, c, cm, cz, cr, h0.belowN hb, h1.belowN hb, h2.belowN hb, h3.belowN hb, h4.belowN hb⟩
theorem PlanAt.lt {W : World} {g : Nat} {f : Fo} (h : PlanAt W g f) : g < W.heap.size := by
  obtain ⟨a, am, az, ar, c, cm, cz, cr, h0, h1, h2, h3, h4⟩ := h
  exact h0.lt
theorem getI_at {W : World} {a : Option Addr} {l : List Int} (h : At W a l) {k : Nat} {x : Int} (hx : l[k]? = some x) : ∃ b off, a = some ⟨b, off, none⟩ ∧ W.cell? ⟨b, off + k, none⟩ = some (.int .i64 x) := getI_eq h (Below.refl _ _) hx
/-- what a plan's cells hold at a place where a block begins -/
theorem plan_rep {f : Fo} (hf : f.ok) {i : Nat} {op fin : OpD} {b r : Fo} (hs : Stands f.flat (matchL f.flat) i (.rep op b fin r)) :
    f.flat[i]? = some op ∧ op.kind = 7 ∧ (matchL f.flat)[i]? = some ((i + b.size + 1 : Nat) : Int) ∧ f.sizes[i]? = some ((b.wr * op.v.toNat : Nat) : Int) ∧ f.rounds[i]? = some (b.wr : Int) ∧ i + b.size + 2 ≤ f.flat.length := by
  have h1 := hs.rep
  have h2 := hs.lt.1
  rw [Fo.size_rep] at h2
  refine ⟨h1.1, h1.2.1, h1.2.2.1, ?_, ?_, by omega⟩
  · rcases place9 hf h1.1 with ⟨h7, b', fin', r', hs', g1, g2, g3⟩ | ⟨h0, _⟩ | ⟨h1', h2', _⟩
    · obtain ⟨_, rfl⟩ := hs.one hs'; exact g1
    · have := h1.2.1; omega
    · have := h1.2.1; omega
  · rcases place9 hf h1.1 with ⟨h7, b', fin', r', hs', g1, g2, g3⟩ | ⟨h0, _⟩ | ⟨h1', h2', _⟩
    · obtain ⟨_, rfl⟩ := hs.one hs'; exact g2
    · have := h1.2.1; omega
    · have := h1.2.1; omega
theorem plan_leaf {f : Fo} (hf : f.ok) {i : Nat} {op : OpD} {r : Fo} (hs : Stands f.flat (matchL f.flat) i (.leaf op r)) :
    f.flat[i]? = some op ∧ 1 ≤ op.kind ∧ op.kind ≤ 6 ∧ f.sizes[i]? = some 1 ∧ i + 1 ≤ f.flat.length := by
  have h1 := hs.leaf
  have h2 := hs.lt.1
  rw [Fo.size_leaf] at h2
  refine ⟨h1.1, h1.2.1, h1.2.2.1, ?_, by omega⟩
  rcases place9 hf h1.1 with ⟨h7, _⟩ | ⟨h0, _⟩ | ⟨h1', h2', g, _⟩
  · have := h1.2.2.1; omega
  · have := h1.2.1; omega
  · exact g
theorem next_leaf (g : Nat) (f : Fo) (hf : f.ok) (hl : f.flat.length ≤ 4096) (i : Nat) (op : OpD) (r : Fo) (hs : Stands f.flat (matchL f.flat) i (.leaf op r)) (w : World) (h : PlanAt w g f) :
    Calls Try.prog 69 #[.pointer (some ⟨g, 0, none⟩), .int .i64 i] w fun e w' => e = .returned (.int .i64 ((i + 1 : Nat) : Int)) ∧ w = w' := by
  obtain ⟨e1, k1, k2, e2, e3⟩ := plan_leaf hf hs
  obtain ⟨a, am, az, ar, c, cm, cz, cr, h0, h1, h2, h3, h4⟩ := h
  obtain ⟨b1, off1, rfl, x0, x1, x2, x3, x4⟩ := getOp_eq h1 (Below.refl _ _) e1
  obtain ⟨p0, p1, p2, p3, p4, p5, p6, p7⟩ := h0.c4
  have k7 : (op.kind == 7) = false := by simp; omega
  clear e1 e2 k1 k2
  go_enter Try.func69, Try.ntmps69
  go_wp2
  go_ret
  exact ⟨rfl, rfl⟩
theorem next_rep (g : Nat) (f : Fo) (hf : f.ok) (hl : f.flat.length ≤ 4096) (i : Nat) (op : OpD) (b : Fo) (fin : OpD) (r : Fo) (hs : Stands f.flat (matchL f.flat) i (.rep op b fin r)) (w : World) (h : PlanAt w g f) :
    Calls Try.prog 69 #[.pointer (some ⟨g, 0, none⟩), .int .i64 i] w fun e w' => e = .returned (.int .i64 ((i + b.size + 2 : Nat) : Int)) ∧ w = w' := by
  obtain ⟨e1, k1, e2, e3, e4, e5⟩ := plan_rep hf hs
  obtain ⟨a, am, az, ar, c, cm, cz, cr, h0, h1, h2, h3, h4⟩ := h
  obtain ⟨b1, off1, rfl, x0, x1, x2, x3, x4⟩ := getOp_eq h1 (Below.refl _ _) e1
  obtain ⟨b2, off2, rfl, y0⟩ := getI_at h2 e2
  obtain ⟨p0, p1, p2, p3, p4, p5, p6, p7⟩ := h0.c4
  have k7 : (op.kind == 7) = true := by simp [k1]
  obtain ⟨S, hS⟩ : ∃ S, S = b.size := ⟨_, rfl⟩
  rw [← hS] at y0 e5 ⊢
  clear e1 e2 e3 e4 k1 hS
  go_enter Try.func69, Try.ntmps69
  go_wp2
  go_ret
  exact ⟨rfl, rfl⟩
set_option maxHeartbeats 800000 in
theorem ahead_calls (g : Nat) (f : Fo) (hf : f.ok) (hl : f.flat.length ≤ 4096) (hw : f.wr ≤ 65536) (o j : Nat) (q : Fo) (hs : Stands f.flat (matchL f.flat) o q) (hb : q.bnd j) (hq : q.wr ≤ 65536) (F T : Int) (hF : F = (o : Int)) (hT : T = ((o + j : Nat) : Int)) (w : World) (h : PlanAt w g f) :
    Calls Try.prog 68 #[.pointer (some ⟨g, 0, none⟩), .int .i64 F, .int .i64 T] w fun e w' => e = .returned (.int .i64 (q.top j : Int)) ∧ w = w' := by
  have hjl := q.bnd_le j hb
  have hlt := hs.lt.1
  have htl := q.top_le j
  obtain ⟨R, hR⟩ : ∃ R, R = q.top j := ⟨_, rfl⟩
  obtain ⟨Z, hZ⟩ : ∃ Z, Z = o + j := ⟨_, rfl⟩
  subst hF hT
  rw [← hR] at htl ⊢
  rw [← hZ]
  have HR := hide hR
  have HZ := hide hZ
  have HS := hide hs
  have HB := hide hb
  have hZl : Z ≤ f.flat.length := by omega
  have hoZ : o ≤ Z := by omega
  have HP := hide h
  obtain ⟨a, am, az, ar, c, cm, cz, cr, h0, h1, h2, h3, h4⟩ := h
  obtain ⟨p0, p1, p2, p3, p4, p5, p6, p7⟩ := h0.c4
  clear hs hb hR hZ
  go_enter Try.func68, Try.ntmps68
  go_wp2
  go_loop [7, 8] (fun nv iv => ∃ (g' : Fo) (o' j' s : Nat), iv = .int .i64 o' ∧ nv = .int .i64 s ∧ o' ≤ Z ∧ Hid (o' + j' = Z) ∧ Hid (Stands f.flat (matchL f.flat) o' g') ∧ Hid (g'.bnd j') ∧ Hid (s + g'.top j' = R) ∧ s ≤ R) (fun _ iv => Z - (intOf iv).toNat)
  case atStart => exact ⟨q, o, j, 0, rfl, rfl, hoZ, HZ.out.symm, HS.out, HB.out, by have := HR.out; show 0 + q.top j = R; omega, by omega⟩
  case round =>
    obtain ⟨g', o', j', s, rfl, rfl, ho, hoj, hst, hbd, hsr, hsR⟩ := hrel
    have hoj' := hoj.out
    have hbd' := hbd.out
    have hsr' := hsr.out
    by_cases hlt' : o' < Z
    · cases g' with
      | nil => exfalso; have hq : j' = 0 := hbd'; omega
      | leaf op r =>
        rw [Fo.bnd] at hbd'
        rw [Fo.top, if_neg (by omega)] at hsr'
        obtain ⟨e1, k1, k2, e2, e3⟩ := plan_leaf hf hst.out
        obtain ⟨b1, off1, rfl, y0⟩ := getI_at h3 e2
        have HSR := hide hsr'
        have HBD := hide (show r.bnd (j' - 1) from hbd'.elim (fun h => absurd h (by omega)) (fun h => h.2))
        have HOJ := hide hoj'
        have hj1 : 1 ≤ j' := by omega
        have hs1 : s + 1 ≤ R := by omega
        clear hbd' hsr' e1 e2 k1 k2 hoj'
        go_wp2_with (go_at_call 69; go_must ((with_reducible refine (next_leaf g f hf hl o' op r hst.out _ HP.out).mono ?_); rintro e w9 ⟨rfl, rfl⟩))
        go_round
        case rel => exact ⟨r, o' + 1, j' - 1, s + 1, rfl, by go_num, by omega, by have := HOJ.out; show o' + 1 + (j' - 1) = Z; omega, hst.out.leaf.2.2.2.2, HBD.out, by have := HSR.out; show s + 1 + r.top (j' - 1) = R; omega, hs1⟩
        case measure => simp [intOf]; omega
      | rep op b fin r =>
        rw [Fo.bnd] at hbd'
        rw [Fo.top, if_neg (by omega)] at hsr'
        obtain ⟨e1, k1, e2, e3, e4, e5⟩ := plan_rep hf hst.out
        obtain ⟨b1, off1, rfl, y0⟩ := getI_at h3 e3
        obtain ⟨P, hP⟩ : ∃ P, P = b.wr * op.v.toNat := ⟨_, rfl⟩
        rw [← hP] at hsr' y0
        have HSR := hide hsr'
        have hj1 : b.size + 2 ≤ j' := by rcases hbd' with h | h <;> omega
        have HBD := hide (show r.bnd (j' - b.size - 2) from hbd'.elim (fun h => absurd h (by omega)) (fun h => h.2))
        have HOJ := hide hoj'
        have hs1 : s + P ≤ R := by omega
        have hj2 : o' + b.size + 2 ≤ Z := by omega
        clear hbd' hsr' e1 e2 e3 e4 k1 hoj' hP
        go_wp2_with (go_at_call 69; go_must ((with_reducible refine (next_rep g f hf hl o' op b fin r hst.out _ HP.out).mono ?_); rintro e w9 ⟨rfl, rfl⟩))
        go_round
        case rel => exact ⟨r, o' + b.size + 2, j' - b.size - 2, s + P, rfl, by go_num, by omega, by have := HOJ.out; show o' + b.size + 2 + (j' - b.size - 2) = Z; omega, hst.out.rep.2.2.2.2.2.2.2, HBD.out, by have := HSR.out; show s + P + r.top (j' - b.size - 2) = R; omega, hs1⟩
        case measure => simp [intOf]; omega
    · have hj0 : j' = 0 := by omega
      have hsR' : s = R := by rw [hj0] at hsr'; have : g'.top 0 = 0 := by cases g' <;> simp [Fo.top]
                              omega
      have HSR := hide hsR'
      clear hsR' hsr' hoj' hbd'
      go_wp2
      go_ret
      exact ⟨by rw [HSR.out]; rfl, rfl⟩
end Go.Proofs.Ythncfoompoheoaa
