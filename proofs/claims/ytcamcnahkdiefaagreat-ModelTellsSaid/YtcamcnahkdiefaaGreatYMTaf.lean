/- Several texts of mine in one file. -/
import Derived.Test.YtcamcnahkdiefaaGreatYMTad
import Derived.Test.YtcamcnahkdiefaaGreatYMTae
/- Several texts of mine in one file: R9a, R9b, R9c. -/
/- Chapter 9, the document's answers: what stands from a place up to another one; blocks. -/
namespace Go.Proofs.YtcamcnahkdiefaaGreat
set_option linter.unusedVariables false
set_option linter.unusedSimpArgs false
open Go.RowKit

theorem min_mul (a v : Nat) : (if min a 65537 = 0 ∨ v = 0 then 0 else if 65536 < v then 65537 else if 65536 < min a 65537 * v then 65537 else min a 65537 * v) = min (a * v) 65537 := by
  by_cases h0 : a = 0
  · subst h0; simp
  · by_cases hv : v = 0
    · subst hv; simp
    · rw [if_neg (by omega)]
      have h1 : v ≤ a * v := Nat.le_mul_of_pos_left _ (by omega)
      by_cases h2 : 65536 < v
      · rw [if_pos h2]; omega
      · rw [if_neg h2]
        by_cases h3 : a ≤ 65537
        · rw [Nat.min_eq_left h3]
          split <;> omega
        · have h4 : a ≤ a * v := Nat.le_mul_of_pos_right _ (by omega)
          rw [Nat.min_eq_right (by omega : 65537 ≤ a)]
          have : 65537 ≤ 65537 * v := Nat.le_mul_of_pos_right _ (by omega)
          split <;> omega

/-- capped -/
def capW (n : Nat) : Int := ((min n 65537 : Nat) : Int)

/-- The place where a forest stands in all operations, with what belongs together. -/
structure Stands (l : List OpD) (m : List Int) (o : Nat) (f : Fo) : Prop where
  ok : f.ok
  ops : ∃ pre post, l = pre ++ f.flat ++ post ∧ pre.length = o
  mt : ∃ pre post, m = pre ++ mtT o f ++ post ∧ pre.length = o
theorem Stands.lt {l : List OpD} {m : List Int} {o : Nat} {f : Fo} (h : Stands l m o f) : o + f.size ≤ l.length ∧ o + f.size ≤ m.length := by
  obtain ⟨pre, post, e, hp⟩ := h.ops
  obtain ⟨pm, qm, e2, hp2⟩ := h.mt
  subst e e2
  simp [mtT_length, Fo.size]
  omega
theorem Stands.leaf {l : List OpD} {m : List Int} {o : Nat} {op : OpD} {r : Fo} (h : Stands l m o (.leaf op r)) : l[o]? = some op ∧ 1 ≤ op.kind ∧ op.kind ≤ 6 ∧ m[o]? = some (-1) ∧ Stands l m (o + 1) r := by
  obtain ⟨ok, ⟨pre, post, e, hp⟩, ⟨pm, qm, e2, hp2⟩⟩ := h
  refine ⟨?_, ok.1, ok.2.1, ?_, ok.2.2, ⟨pre ++ [op], post, by rw [e]; simp [Fo.flat], by simp [hp]⟩, ⟨pm ++ [-1], qm, by rw [e2]; simp [mtT], by simp [hp2]⟩⟩
  · subst hp; rw [e]; simp [Fo.flat]
  · subst hp2; rw [e2]; simp [mtT]
theorem Stands.rep {l : List OpD} {m : List Int} {o : Nat} {op fin : OpD} {b r : Fo} (h : Stands l m o (.rep op b fin r)) :
    l[o]? = some op ∧ op.kind = 7 ∧ m[o]? = some ((o + b.size + 1 : Nat) : Int) ∧ l[o + b.size + 1]? = some fin ∧ fin.kind = 0 ∧ m[o + b.size + 1]? = some (o : Int) ∧ Stands l m (o + 1) b ∧ Stands l m (o + b.size + 2) r := by
  obtain ⟨ok, ⟨pre, post, e, hp⟩, ⟨pm, qm, e2, hp2⟩⟩ := h
  obtain ⟨k1, k2, k3, k4⟩ := ok
  have e' : l = (pre ++ op :: b.flat) ++ fin :: (r.flat ++ post) := by rw [e]; simp [Fo.flat]
  have e2' : m = (pm ++ ((o + b.size + 1 : Nat) : Int) :: mtT (o + 1) b) ++ (o : Int) :: (mtT (o + b.size + 2) r ++ qm) := by rw [e2]; simp [mtT]
  have hb : b.flat.length = b.size := rfl
  refine ⟨?_, k1, ?_, ?_, k3, ?_, ⟨k2, ⟨pre ++ [op], fin :: (r.flat ++ post), by rw [e']; simp, by simp [hp]⟩, ⟨pm ++ [((o + b.size + 1 : Nat) : Int)], (o : Int) :: (mtT (o + b.size + 2) r ++ qm), by rw [e2']; simp, by simp [hp2]⟩⟩, ⟨k4, ⟨pre ++ op :: (b.flat ++ [fin]), post, by rw [e']; simp, by simp [hp]; omega⟩, ⟨pm ++ ((o + b.size + 1 : Nat) : Int) :: (mtT (o + 1) b ++ [(o : Int)]), qm, by rw [e2']; simp, by simp [hp2, mtT_length]; omega⟩⟩⟩
  · subst hp; rw [e]; simp [Fo.flat]
  · subst hp2; rw [e2]; simp [mtT]
  · rw [e', List.getElem?_append_right (by simp; omega)]
    simp only [List.length_append, List.length_cons]
    rw [show o + b.size + 1 - (pre.length + (b.flat.length + 1)) = 0 by omega]
    rfl
  · rw [e2', List.getElem?_append_right (by simp [mtT_length]; omega)]
    simp only [List.length_append, List.length_cons, mtT_length]
    rw [show o + b.size + 1 - (pm.length + (b.size + 1)) = 0 by omega]
    rfl
theorem Stands.whole {f : Fo} (hf : f.ok) : Stands f.flat (matchL f.flat) 0 f :=
  ⟨hf, ⟨[], [], by simp, rfl⟩, ⟨[], [], by rw [matchL_flat f hf]; simp, rfl⟩⟩

def Within9 (a am : Option Addr) (c cm : Nat) (l : List OpD) (m : List Int) (f : Fo) : Prop :=
  ∀ (o : Nat) (F T : Int) (w : World), F = (o : Int) → T = ((o + f.size : Nat) : Int) → At w a l → At w am m → Stands l m o f →
    Calls Tryz.prog 103 #[.slice a l.length c, .slice am m.length cm, .int .i64 F, .int .i64 T] w fun e w' => e = .returned (.int .i64 (capW f.wr)) ∧ Below w.heap.size w w'

section
variable {a am : Option Addr} {c cm : Nat} {l : List OpD} {m : List Int}
set_option maxHeartbeats 800000 in
/-- a block, by what is within it -/
theorem Block9_of (o : Nat) (op fin : OpD) (b r : Fo) (w : World) (h : At w a l) (hm : At w am m) (hl : l.length ≤ 1000000) (hs : Stands l m o (.rep op b fin r)) (hw : Within9 a am c cm l m b) :
    Calls Tryz.prog 102 #[.slice a l.length c, .slice am m.length cm, .int .i64 (o : Int)] w fun e w' => e = .returned (.int .i64 (capW (b.wr * op.v.toNat))) ∧ Below w.heap.size w w' := by
  obtain ⟨e1, e2, e3, e4, e5, e6, hb, hr⟩ := hs.rep
  obtain ⟨n1, n2⟩ := hs.lt
  rw [Fo.size_rep] at n1 n2
  have ho : o < l.length := by omega
  have hom : o < m.length := by omega
  have hml : (m.length : Int) = (m.length : Int) := rfl
  obtain ⟨E, hE⟩ : ∃ E : Nat, E = o + b.size + 1 := ⟨_, rfl⟩
  have HC := hide (fun w' (h1 : At w' a l) (h2 : At w' am m) => hw (o + 1) ((o : Int) + 1) (E : Int) w' (by omega) (by rw [hE]; omega) h1 h2 hb)
  obtain ⟨W, hW⟩ : ∃ W, W = b.wr := ⟨_, rfl⟩
  have hmin := min_mul b.wr op.v.toNat
  rw [← hE] at e3
  rw [← hW] at HC hmin
  obtain ⟨b1, off1, x, rfl, hx, x0, x1, x2, x3, x4⟩ := h.getOp (Below.refl _ _) ho
  obtain rfl : op = x := by have := e1.symm.trans hx.out; simpa using this
  obtain ⟨b2, off2, y, rfl, hy, y0⟩ := hm.getI (Below.refl _ _) hom
  obtain rfl : y = (E : Int) := by have := hy.out.symm.trans e3; simpa using this
  have hbl := World.block_lt_of_cell? _ _ x0
  have HM := hide hmin
  have hv0 : ((op.v.toNat : Int) == 0) = decide (op.v.toNat = 0) := by rw [Bool.eq_iff_iff]; simp
  rw [← hW]
  have hcap : ∀ n, capW n = ((min n 65537 : Nat) : Int) := fun n => rfl
  have HCAP := hide hcap
  clear e1 e2 e3 e4 e5 e6 hx hy hE hW hml hcap hmin hs hb hr hw
  generalize op.v.toNat = v at *
  obtain ⟨q, hq⟩ : ∃ q, q = min W 65537 := ⟨_, rfl⟩
  obtain ⟨C, hC⟩ : ∃ C : Nat, C = min (W * v) 65537 := ⟨_, rfl⟩
  have HM' := HM.out
  have HCW : capW W = (q : Int) := by rw [hq]; rfl
  have HCV : capW (W * v) = (C : Int) := by rw [hC]; rfl
  rw [HCW] at HC
  rw [HCV]
  rw [← hq, ← hC] at HM'
  have hq2 : q ≤ 65537 := by omega
  clear HM HCAP hq hC HCW HCV
  by_cases q0 : q = 0
  · have hr : C = 0 := by rw [← HM', if_pos (.inl q0)]
    subst q0
    subst hr
    clear HM' hv0
    go_enter Tryz.func102, Tryz.ntmps102
    go_wp2_with (go_at_call 103; ((with_reducible refine (HC.out _ h hm).mono ?_); rintro e w1 ⟨rfl, hb⟩))
    go_ret
    exact ⟨rfl, hb⟩
  · have hqb : ((q : Int) == 0) = false := by simpa using q0
    by_cases v0 : v = 0
    · have hr : C = 0 := by rw [← HM', if_pos (.inr v0)]
      have hv1 : ((v : Int) == 0) = true := by simpa using v0
      subst hr
      clear HM' hv0 q0 v0
      go_enter Tryz.func102, Tryz.ntmps102
      go_wp2_with (go_at_call 103; ((with_reducible refine (HC.out _ h hm).mono ?_); rintro e w1 ⟨rfl, hb⟩; have x4' := (hb.cell (p := ⟨b1, off1 + o * 5 + 4, none⟩) hbl).trans x4))
      go_ret
      exact ⟨rfl, hb⟩
    · have hv1 : ((v : Int) == 0) = false := by simpa using v0
      by_cases v1 : 65536 < v
      · have hr : C = 65537 := by rw [← HM', if_neg (by omega), if_pos v1]
        subst hr
        clear HM' hv0 q0 v0
        go_enter Tryz.func102, Tryz.ntmps102
        go_wp2_with (go_at_call 103; ((with_reducible refine (HC.out _ h hm).mono ?_); rintro e w1 ⟨rfl, hb⟩; have x4' := (hb.cell (p := ⟨b1, off1 + o * 5 + 4, none⟩) hbl).trans x4))
        go_ret
        exact ⟨rfl, hb⟩
      · have hm1 : q * v ≤ 65537 * 65536 := Nat.mul_le_mul hq2 (by omega)
        obtain ⟨M, hM⟩ : ∃ M, M = q * v := ⟨_, rfl⟩
        have hMi : (q : Int) * (v : Int) = (M : Int) := by rw [hM]; simp
        rw [← hM] at HM' hm1
        have hr : C = if 65536 < M then 65537 else M := by rw [← HM', if_neg (by omega), if_neg v1]
        have HR := hide hr
        clear HM' hv0 q0 v0 hM hr
        by_cases v2 : 65536 < M
        · go_enter Tryz.func102, Tryz.ntmps102
          go_wp2_with (go_at_call 103; ((with_reducible refine (HC.out _ h hm).mono ?_); rintro e w1 ⟨rfl, hb⟩; have x4' := (hb.cell (p := ⟨b1, off1 + o * 5 + 4, none⟩) hbl).trans x4))
          go_ret
          exact ⟨by rw [HR.out, if_pos v2]; rfl, hb⟩
        · go_enter Tryz.func102, Tryz.ntmps102
          go_wp2_with (go_at_call 103; ((with_reducible refine (HC.out _ h hm).mono ?_); rintro e w1 ⟨rfl, hb⟩; have x4' := (hb.cell (p := ⟨b1, off1 + o * 5 + 4, none⟩) hbl).trans x4))
          go_ret
          exact ⟨by rw [HR.out, if_neg v2]; rfl, hb⟩

set_option maxRecDepth 100000 in
set_option maxHeartbeats 1600000 in
theorem within9_all (hl : l.length ≤ 1000000) : ∀ (N : Nat) (f : Fo), f.size < N → Within9 a am c cm l m f := by
  intro N
  induction N with
  | zero => intro f hf; omega
  | succ N ih =>
    intro f hf o F T w hF hT h hm hs
    have hlt := hs.lt
    obtain ⟨hl1, hl2⟩ := hlt
    have IH := hide ih
    obtain ⟨R, hR⟩ : ∃ R, R = f.wr := ⟨_, rfl⟩
    have hsz : T = ((o + f.size : Nat) : Int) := hT
    obtain ⟨Z, hZ⟩ : ∃ Z, Z = o + f.size := ⟨_, rfl⟩
    have HR := hide hR
    have HZ := hide hZ
    have HS := hide hs
    rw [← hZ] at hl1 hl2 hT hsz
    rw [← hR]
    subst hF hT
    have hfz : f.size < N + 1 := hf
    clear ih hs hR hsz hZ
    go_enter Tryz.func103, Tryz.ntmps103
    go_wp2
    go_loopw [9, 10] (fun nv iv wr => ∃ (g : Fo) (o' s : Nat), iv = .int .i64 o' ∧ nv = .int .i64 s ∧ Hid (o' + g.size = Z) ∧ o' ≤ Z ∧ Hid (g.size < N + 1) ∧ Hid (Stands l m o' g) ∧ Hid (s + g.wr = R) ∧ s ≤ 65536 ∧ Below w.heap.size w wr) (fun _ iv _ => Z - (intOf iv).toNat)
    case atStart => exact ⟨f, o, 0, rfl, rfl, HZ.out.symm, by have := HZ.out; omega, hfz, HS.out, by have := HR.out; simp [Hid, this], by omega, Below.refl _ _⟩
    case round =>
      obtain ⟨g, o', s, rfl, rfl, hgz, hoz, hgn, hgs, hsr, hs5, hb⟩ := hrel
      cases g with
      | nil =>
        have ez : o' = Z := hgz.out
        have es : s = R := hsr.out
        subst ez es
        go_wp2
        go_ret
        exact ⟨by unfold capW; rw [Nat.min_eq_left (by omega)]; rfl, hb⟩
      | leaf op r =>
        obtain ⟨e1, k1, k2, e2, hsr'⟩ := hgs.out.leaf
        have hgz' := hgz.out
        have hgn' := hgn.out
        have hsw := hsr.out
        rw [Fo.size_leaf] at hgz' hgn'
        simp only [Fo.wr] at hsw
        have hoz' : o' < Z := by omega
        have hol : o' < l.length := by omega
        obtain ⟨b1, off1, x, rfl, hx, x0, x1, x2, x3, x4⟩ := h.getOp hb hol
        obtain rfl : op = x := by have := e1.symm.trans hx.out; simpa using this
        have hk7 : (op.kind == 7) = false := by simp; omega
        have hD := dOf_true k1 k2
        have HA := hide (fun w => Asks_calls op.kind w)
        rw [hD] at HA
        have HSW := hide hsw
        have HGZ := hide hgz'
        have HGN := hide hgn'
        have HST := hide hsr'
        clear e1 hx hsw hgz' hgn' hsr' e2 k1 k2 hD
        obtain ⟨s1, hs1⟩ : ∃ s1, s1 = s + 1 := ⟨_, rfl⟩
        have hsi : (s : Int) + 1 = (s1 : Int) := by omega
        have HS1 := hide hs1
        have hsb : s1 ≤ 65537 := by omega
        clear hs1
        by_cases h6 : s1 ≤ 65536
        · go_wp2_with (first | (go_at_call 143; ((with_reducible refine (HA.out _).mono ?_); rintro e w1 ⟨rfl, hb1⟩)) | (refine wpList_idx _ _ rfl rfl true (aOf op.kind) (bOf op.kind) (vOf op.kind) rfl rfl ?_))
          go_roundw
          case rel => exact ⟨r, o' + 1, s1, by go_num, rfl, by have := HGZ.out; show o' + 1 + r.size = Z; omega, by omega, by have := HGN.out; show r.size < N + 1; omega, HST.out, by have := HSW.out; have := HS1.out; show s1 + r.wr = R; omega, h6, hb.trans (hb1.mono hb.size)⟩
          case measure => simp [intOf]; omega
        · go_wp2_with (first | (go_at_call 143; ((with_reducible refine (HA.out _).mono ?_); rintro e w1 ⟨rfl, hb1⟩)) | (refine wpList_idx _ _ rfl rfl true (aOf op.kind) (bOf op.kind) (vOf op.kind) rfl rfl ?_))
          go_ret
          exact ⟨by have := HSW.out; have := HS1.out; unfold capW; rw [Nat.min_eq_right (by omega)]; rfl, hb.trans (hb1.mono hb.size)⟩
      | rep op b fin r =>
        obtain ⟨e1, k7, e3, e4, e5, e6, hsb, hsr'⟩ := hgs.out.rep
        have hgz' := hgz.out
        have hgn' := hgn.out
        have hsw := hsr.out
        rw [Fo.size_rep] at hgz' hgn'
        simp only [Fo.wr] at hsw
        have hoz' : o' < Z := by omega
        have hol : o' < l.length := by omega
        have hom : o' < m.length := by omega
        have HB := hide (Block9_of o' op fin b r wr (h.below hb (Nat.le_refl _)) (hm.below hb (Nat.le_refl _)) hl hgs.out (IH.out b (by omega)) (c := c) (cm := cm))
        obtain ⟨b1, off1, x, rfl, hx, x0, x1, x2, x3, x4⟩ := h.getOp hb hol
        obtain rfl : op = x := by have := e1.symm.trans hx.out; simpa using this
        obtain ⟨b2, off2, y, rfl, hy, y0⟩ := hm.getI hb hom
        obtain ⟨E, hE⟩ : ∃ E : Nat, E = o' + b.size + 1 := ⟨_, rfl⟩
        rw [← hE] at e3
        obtain rfl : y = (E : Int) := by have := hy.out.symm.trans e3; simpa using this
        have hyl := World.block_lt_of_cell? _ _ y0
        have hk7 : (op.kind == 7) = true := by simp [k7]
        obtain ⟨Q, hQ⟩ : ∃ Q : Nat, Q = min (b.wr * op.v.toNat) 65537 := ⟨_, rfl⟩
        have hcq : capW (b.wr * op.v.toNat) = (Q : Int) := by rw [hQ]; rfl
        rw [hcq] at HB
        have HQ := hide hQ
        have hQ2 : Q ≤ 65537 := by omega
        have HSW := hide hsw
        have HGZ := hide hgz'
        have HGN := hide hgn'
        have HST := hide hsr'
        have HE := hide hE
        have hEZ : E < Z := by omega
        clear e1 hx hy hsw hgz' hgn' hsr' e3 e4 e5 e6 k7 hQ hcq hE hsb
        by_cases h6 : s + Q ≤ 65536
        · go_wp2_with (go_at_call 102; ((with_reducible refine (HB.out).mono ?_); rintro e w1 ⟨rfl, hb1⟩; have y0' := (hb1.cell (p := ⟨b2, off2 + o', none⟩) hyl).trans y0))
          go_roundw
          case rel => exact ⟨r, E + 1, s + Q, by go_num, by go_num, by have := HGZ.out; have := HE.out; show E + 1 + r.size = Z; omega, by omega, by have := HGN.out; show r.size < N + 1; omega, by have := HE.out; show Stands l m (E + 1) r; rw [this]; exact HST.out, by have := HSW.out; have := HQ.out; show s + Q + r.wr = R; omega, by omega, hb.trans (hb1.mono hb.size)⟩
          case measure => have := HE.out; simp [intOf]; omega
        · go_wp2_with (go_at_call 102; ((with_reducible refine (HB.out).mono ?_); rintro e w1 ⟨rfl, hb1⟩; have y0' := (hb1.cell (p := ⟨b2, off2 + o', none⟩) hyl).trans y0))
          go_ret
          exact ⟨by have := HSW.out; have := HQ.out; unfold capW; rw [Nat.min_eq_right (by omega)]; rfl, hb.trans (hb1.mono hb.size)⟩
end
end Go.Proofs.YtcamcnahkdiefaaGreat

/- Chapter 9, the document's answers: Writes, Sizes, Rounds. -/
namespace Go.Proofs.YtcamcnahkdiefaaGreat
set_option linter.unusedVariables false
set_option linter.unusedSimpArgs false
open Go.RowKit

/-- What stands at a place of a forest. -/
theorem Stands.at_ {l : List OpD} {m : List Int} (f : Fo) : ∀ {o : Nat}, Stands l m o f → ∀ i, i < f.size → ∃ x, f.flat[i]? = some x ∧ l[o + i]? = some x ∧
    ((x.kind = 7 ∧ ∃ b fin r, Stands l m (o + i) (.rep x b fin r) ∧ f.sizes[i]? = some ((b.wr * x.v.toNat : Nat) : Int) ∧ f.rounds[i]? = some (b.wr : Int)) ∨
     (x.kind = 0 ∧ f.sizes[i]? = some 0 ∧ f.rounds[i]? = some 0) ∨ (1 ≤ x.kind ∧ x.kind ≤ 6 ∧ f.sizes[i]? = some 1 ∧ f.rounds[i]? = some 0)) := by
  induction f with
  | nil => intro o h i hi; simp [Fo.size, Fo.flat] at hi
  | leaf op r ih =>
    intro o h i hi
    obtain ⟨e1, k1, k2, e2, hr⟩ := h.leaf
    rw [Fo.size_leaf] at hi
    cases i with
    | zero => exact ⟨op, rfl, e1, .inr (.inr ⟨k1, k2, rfl, rfl⟩)⟩
    | succ i =>
      obtain ⟨x, g1, g2, g3⟩ := ih hr i (by omega)
      rw [show o + 1 + i = o + (i + 1) by omega] at g2 g3
      exact ⟨x, by simpa [Fo.flat] using g1, g2, by simpa [Fo.sizes, Fo.rounds] using g3⟩
  | rep op b fin r ihb ihr =>
    intro o h i hi
    obtain ⟨e1, k7, e3, e4, k0, e6, hb, hr⟩ := h.rep
    rw [Fo.size_rep] at hi
    have hbs : b.flat.length = b.size := rfl
    cases i with
    | zero => exact ⟨op, rfl, e1, .inl ⟨k7, b, fin, r, h, rfl, rfl⟩⟩
    | succ i =>
      by_cases h1 : i < b.size
      · obtain ⟨x, g1, g2, g3⟩ := ihb hb i h1
        rw [show o + 1 + i = o + (i + 1) by omega] at g2 g3
        refine ⟨x, by simp only [Fo.flat, List.getElem?_cons_succ]; rw [List.getElem?_append_left (by omega)]; exact g1, g2, ?_⟩
        simp only [Fo.sizes, Fo.rounds, List.getElem?_cons_succ]
        rw [List.getElem?_append_left (by rw [Fo.sizes_length]; omega), List.getElem?_append_left (by rw [Fo.rounds_length]; omega)]
        exact g3
      · by_cases h2 : i = b.size
        · subst h2
          refine ⟨fin, by simp only [Fo.flat, List.getElem?_cons_succ]; rw [List.getElem?_append_right (by omega)]; simp [hbs], by rw [show o + (b.size + 1) = o + b.size + 1 by omega]; exact e4, .inr (.inl ⟨k0, ?_, ?_⟩)⟩
          · simp only [Fo.sizes, List.getElem?_cons_succ]
            rw [List.getElem?_append_right (by rw [Fo.sizes_length]; omega), Fo.sizes_length]; simp
          · simp only [Fo.rounds, List.getElem?_cons_succ]
            rw [List.getElem?_append_right (by rw [Fo.rounds_length]; omega), Fo.rounds_length]; simp
        · obtain ⟨i', hi'⟩ : ∃ i', i - b.size = i' + 1 := ⟨i - b.size - 1, by omega⟩
          obtain ⟨x, g1, g2, g3⟩ := ihr hr i' (by omega)
          rw [show o + b.size + 2 + i' = o + (i + 1) by omega] at g2 g3
          refine ⟨x, by simp only [Fo.flat, List.getElem?_cons_succ]; rw [List.getElem?_append_right (by omega), hbs, hi']; simpa using g1, g2, ?_⟩
          simp only [Fo.sizes, Fo.rounds, List.getElem?_cons_succ]
          rw [List.getElem?_append_right (by rw [Fo.sizes_length]; omega), List.getElem?_append_right (by rw [Fo.rounds_length]; omega), Fo.sizes_length, Fo.rounds_length, hi']
          simpa using g3
/-- Two blocks that begin at one place are one. -/
theorem Stands.one {l : List OpD} {m : List Int} {o : Nat} {op op' fin fin' : OpD} {b b' r r' : Fo} (h : Stands l m o (.rep op b fin r)) (h' : Stands l m o (.rep op' b' fin' r')) : op = op' ∧ b = b' := by
  obtain ⟨pre, post, e, hp⟩ := h.ops
  obtain ⟨pre', post', e', hp'⟩ := h'.ops
  have k := h.ok
  have k' := h'.ok
  rw [e] at e'
  simp only [Fo.flat, List.append_assoc, List.cons_append] at e'
  obtain ⟨e1, e2⟩ := List.append_inj e' (by omega)
  injection e2 with e2 e3
  exact ⟨e2, (Fo.flat_inj b k.2.1 b' k'.2.1 _ _ _ _ k.2.2.1 k'.2.2.1 e3).1⟩
theorem may_stands {l : List OpD} {m : List Int} (f : Fo) : ∀ {o : Nat}, Stands l m o f → (f.may = true ↔ ∀ i op b fin r, o ≤ i → i < o + f.size → Stands l m i (.rep op b fin r) → b.wr ≤ 65536 ∧ b.wr * op.v.toNat ≤ 65536) := by
  induction f with
  | nil => intro o h; simp [Fo.may, Fo.size, Fo.flat]; intro i op b fin r h1 h2; omega
  | leaf op r ih =>
    intro o h
    obtain ⟨e1, k1, k2, e2, hr⟩ := h.leaf
    rw [Fo.may, ih hr, Fo.size_leaf]
    constructor
    · intro H i op' b fin r' h1 h2 hs
      by_cases hi : i = o
      · subst hi
        have := hs.rep
        rw [e1] at this
        injection this.1 with e
        subst e
        omega
      · exact H i op' b fin r' (by omega) (by omega) hs
    · intro H i op' b fin r' h1 h2 hs
      exact H i op' b fin r' (by omega) (by omega) hs
  | rep op b fin r ihb ihr =>
    intro o h
    obtain ⟨e1, k7, e3, e4, k0, e6, hb, hr⟩ := h.rep
    simp only [Fo.may, Bool.and_eq_true, decide_eq_true_eq]
    rw [ihb hb, ihr hr, Fo.size_rep]
    constructor
    · rintro ⟨⟨⟨H1, H2⟩, H3⟩, H4⟩ i op' b' fin' r' h1 h2 hs
      by_cases hi : i = o
      · subst hi
        obtain ⟨rfl, rfl⟩ := h.one hs
        exact ⟨H2, H3⟩
      · by_cases h3 : i < o + 1 + b.size
        · exact H1 i op' b' fin' r' (by omega) h3 hs
        · by_cases h4 : i = o + b.size + 1
          · subst h4
            have := hs.rep
            rw [e4] at this
            injection this.1 with e
            subst e
            omega
          · exact H4 i op' b' fin' r' (by omega) (by omega) hs
    · intro H
      obtain ⟨H2, H3⟩ := H o op b fin r (by omega) (by omega) h
      exact ⟨⟨⟨fun i op' b' fin' r' h1 h2 hs => H i op' b' fin' r' (by omega) (by omega) hs, H2⟩, H3⟩, fun i op' b' fin' r' h1 h2 hs => H i op' b' fin' r' (by omega) (by omega) hs⟩

/-- what is told of a forest's size -/
theorem sizeE_flat {f : Fo} (hf : f.ok) : sizeE f.flat = if f.may = true ∧ f.wr ≤ 65536 then 0 else 9 := by
  unfold sizeE
  rw [if_pos (well_of_flat f hf), measL_flat f hf]
  by_cases h : f.may = true ∧ f.wr ≤ 65536
  · rw [if_pos h, if_pos h]; rfl
  · rw [if_neg h, if_neg h]; rfl
theorem sizes_flat {f : Fo} (hf : f.ok) : sizeW f.flat = (if f.may = true ∧ f.wr ≤ 65536 then (f.wr : Int) else 0) ∧ sizeZ f.flat = (if f.may = true ∧ f.wr ≤ 65536 then f.sizes else []) ∧ sizeR f.flat = (if f.may = true ∧ f.wr ≤ 65536 then f.rounds else []) := by
  unfold sizeW sizeZ sizeR measO
  rw [if_pos (well_of_flat f hf), measL_flat f hf]
  by_cases h : f.may = true ∧ f.wr ≤ 65536
  · rw [if_pos h, if_pos h, if_pos h, if_pos h]; exact ⟨rfl, rfl, rfl⟩
  · rw [if_neg h, if_neg h, if_neg h, if_neg h]; exact ⟨rfl, rfl, rfl⟩
theorem size_bad {l : List OpD} (h : well l = false) : sizeE l = 6 ∧ sizeW l = 0 ∧ sizeZ l = [] ∧ sizeR l = [] := by
  unfold sizeE sizeW sizeZ sizeR measO
  simp [h]
end Go.Proofs.YtcamcnahkdiefaaGreat

/- Chapter 9, the document's answers: Writes, Sizes, Rounds, walked. -/
namespace Go.Proofs.YtcamcnahkdiefaaGreat
set_option linter.unusedVariables false
set_option linter.unusedSimpArgs false
open Go.RowKit

section
variable {a am : Option Addr} {c cm : Nat} {l : List OpD}
theorem within_m (hl : l.length ≤ 1000000) (b : Fo) (o : Nat) (F T : Int) (w : World) (hF : F = (o : Int)) (hT : T = ((o + b.size : Nat) : Int)) (h : At w a l) (hm : At w am (matchL l)) (hs : Stands l (matchL l) o b) :
    Calls Tryz.prog 103 #[.slice a l.length c, .slice am l.length cm, .int .i64 F, .int .i64 T] w fun e w' => e = .returned (.int .i64 (capW b.wr)) ∧ Below w.heap.size w w' := by
  have := within9_all (a := a) (am := am) (c := c) (cm := cm) (l := l) (m := matchL l) hl (b.size + 1) b (by omega) o F T w hF hT h hm hs
  rwa [matchL_length] at this
theorem block_m (hl : l.length ≤ 1000000) (o : Nat) (op fin : OpD) (b r : Fo) (w : World) (h : At w a l) (hm : At w am (matchL l)) (hs : Stands l (matchL l) o (.rep op b fin r)) :
    Calls Tryz.prog 102 #[.slice a l.length c, .slice am l.length cm, .int .i64 (o : Int)] w fun e w' => e = .returned (.int .i64 (capW (b.wr * op.v.toNat))) ∧ Below w.heap.size w w' := by
  have := Block9_of (c := c) (cm := cm) o op fin b r w h hm hl hs (within9_all hl (b.size + 1) b (by omega))
  rwa [matchL_length] at this
end
theorem capW_le {n : Nat} (h : n ≤ 65536) : capW n = (n : Int) := by unfold capW; rw [Nat.min_eq_left (by omega)]
theorem capW_gt {n : Nat} (h : ¬ n ≤ 65536) : capW n = 65537 := by unfold capW; rw [Nat.min_eq_right (by omega)]; rfl

/-- Two facts on a place of well nested operations. -/
theorem place9 {f : Fo} (hf : f.ok) {k : Nat} {x : OpD} (hx : f.flat[k]? = some x) :
    (x.kind = 7 ∧ ∃ b fin r, Stands f.flat (matchL f.flat) k (.rep x b fin r) ∧ f.sizes[k]? = some ((b.wr * x.v.toNat : Nat) : Int) ∧ f.rounds[k]? = some (b.wr : Int) ∧ (matchL f.flat)[k]? = some ((k + 1 + b.size : Nat) : Int)) ∨
     (x.kind = 0 ∧ f.sizes[k]? = some 0 ∧ f.rounds[k]? = some 0) ∨ (1 ≤ x.kind ∧ x.kind ≤ 6 ∧ f.sizes[k]? = some 1 ∧ f.rounds[k]? = some 0) := by
  have hk : k < f.size := (List.getElem?_eq_some_iff.1 hx).1
  obtain ⟨y, h1, h2, h3⟩ := Stands.at_ f (Stands.whole hf) k hk
  obtain rfl : x = y := by have := hx.symm.trans h1; simpa using this
  rw [Nat.zero_add] at h3
  rcases h3 with ⟨h7, b, fin, r, hs, e1, e2⟩ | h3 | h3
  · refine .inl ⟨h7, b, fin, r, hs, e1, e2, ?_⟩
    have := hs.rep.2.2.1
    rw [this]
    congr 2
    omega
  · exact .inr (.inl h3)
  · exact .inr (.inr h3)
theorem may_all {f : Fo} (hf : f.ok) (h : f.may = true) {k : Nat} {op fin : OpD} {b r : Fo} (hs : Stands f.flat (matchL f.flat) k (.rep op b fin r)) : b.wr ≤ 65536 ∧ b.wr * op.v.toNat ≤ 65536 := by
  have h1 := (may_stands f (Stands.whole hf)).1 h k op b fin r (by omega) ?_ hs
  · exact h1
  · have := hs.lt.1
    rw [Fo.size_rep] at this
    simp only [Fo.size] at *
    omega
theorem may_of_all {f : Fo} (hf : f.ok) (h : ∀ k op b fin r, k < f.flat.length → Stands f.flat (matchL f.flat) k (.rep op b fin r) → b.wr ≤ 65536 ∧ b.wr * op.v.toNat ≤ 65536) : f.may = true :=
  (may_stands f (Stands.whole hf)).2 fun i op b fin r _ h2 hs => h i op b fin r (by simp only [Fo.size] at h2; omega) hs
theorem Stands.same {l : List OpD} {m : List Int} {o : Nat} {op x : OpD} {b fin r} (h : Stands l m o (.rep op b fin r)) (hx : l[o]? = some x) : op = x := by
  have := h.rep.1.symm.trans hx; simpa using this

set_option maxRecDepth 100000 in
set_option maxHeartbeats 1600000 in
theorem Writes9_calls (a : Option Addr) (c : Nat) (l : List OpD) (w : World) (h : At w a l) (hl : l.length ≤ 1000000) :
    Calls Tryz.prog 51 #[.slice a l.length c] w fun e w' => e = .returned (.tuple #[.int .i64 (sizeW l), .int .i64 (sizeE l)]) ∧ Below w.heap.size w w' := by
  cases hw : well l with
  | false =>
    obtain ⟨e1, e2, _⟩ := size_bad hw
    rw [e1, e2]
    have HW := hide hw
    clear e1 e2 hw
    go_enter Tryz.func51, Tryz.ntmps51
    go_wp2_with (go_at_call 89; refine (Match8N a c l _ h hl HW.out).mono ?_; rintro e w1 ⟨a1, c1, rfl, hbel1⟩)
    go_ret2
    exact ⟨rfl, hbel1⟩
  | true =>
    obtain ⟨f, hf, rfl⟩ := forest_of_well l hw
    obtain ⟨W, hW⟩ : ∃ W, W = sizeW f.flat := ⟨_, rfl⟩
    obtain ⟨E, hE⟩ : ∃ E, E = sizeE f.flat := ⟨_, rfl⟩
    have hbad : ¬ (f.may = true ∧ f.wr ≤ 65536) → W = 0 ∧ E = 9 := by intro hn; rw [hW, hE, sizeE_flat hf, (sizes_flat hf).1, if_neg hn, if_neg hn]; exact ⟨rfl, rfl⟩
    have hgood : f.may = true ∧ f.wr ≤ 65536 → W = f.wr ∧ E = 0 := by intro hn; rw [hW, hE, sizeE_flat hf, (sizes_flat hf).1, if_pos hn, if_pos hn]; exact ⟨rfl, rfl⟩
    rw [← hW, ← hE]
    have HBAD := hide hbad
    have HGOOD := hide hgood
    have HW := hide hw
    clear hW hE hbad hgood hw
    go_enter Tryz.func51, Tryz.ntmps51
    go_wp2_with (go_at_call 89; refine (Match8W a c f.flat _ h hl HW.out).mono ?_; rintro e w1 ⟨am, cm, rfl, hown1, hbel1⟩; have hat1 := hown1.at_; have hz1 := hbel1.size)
    have hl1 := h.belowN hbel1
    go_loopw [6] (fun i wr => ∃ k : Nat, i = .int .i64 k ∧ k ≤ f.flat.length ∧ Hid (∀ j op b fin r, j < k → Stands f.flat (matchL f.flat) j (.rep op b fin r) → b.wr ≤ 65536 ∧ b.wr * op.v.toNat ≤ 65536) ∧ Below w1.heap.size w1 wr) (fun i _ => f.flat.length - (intOf i).toNat)
    case atStart => exact ⟨0, rfl, by omega, hide (fun j op b fin r hj => absurd hj (by omega)), Below.refl _ _⟩
    case round =>
      obtain ⟨k, rfl, hk, hall, hbr⟩ := hrel
      have hbw := hbel1.trans (hbr.mono hz1)
      by_cases hlt : k < f.flat.length
      · obtain ⟨b1, off1, x, rfl, hx, x0, x1, x2, x3, x4⟩ := hl1.getOp hbr hlt
        obtain ⟨b2, off2, y, rfl, hy, y0⟩ := hat1.getI hbr (show k < (matchL f.flat).length by rw [matchL_length]; exact hlt)
        have hyl := World.block_lt_of_cell? _ _ y0
        rcases place9 hf hx.out with ⟨h7, b, fin, r, hs, e1, e2, e3⟩ | ⟨h0, _⟩ | ⟨h1, h2, _⟩
        · obtain ⟨Z, hZ⟩ : ∃ Z : Nat, Z = k + 1 + b.size := ⟨_, rfl⟩
          rw [← hZ] at e3
          obtain rfl : y = (Z : Int) := by have := hy.out.symm.trans e3; simpa using this
          have k7 : (x.kind == 7) = true := by simp [h7]
          have HS := hide hs
          have HBL := hide (fun w' (g1 : At w' (some ⟨b1, off1, none⟩) f.flat) (g2 : At w' (some ⟨b2, off2, none⟩) (matchL f.flat)) => block_m (c := c) (cm := cm) hl k x fin b r w' g1 g2 hs)
          have HWI := hide (fun w' (g1 : At w' (some ⟨b1, off1, none⟩) f.flat) (g2 : At w' (some ⟨b2, off2, none⟩) (matchL f.flat)) => within_m (c := c) (cm := cm) hl b (k + 1) ((k : Int) + 1) (Z : Int) w' (by omega) (by omega) g1 g2 hs.rep.2.2.2.2.2.2.1)
          have hlr := hl1.belowN hbr
          have hmr := hat1.belowN hbr
          clear hs e1 e2 e3 hx hy h7 hZ
          by_cases c1 : b.wr * x.v.toNat ≤ 65536
          · rw [capW_le c1] at HBL
            have HC1 := hide c1
            obtain ⟨q, hq⟩ : ∃ q : Nat, q = b.wr * x.v.toNat := ⟨_, rfl⟩
            rw [← hq] at HBL
            have hq6 : q ≤ 65536 := by omega
            clear hq c1
            by_cases c2 : b.wr ≤ 65536
            · rw [capW_le c2] at HWI
              have HC2 := hide c2
              obtain ⟨p, hp⟩ : ∃ p : Nat, p = b.wr := ⟨_, rfl⟩
              rw [← hp] at HWI
              have hp6 : p ≤ 65536 := by omega
              clear hp c2
              go_wp2_with (first
                | (go_at_call 102; ((with_reducible refine (HBL.out _ hlr hmr).mono ?_); rintro e w2 ⟨rfl, hb2⟩; have y0' := (hb2.cell (p := ⟨b2, off2 + k, none⟩) hyl).trans y0; have hlr2 := hlr.belowN hb2; have hmr2 := hmr.belowN hb2))
                | (go_at_call 103; ((with_reducible refine (HWI.out _ hlr2 hmr2).mono ?_); rintro e w3 ⟨rfl, hb3⟩)))
              go_roundw
              case rel =>
                refine ⟨k + 1, by go_num, by omega, hide (fun j op b' fin' r' hj hs' => ?_), hbr.trans ((hb2.trans (hb3.mono hb2.size)).mono hbr.size)⟩
                by_cases hjk : j < k
                · exact hall.out j op b' fin' r' hjk hs'
                · obtain rfl : j = k := by omega
                  obtain ⟨rfl, rfl⟩ := hs'.one HS.out
                  exact ⟨HC2.out, HC1.out⟩
              case measure => simp [intOf]; omega
            · rw [capW_gt c2] at HWI
              have HC2 := hide c2
              clear c2
              go_wp2_with (first
                | (go_at_call 102; ((with_reducible refine (HBL.out _ hlr hmr).mono ?_); rintro e w2 ⟨rfl, hb2⟩; have y0' := (hb2.cell (p := ⟨b2, off2 + k, none⟩) hyl).trans y0; have hlr2 := hlr.belowN hb2; have hmr2 := hmr.belowN hb2))
                | (go_at_call 103; ((with_reducible refine (HWI.out _ hlr2 hmr2).mono ?_); rintro e w3 ⟨rfl, hb3⟩)))
              go_ret2
              obtain ⟨e1, e2⟩ := HBAD.out (fun hn => HC2.out (may_all hf hn.1 HS.out).1)
              exact ⟨by rw [e1, e2] <;> rfl, hbw.trans ((hb2.trans (hb3.mono hb2.size)).mono hbw.size)⟩
          · rw [capW_gt c1] at HBL
            have HC1 := hide c1
            clear c1
            go_wp2_with (first
                | (go_at_call 102; ((with_reducible refine (HBL.out _ hlr hmr).mono ?_); rintro e w2 ⟨rfl, hb2⟩)))
            go_ret2
            obtain ⟨e1, e2⟩ := HBAD.out (fun hn => HC1.out (may_all hf hn.1 HS.out).2)
            exact ⟨by rw [e1, e2] <;> rfl, hbw.trans (hb2.mono hbw.size)⟩
        all_goals
          have k7 : (x.kind == 7) = false := by simp; omega
          have HX := hide hx.out
          have H7 : Hid (x.kind ≠ 7) := by show x.kind ≠ 7; omega
          clear hx
          go_wp2
          go_roundw
          case rel =>
            refine ⟨k + 1, by go_num, by omega, hide (fun j op b' fin' r' hj hs' => ?_), hbr⟩
            by_cases hjk : j < k
            · exact hall.out j op b' fin' r' hjk hs'
            · obtain rfl : j = k := by omega
              exact absurd (by rw [← hs'.same HX.out]; exact hs'.rep.2.1) H7.out
          case measure => simp [intOf]; omega
      · obtain rfl : k = f.flat.length := by omega
        have hmay : f.may = true := may_of_all hf (fun j op b fin r hj hs => hall.out j op b fin r hj hs)
        have HWI := hide (fun w' (g1 : At w' a f.flat) (g2 : At w' am (matchL f.flat)) => within_m (c := c) (cm := cm) hl f 0 0 (f.flat.length : Int) w' rfl (by simp [Fo.size]) g1 g2 (Stands.whole hf))
        have hlr := hl1.belowN hbr
        have hmr := hat1.belowN hbr
        have HM := hide hmay
        clear hmay
        by_cases c2 : f.wr ≤ 65536
        · rw [capW_le c2] at HWI
          have HG := hide (HGOOD.out ⟨HM.out, c2⟩)
          obtain ⟨p, hp⟩ : ∃ p : Nat, p = f.wr := ⟨_, rfl⟩
          rw [← hp] at HWI HG
          have hp6 : p ≤ 65536 := by omega
          clear hp c2
          go_wp2_with (go_at_call 103; ((with_reducible refine (HWI.out _ hlr hmr).mono ?_); rintro e w3 ⟨rfl, hb3⟩))
          go_ret2
          exact ⟨by rw [HG.out.1, HG.out.2] <;> rfl, hbw.trans (hb3.mono hbw.size)⟩
        · rw [capW_gt c2] at HWI
          have HG := hide (HBAD.out (fun hn => c2 hn.2))
          clear c2
          go_wp2_with (go_at_call 103; ((with_reducible refine (HWI.out _ hlr hmr).mono ?_); rintro e w3 ⟨rfl, hb3⟩))
          go_ret2
          exact ⟨by rw [HG.out.1, HG.out.2] <;> rfl, hbw.trans (hb3.mono hbw.size)⟩

/-- what Writes tells, when sizes may be -/
theorem W9_ok {f : Fo} (hf : f.ok) (h : f.may = true ∧ f.wr ≤ 65536) : sizeE f.flat = 0 ∧ sizeW f.flat = f.wr ∧ sizeZ f.flat = f.sizes ∧ sizeR f.flat = f.rounds := by
  rw [sizeE_flat hf, (sizes_flat hf).1, (sizes_flat hf).2.1, (sizes_flat hf).2.2, if_pos h, if_pos h, if_pos h, if_pos h]; exact ⟨rfl, rfl, rfl, rfl⟩
theorem W9_no {f : Fo} (hf : f.ok) (h : ¬ (f.may = true ∧ f.wr ≤ 65536)) : sizeE f.flat = 9 ∧ sizeW f.flat = 0 ∧ sizeZ f.flat = [] ∧ sizeR f.flat = [] := by
  rw [sizeE_flat hf, (sizes_flat hf).1, (sizes_flat hf).2.1, (sizes_flat hf).2.2, if_neg h, if_neg h, if_neg h, if_neg h]; exact ⟨rfl, rfl, rfl, rfl⟩
theorem take_snoc {α : Type} {l : List α} {k : Nat} {x : α} (h : l[k]? = some x) : l.take k ++ [x] = l.take (k + 1) := by rw [List.take_add_one, h]; rfl
def List9Post (L : List Int) (E : Int) (w : World) (e : Ending) (w' : World) : Prop :=
  ∃ a c, e = .returned (.tuple #[.slice a L.length c, .int .i64 E]) ∧ Own w' w.heap.size 3 a c L ∧ Below w.heap.size w w'

set_option maxRecDepth 100000 in
set_option maxHeartbeats 1600000 in
theorem Sizes9_calls (a : Option Addr) (c : Nat) (l : List OpD) (w : World) (h : At w a l) (hl : l.length ≤ 1000000) :
    Calls Tryz.prog 130 #[.slice a l.length c] w (List9Post (sizeZ l) (sizeE l) w) := by
  have HWR := hide (fun w' (g : At w' a l) => Writes9_calls a c l w' g hl)
  cases hw : well l with
  | false =>
    obtain ⟨e1, e2, e3, e4⟩ := size_bad hw
    rw [e1, e2] at HWR
    have HE := hide (e3 : sizeZ l = [])
    rw [e1]
    clear e1 e2 e3 e4 hw
    go_enter Tryz.func130, Tryz.ntmps130
    go_wp2_with (go_at_call 51; ((with_reducible refine (HWR.out _ h).mono ?_); rintro e w1 ⟨rfl, hb⟩))
    go_ret2
    unfold List9Post
    rw [HE.out]
    exact ⟨none, 0, rfl, Own.none _ _ _, hb⟩
  | true =>
    obtain ⟨f, hf, rfl⟩ := forest_of_well l hw
    have HW := hide hw
    clear hw
    by_cases hg : f.may = true ∧ f.wr ≤ 65536
    case neg =>
      obtain ⟨e1, e2, e3, e4⟩ := W9_no hf hg
      rw [e1, e2] at HWR
      have HE := hide (e3 : sizeZ f.flat = [])
      rw [e1]
      clear e1 e2 e3 e4 hg
      go_enter Tryz.func130, Tryz.ntmps130
      go_wp2_with (go_at_call 51; ((with_reducible refine (HWR.out _ h).mono ?_); rintro e w1 ⟨rfl, hb⟩))
      go_ret2
      unfold List9Post
      rw [HE.out]
      exact ⟨none, 0, rfl, Own.none _ _ _, hb⟩
    case pos =>
      obtain ⟨e1, e2, e3, e4⟩ := W9_ok hf hg
      rw [e1, e2] at HWR
      have HE := hide (e3 : sizeZ f.flat = f.sizes)
      rw [e1]
      have HG := hide hg
      obtain ⟨wz, hwz⟩ : ∃ z : Int, z = (f.wr : Int) := ⟨_, rfl⟩
      rw [← hwz] at HWR
      clear e1 e2 e3 e4 hg hwz
      go_enter Tryz.func130, Tryz.ntmps130
      go_wp2_with (first
        | (go_at_call 51; ((with_reducible refine (HWR.out _ h).mono ?_); rintro e w0 ⟨rfl, hb0⟩; have hz0 := hb0.size))
        | (go_at_call 89; refine (Match8W a c f.flat _ (h.belowN hb0) hl HW.out).mono ?_; rintro e w1 ⟨am, cm, rfl, hown1, hb1⟩; have hat1 := hown1.at_; have hbel1 := hb0.trans (hb1.mono hz0); have hz1 := hbel1.size))
      have hl1 := h.belowN hbel1
      go_loopw [8, 9] (fun out i wr => ∃ (k : Nat) (ao : Option Addr) (co : Nat), i = .int .i64 k ∧ out = .slice ao k co ∧ k ≤ f.flat.length ∧ Own wr w1.heap.size 3 ao co (f.sizes.take k) ∧ Below w1.heap.size w1 wr) (fun _ i _ => f.flat.length - (intOf i).toNat)
      case atStart => exact ⟨0, _, 0, rfl, rfl, by omega, by simpa using Own.new w1 (Nat.le_refl _) _ Int, Below.alloc (Below.refl _ _) (Nat.le_refl _) _⟩
      case round =>
        obtain ⟨k, ao, co, rfl, rfl, hk, hown, hbr⟩ := hrel
        have hzr := hbr.size
        have hflen : f.sizes.length = f.flat.length := Fo.sizes_length f
        have hlen : (f.sizes.take k).length = k := by simp; omega
        have HLEN := hide hlen
        have HFL := hide hflen
        clear hlen hflen
        by_cases hlt : k < f.flat.length
        · obtain ⟨b1, off1, x, rfl, hx, x0, x1, x2, x3, x4⟩ := hl1.getOp hbr hlt
          obtain ⟨b2, off2, y, rfl, hy, y0⟩ := hat1.getI hbr (show k < (matchL f.flat).length by rw [matchL_length]; exact hlt)
          rcases place9 hf hx.out with ⟨h7, b, fin, r, hs, e1, e2, e3⟩ | ⟨h0, e1, e2⟩ | ⟨h1, h2, e1, e2⟩
          · have hmm := may_all hf HG.out.1 hs
            obtain ⟨Z, hZ⟩ : ∃ Z : Nat, Z = k + 1 + b.size := ⟨_, rfl⟩
            rw [← hZ] at e3
            obtain rfl : y = (Z : Int) := by have := hy.out.symm.trans e3; simpa using this
            have k7 : (x.kind == 7) = true := by simp [h7]
            have HBL := hide (fun w' (g1 : At w' (some ⟨b1, off1, none⟩) f.flat) (g2 : At w' (some ⟨b2, off2, none⟩) (matchL f.flat)) => block_m (c := c) (cm := cm) hl k x fin b r w' g1 g2 hs)
            have hlr := hl1.belowN hbr
            have hmr := hat1.belowN hbr
            rw [capW_le hmm.2] at HBL
            have ht := take_snoc e1
            obtain ⟨q, hq⟩ : ∃ q : Int, q = (((b.wr * x.v.toNat : Nat) : Nat) : Int) := ⟨_, rfl⟩
            rw [← hq] at HBL ht
            have HT := hide ht
            clear hs e1 e2 e3 hx hy h7 hZ ht hmm hq
            go_wp2_with (first
              | (go_at_call 102; ((with_reducible refine (HBL.out _ hlr hmr).mono ?_); rintro e w2 ⟨rfl, hb2⟩; have hown2 := hown.belowN hb2; have hbr2 := hbr.trans (hb2.mono hzr); have hz2 := hbr2.size))
              | (at_builtin; refine wpList_push tyI hown2 q rfl rfl rfl rfl rfl rfl HLEN.out.symm hz2 (by omega) ?_; intro a3 c3 w3 hown3 hg3 _))
            rw [HT.out] at hown3
            go_roundw
            case rel => exact ⟨k + 1, a3, c3, by go_num, by simp, by omega, hown3, below_push hbr2 hown2 hg3 hz2⟩
            case measure => simp [intOf]; omega
          ·
            have k7 : (x.kind == 7) = false := by simp; omega
            have ht := take_snoc (l := f.sizes) (k := k) e1
            have HT := hide ht
            have HA := hide (fun w => Asks_calls x.kind w)
            rw [dOf_false (.inl h0)] at HA
            clear e1 e2 hx hy ht h0
            go_wp2_with (first
              | (go_at_call 143; ((with_reducible refine (HA.out _).mono ?_); rintro e w2 ⟨rfl, hb2⟩; have hown2 := hown.belowN hb2; have hbr2 := hbr.trans (hb2.mono hzr); have hz2 := hbr2.size))
              | (refine wpList_idx _ _ rfl rfl false (aOf x.kind) (bOf x.kind) (vOf x.kind) rfl rfl ?_)
              | (at_builtin; refine wpList_push tyI hown2 0 rfl rfl rfl rfl rfl rfl HLEN.out.symm hz2 (by omega) ?_; intro a3 c3 w3 hown3 hg3 _))
            rw [HT.out] at hown3
            go_roundw
            case rel => exact ⟨k + 1, a3, c3, by go_num, by simp, by omega, hown3, below_push hbr2 hown2 hg3 hz2⟩
            case measure => simp [intOf]; omega
          ·
            have k7 : (x.kind == 7) = false := by simp; omega
            have ht := take_snoc (l := f.sizes) (k := k) e1
            have HT := hide ht
            have HA := hide (fun w => Asks_calls x.kind w)
            rw [dOf_true h1 h2] at HA
            clear e1 e2 hx hy ht h1 h2
            go_wp2_with (first
              | (go_at_call 143; ((with_reducible refine (HA.out _).mono ?_); rintro e w2 ⟨rfl, hb2⟩; have hown2 := hown.belowN hb2; have hbr2 := hbr.trans (hb2.mono hzr); have hz2 := hbr2.size))
              | (refine wpList_idx _ _ rfl rfl true (aOf x.kind) (bOf x.kind) (vOf x.kind) rfl rfl ?_)
              | (at_builtin; refine wpList_push tyI hown2 1 rfl rfl rfl rfl rfl rfl HLEN.out.symm hz2 (by omega) ?_; intro a3 c3 w3 hown3 hg3 _))
            rw [HT.out] at hown3
            go_roundw
            case rel => exact ⟨k + 1, a3, c3, by go_num, by simp, by omega, hown3, below_push hbr2 hown2 hg3 hz2⟩
            case measure => simp [intOf]; omega
        · obtain rfl : k = f.flat.length := by omega
          have hlast : f.sizes.take f.flat.length = f.sizes := by rw [← HFL.out, List.take_length]
          rw [hlast] at hown
          clear hlast
          go_wp2
          go_ret2
          unfold List9Post
          rw [HE.out]
          exact ⟨ao, co, by rw [HFL.out]; rfl, hown.mono hz1, hbel1.trans (hbr.mono hz1)⟩

end Go.Proofs.YtcamcnahkdiefaaGreat
