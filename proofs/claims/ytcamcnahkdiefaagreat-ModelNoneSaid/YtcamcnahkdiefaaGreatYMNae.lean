/- Several texts of mine in one file. -/
import Derived.Test.YtcamcnahkdiefaaGreatYMNad
import Derived.Laws.EntriesVeiled
/- Several texts of mine in one file: R9a, R9b, R9c. -/
/- Chapter 9, the document's answers: what stands from a place up to another one; blocks. -/
namespace Go.Proofs.YtcamcnahkdiefaaGreat
set_option linter.unusedVariables false
set_option linter.unusedSimpArgs false
open Go.RowKit

theorem min_mul (a v : Nat) : (if min a 65537 = 0 ∨ v = 0 then 0 else if 65536 < v then 65537 else if 65536 < min a 65537 * v then 65537 else min a 65537 * v) = min (a * v) 65537 := by
  by_cases h0 : a = 0
  · subst h0; simp
  · by_cases hv : v = 0
    · subst hv; simp
    · rw [if_neg (by omega)]
      have h1 : v ≤ a * v := Nat.le_mul_of_pos_left _ (by omega)
      by_cases h2 : 65536 < v
      · rw [if_pos h2]; omega
      · rw [if_neg h2]
        by_cases h3 : a ≤ 65537
        · rw [Nat.min_eq_left h3]
          split <;> omega
        · have h4 : a ≤ a * v := Nat.le_mul_of_pos_right _ (by omega)
          rw [Nat.min_eq_right (by omega : 65537 ≤ a)]
          have : 65537 ≤ 65537 * v := Nat.le_mul_of_pos_right _ (by omega)
          split <;> omega

def capW (n : Nat) : Int := ((min n 65537 : Nat) : Int)

structure Stands (l : List OpD) (m : List Int) (o : Nat) (f : Fo) : Prop where
  ok : f.ok
  ops : ∃ pre post, l = pre ++ f.flat ++ post ∧ pre.length = o
  mt : ∃ pre post, m = pre ++ mtT o f ++ post ∧ pre.length = o
theorem Stands.lt {l : List OpD} {m : List Int} {o : Nat} {f : Fo} (h : Stands l m o f) : o + f.size ≤ l.length ∧ o + f.size ≤ m.length := by
  obtain ⟨pre, post, e, hp⟩ := h.ops
  obtain ⟨pm, qm, e2, hp2⟩ := h.mt
  subst e e2
  simp [mtT_length, Fo.size]
  omega
theorem Stands.leaf {l : List OpD} {m : List Int} {o : Nat} {op : OpD} {r : Fo} (h : Stands l m o (.leaf op r)) : l[o]? = some op ∧ 1 ≤ op.kind ∧ op.kind ≤ 6 ∧ m[o]? = some (-1) ∧ Stands l m (o + 1) r := by
  obtain ⟨ok, ⟨pre, post, e, hp⟩, ⟨pm, qm, e2, hp2⟩⟩ := h
  refine ⟨?_, ok.1, ok.2.1, ?_, ok.2.2, ⟨pre ++ [op], post, by rw [e]; simp [Fo.flat], by simp [hp]⟩, ⟨pm ++ [-1], qm, by rw [e2]; simp [mtT], by simp [hp2]⟩⟩
  · subst hp; rw [e]; simp [Fo.flat]
  · subst hp2; rw [e2]; simp [mtT]
theorem Stands.rep {l : List OpD} {m : List Int} {o : Nat} {op fin : OpD} {b r : Fo} (h : Stands l m o (.rep op b fin r)) :
    l[o]? = some op ∧ op.kind = 7 ∧ m[o]? = some ((o + b.size + 1 : Nat) : Int) ∧ l[o + b.size + 1]? = some fin ∧ fin.kind = 0 ∧ m[o + b.size + 1]? = some (o : Int) ∧ Stands l m (o + 1) b ∧ Stands l m (o + b.size + 2) r := by
  obtain ⟨ok, ⟨pre, post, e, hp⟩, ⟨pm, qm, e2, hp2⟩⟩ := h
  obtain ⟨k1, k2, k3, k4⟩ := ok
  have e' : l = (pre ++ op :: b.flat) ++ fin :: (r.flat ++ post) := by rw [e]; simp [Fo.flat]
  have e2' : m = (pm ++ ((o + b.size + 1 : Nat) : Int) :: mtT (o + 1) b) ++ (o : Int) :: (mtT (o + b.size + 2) r ++ qm) := by rw [e2]; simp [mtT]
  have hb : b.flat.length = b.size := rfl
  refine ⟨?_, k1, ?_, ?_, k3, ?_, ⟨k2, ⟨pre ++ [op], fin :: (r.flat ++ post), by rw [e']; simp, by simp [hp]⟩, ⟨pm ++ [((o + b.size + 1 : Nat) : Int)], (o : Int) :: (mtT (o + b.size + 2) r ++ qm), by rw [e2']; simp, by simp [hp2]⟩⟩, ⟨k4, ⟨pre ++ op :: (b.flat ++ [fin]), post, by rw [e']; simp, by simp [hp]; omega⟩, ⟨pm ++ ((o + b.size + 1 : Nat) : Int) :: (mtT (o + 1) b ++ [(o : Int)]), qm, by rw [e2']; simp, by simp [hp2, mtT_length]; omega⟩⟩⟩
  · subst hp; rw [e]; simp [Fo.flat]
  · subst hp2; rw [e2]; simp [mtT]
  · rw [e', List.getElem?_append_right (by simp; omega)]
    simp only [List.length_append, List.length_cons]
    rw [show o + b.size + 1 - (pre.length + (b.flat.length + 1)) = 0 by omega]
    rfl
  · rw [e2', List.getElem?_append_right (by simp [mtT_length]; omega)]
    simp only [List.length_append, List.length_cons, mtT_length]
    rw [show o + b.size + 1 - (pm.length + (b.size + 1)) = 0 by omega]
    rfl
theorem Stands.whole {f : Fo} (hf : f.ok) : Stands f.flat (matchL f.flat) 0 f :=
  ⟨hf, ⟨[], [], by simp, rfl⟩, ⟨[], [], by rw [matchL_flat f hf]; simp, rfl⟩⟩

def Within9 (a am : Option Addr) (c cm : Nat) (l : List OpD) (m : List Int) (f : Fo) : Prop :=
  ∀ (o : Nat) (F T : Int) (w : World), F = (o : Int) → T = ((o + f.size : Nat) : Int) → At w a l → At w am m → Stands l m o f →
    Calls Tryz.prog 103 #[.slice a l.length c, .slice am m.length cm, .int .i64 F, .int .i64 T] w fun e w' => e = .returned (.int .i64 (capW f.wr)) ∧ Below w.heap.size w w'

section
variable {a am : Option Addr} {c cm : Nat} {l : List OpD} {m : List Int}
set_option maxHeartbeats 800000 in
/-- a block, by what is within it -/
theorem Block9_of (o : Nat) (op fin : OpD) (b r : Fo) (w : World) (h : At w a l) (hm : At w am m) (hl : l.length ≤ 1000000) (hs : Stands l m o (.rep op b fin r)) (hw : Within9 a am c cm l m b) :
    Calls Tryz.prog 102 #[.slice a l.length c, .slice am m.length cm, .int .i64 (o : Int)] w fun e w' => e = .returned (.int .i64 (capW (b.wr * op.v.toNat))) ∧ Below w.heap.size w w' := by
  obtain ⟨e1, e2, e3, e4, e5, e6, hb, hr⟩ := hs.rep
  obtain ⟨n1, n2⟩ := hs.lt
  rw [Fo.size_rep] at n1 n2
  have ho : o < l.length := by omega
  have hom : o < m.length := by omega
  have hml : (m.length : Int) = (m.length : Int) := rfl
  obtain ⟨E, hE⟩ : ∃ E : Nat, E = o + b.size + 1 := ⟨_, rfl⟩
  have HC := hide (fun w' (h1 : At w' a l) (h2 : At w' am m) => hw (o + 1) ((o : Int) + 1) (E : Int) w' (by omega) (by rw [hE]; omega) h1 h2 hb)
  obtain ⟨W, hW⟩ : ∃ W, W = b.wr := ⟨_, rfl⟩
  have hmin := min_mul b.wr op.v.toNat
  rw [← hE] at e3
  rw [← hW] at HC hmin
  obtain ⟨b1, off1, x, rfl, hx, x0, x1, x2, x3, x4⟩ := h.getOp (Below.refl _ _) ho
  obtain rfl : op = x := by have := e1.symm.trans hx.out; simpa using this
  obtain ⟨b2, off2, y, rfl, hy, y0⟩ := hm.getI (Below.refl _ _) hom
  obtain rfl : y = (E : Int) := by have := hy.out.symm.trans e3; simpa using this
  have hbl := World.block_lt_of_cell? _ _ x0
  have HM := hide hmin
  have hv0 : ((op.v.toNat : Int) == 0) = decide (op.v.toNat = 0) := by rw [Bool.eq_iff_iff]; simp
  rw [← hW]
  have hcap : ∀ n, capW n = ((min n 65537 : Nat) : Int) := fun n => rfl
  have HCAP := hide hcap
  clear e1 e2 e3 e4 e5 e6 hx hy hE hW hml hcap hmin hs hb hr hw
  generalize op.v.toNat = v at *
  obtain ⟨q, hq⟩ : ∃ q, q = min W 65537 := ⟨_, rfl⟩
  obtain ⟨C, hC⟩ : ∃ C : Nat, C = min (W * v) 65537 := ⟨_, rfl⟩
  have HM' := HM.out
  have HCW : capW W = (q : Int) := by rw [hq]; rfl
  have HCV : capW (W * v) = (C : Int) := by rw [hC]; rfl
  rw [HCW] at HC
  rw [HCV]
  rw [← hq, ← hC] at HM'
  have hq2 : q ≤ 65537 := by omega
  clear HM HCAP hq hC HCW HCV
  by_cases q0 : q = 0
  · have hr : C = 0 := by rw [← HM', if_pos (.inl q0)]
    subst q0
    subst hr
    clear HM' hv0
    go_enter Tryz.func102, Tryz.ntmps102
    go_wp2_with (go_at_call 103; ((with_reducible refine (HC.out _ h hm).mono ?_); rintro e w1 ⟨rfl, hb⟩))
    go_ret
    exact ⟨rfl, hb⟩
  · have hqb : ((q : Int) == 0) = false := by simpa using q0
    by_cases v0 : v = 0
    · have hr : C = 0 := by rw [← HM', if_pos (.inr v0)]
      have hv1 : ((v : Int) == 0) = true := by simpa using v0
      subst hr
      clear HM' hv0 q0 v0
      go_enter Tryz.func102, Tryz.ntmps102
      go_wp2_with (go_at_call 103; ((with_reducible refine (HC.out _ h hm).mono ?_); rintro e w1 ⟨rfl, hb⟩; have x4' := (hb.cell (p := ⟨b1, off1 + o * 5 + 4, none⟩) hbl).trans x4))
      go_ret
      exact ⟨rfl, hb⟩
    · have hv1 : ((v : Int) == 0) = false := by simpa using v0
      by_cases v1 : 65536 < v
      · have hr : C = 65537 := by rw [← HM', if_neg (by omega), if_pos v1]
        subst hr
        clear HM' hv0 q0 v0
        go_enter Tryz.func102, Tryz.ntmps102
        go_wp2_with (go_at_call 103; ((with_reducible refine (HC.out _ h hm).mono ?_); rintro e w1 ⟨rfl, hb⟩; have x4' := (hb.cell (p := ⟨b1, off1 + o * 5 + 4, none⟩) hbl).trans x4))
        go_ret
        exact ⟨rfl, hb⟩
      · have hm1 : q * v ≤ 65537 * 65536 := Nat.mul_le_mul hq2 (by omega)
        obtain ⟨M, hM⟩ : ∃ M, M = q * v := ⟨_, rfl⟩
        have hMi : (q : Int) * (v : Int) = (M : Int) := by rw [hM]; simp
        rw [← hM] at HM' hm1
        have hr : C = if 65536 < M then 65537 else M := by rw [← HM', if_neg (by omega), if_neg v1]
        have HR := hide hr
        clear HM' hv0 q0 v0 hM hr
        by_cases v2 : 65536 < M
        · go_enter Tryz.func102, Tryz.ntmps102
          go_wp2_with (go_at_call 103; ((with_reducible refine (HC.out _ h hm).mono ?_); rintro e w1 ⟨rfl, hb⟩; have x4' := (hb.cell (p := ⟨b1, off1 + o * 5 + 4, none⟩) hbl).trans x4))
          go_ret
          exact ⟨by rw [HR.out, if_pos v2]; rfl, hb⟩
        · go_enter Tryz.func102, Tryz.ntmps102
          go_wp2_with (go_at_call 103; ((with_reducible refine (HC.out _ h hm).mono ?_); rintro e w1 ⟨rfl, hb⟩; have x4' := (hb.cell (p := ⟨b1, off1 + o * 5 + 4, none⟩) hbl).trans x4))
          go_ret
          exact ⟨by rw [HR.out, if_neg v2]; rfl, hb⟩

set_option maxRecDepth 100000 in
set_option maxHeartbeats 1600000 in
theorem within9_all (hl : l.length ≤ 1000000) : ∀ (N : Nat) (f : Fo), f.size < N → Within9 a am c cm l m f := by
  intro N
  induction N with
  | zero => intro f hf; omega
  | succ N ih =>
    intro f hf o F T w hF hT h hm hs
    have hlt := hs.lt
    obtain ⟨hl1, hl2⟩ := hlt
    have IH := hide ih
    obtain ⟨R, hR⟩ : ∃ R, R = f.wr := ⟨_, rfl⟩
    have hsz : T = ((o + f.size : Nat) : Int) := hT
    obtain ⟨Z, hZ⟩ : ∃ Z, Z = o + f.size := ⟨_, rfl⟩
    have HR := hide hR
    have HZ := hide hZ
    have HS := hide hs
    rw [← hZ] at hl1 hl2 hT hsz
    rw [← hR]
    subst hF hT
    have hfz : f.size < N + 1 := hf
    clear ih hs hR hsz hZ
    go_enter Tryz.func103, Tryz.ntmps103
    go_wp2
    go_loopw [9, 10] (fun nv iv wr => ∃ (g : Fo) (o' s : Nat), iv = .int .i64 o' ∧ nv = .int .i64 s ∧ Hid (o' + g.size = Z) ∧ o' ≤ Z ∧ Hid (g.size < N + 1) ∧ Hid (Stands l m o' g) ∧ Hid (s + g.wr = R) ∧ s ≤ 65536 ∧ Below w.heap.size w wr) (fun _ iv _ => Z - (intOf iv).toNat)
    case atStart => exact ⟨f, o, 0, rfl, rfl, HZ.out.symm, by have := HZ.out; omega, hfz, HS.out, by have := HR.out; simp [Hid, this], by omega, Below.refl _ _⟩
    case round =>
      obtain ⟨g, o', s, rfl, rfl, hgz, hoz, hgn, hgs, hsr, hs5, hb⟩ := hrel
      cases g with
      | nil =>
        have ez : o' = Z := hgz.out
        have es : s = R := hsr.out
        subst ez es
        go_wp2
        go_ret
        exact ⟨by unfold capW; rw [Nat.min_eq_left (by omega)]; rfl, hb⟩
      | leaf op r =>
        obtain ⟨e1, k1, k2, e2, hsr'⟩ := hgs.out.leaf
        have hgz' := hgz.out
        have hgn' := hgn.out
        have hsw := hsr.out
        rw [Fo.size_leaf] at hgz' hgn'
        simp only [Fo.wr] at hsw
        have hoz' : o' < Z := by omega
        have hol : o' < l.length := by omega
        obtain ⟨b1, off1, x, rfl, hx, x0, x1, x2, x3, x4⟩ := h.getOp hb hol
        obtain rfl : op = x := by have := e1.symm.trans hx.out; simpa using this
        have hk7 : (op.kind == 7) = false := by simp; omega
        have hD := dOf_true k1 k2
        have HA := hide (fun w => Asks_calls op.kind w)
        rw [hD] at HA
        have HSW := hide hsw
        have HGZ := hide hgz'
        have HGN := hide hgn'
        have HST := hide hsr'
        clear e1 hx hsw hgz' hgn' hsr' e2 k1 k2 hD
        obtain ⟨s1, hs1⟩ : ∃ s1, s1 = s + 1 := ⟨_, rfl⟩
        have hsi : (s : Int) + 1 = (s1 : Int) := by omega
        have HS1 := hide hs1
        have hsb : s1 ≤ 65537 := by omega
        clear hs1
        by_cases h6 : s1 ≤ 65536
        · go_wp2_with (first | (go_at_call 143; ((with_reducible refine (HA.out _).mono ?_); rintro e w1 ⟨rfl, hb1⟩)) | (refine wpList_idx _ _ rfl rfl true (aOf op.kind) (bOf op.kind) (vOf op.kind) rfl rfl ?_))
          go_roundw
          case rel => exact ⟨r, o' + 1, s1, by go_num, rfl, by have := HGZ.out; show o' + 1 + r.size = Z; omega, by omega, by have := HGN.out; show r.size < N + 1; omega, HST.out, by have := HSW.out; have := HS1.out; show s1 + r.wr = R; omega, h6, hb.trans (hb1.mono hb.size)⟩
          case measure => simp [intOf]; omega
        · go_wp2_with (first | (go_at_call 143; ((with_reducible refine (HA.out _).mono ?_); rintro e w1 ⟨rfl, hb1⟩)) | (refine wpList_idx _ _ rfl rfl true (aOf op.kind) (bOf op.kind) (vOf op.kind) rfl rfl ?_))
          go_ret
          exact ⟨by have := HSW.out; have := HS1.out; unfold capW; rw [Nat.min_eq_right (by omega)]; rfl, hb.trans (hb1.mono hb.size)⟩
      | rep op b fin r =>
        obtain ⟨e1, k7, e3, e4, e5, e6, hsb, hsr'⟩ := hgs.out.rep
        have hgz' := hgz.out
        have hgn' := hgn.out
        have hsw := hsr.out
        rw [Fo.size_rep] at hgz' hgn'
        simp only [Fo.wr] at hsw
        have hoz' : o' < Z := by omega
        have hol : o' < l.length := by omega
        have hom : o' < m.length := by omega
        have HB := hide (Block9_of o' op fin b r wr (h.below hb (Nat.le_refl _)) (hm.below hb (Nat.le_refl _)) hl hgs.out (IH.out b (by omega)) (c := c) (cm := cm))
        obtain ⟨b1, off1, x, rfl, hx, x0, x1, x2, x3, x4⟩ := h.getOp hb hol
        obtain rfl : op = x := by have := e1.symm.trans hx.out; simpa using this
        obtain ⟨b2, off2, y, rfl, hy, y0⟩ := hm.getI hb hom
        obtain ⟨E, hE⟩ : ∃ E : Nat, E = o' + b.size + 1 := ⟨_, rfl⟩
        rw [← hE] at e3
        obtain rfl : y = (E : Int) := by have := hy.out.symm.trans e3; simpa using this
        have hyl := World.block_lt_of_cell? _ _ y0
        have hk7 : (op.kind == 7) = true := by simp [k7]
        obtain ⟨Q, hQ⟩ : ∃ Q : Nat, Q = min (b.wr * op.v.toNat) 65537 := ⟨_, rfl⟩
        have hcq : capW (b.wr * op.v.toNat) = (Q : Int) := by rw [hQ]; rfl
        rw [hcq] at HB
        have HQ := hide hQ
        have hQ2 : Q ≤ 65537 := by omega
        have HSW := hide hsw
        have HGZ := hide hgz'
        have HGN := hide hgn'
        have HST := hide hsr'
        have HE := hide hE
        have hEZ : E < Z := by omega
        clear e1 hx hy hsw hgz' hgn' hsr' e3 e4 e5 e6 k7 hQ hcq hE hsb
        by_cases h6 : s + Q ≤ 65536
        · go_wp2_with (go_at_call 102; ((with_reducible refine (HB.out).mono ?_); rintro e w1 ⟨rfl, hb1⟩; have y0' := (hb1.cell (p := ⟨b2, off2 + o', none⟩) hyl).trans y0))
          go_roundw
          case rel => exact ⟨r, E + 1, s + Q, by go_num, by go_num, by have := HGZ.out; have := HE.out; show E + 1 + r.size = Z; omega, by omega, by have := HGN.out; show r.size < N + 1; omega, by have := HE.out; show Stands l m (E + 1) r; rw [this]; exact HST.out, by have := HSW.out; have := HQ.out; show s + Q + r.wr = R; omega, by omega, hb.trans (hb1.mono hb.size)⟩
          case measure => have := HE.out; simp [intOf]; omega
        · go_wp2_with (go_at_call 102; ((with_reducible refine (HB.out).mono ?_); rintro e w1 ⟨rfl, hb1⟩; have y0' := (hb1.cell (p := ⟨b2, off2 + o', none⟩) hyl).trans y0))
          go_ret
          exact ⟨by have := HSW.out; have := HQ.out; unfold capW; rw [Nat.min_eq_right (by omega)]; rfl, hb.trans (hb1.mono hb.size)⟩
end
end Go.Proofs.YtcamcnahkdiefaaGreat

/- Chapter 9, the document's answers: Writes, Sizes, Rounds. -/
namespace Go.Proofs.YtcamcnahkdiefaaGreat
set_option linter.unusedVariables false
set_option linter.unusedSimpArgs false
open Go.RowKit

theorem Stands.at_ {l : List OpD} {m : List Int} (f : Fo) : ∀ {o : Nat}, Stands l m o f → ∀ i, i < f.size → ∃ x, f.flat[i]? = some x ∧ l[o + i]? = some x ∧
    ((x.kind = 7 ∧ ∃ b fin r, Stands l m (o + i) (.rep x b fin r) ∧ f.sizes[i]? = some ((b.wr * x.v.toNat : Nat) : Int) ∧ f.rounds[i]? = some (b.wr : Int)) ∨
     (x.kind = 0 ∧ f.sizes[i]? = some 0 ∧ f.rounds[i]? = some 0) ∨ (1 ≤ x.kind ∧ x.kind ≤ 6 ∧ f.sizes[i]? = some 1 ∧ f.rounds[i]? = some 0)) := by
  induction f with
  | nil => intro o h i hi; simp [Fo.size, Fo.flat] at hi
  | leaf op r ih =>
    intro o h i hi
    obtain ⟨e1, k1, k2, e2, hr⟩ := h.leaf
    rw [Fo.size_leaf] at hi
    cases i with
    | zero => exact ⟨op, rfl, e1, .inr (.inr ⟨k1, k2, rfl, rfl⟩)⟩
    | succ i =>
      obtain ⟨x, g1, g2, g3⟩ := ih hr i (by omega)
      rw [show o + 1 + i = o + (i + 1) by omega] at g2 g3
      exact ⟨x, by simpa [Fo.flat] using g1, g2, by simpa [Fo.sizes, Fo.rounds] using g3⟩
  | rep op b fin r ihb ihr =>
    intro o h i hi
    obtain ⟨e1, k7, e3, e4, k0, e6, hb, hr⟩ := h.rep
    rw [Fo.size_rep] at hi
    have hbs : b.flat.length = b.size := rfl
    cases i with
    | zero => exact ⟨op, rfl, e1, .inl ⟨k7, b, fin, r, h, rfl, rfl⟩⟩
    | succ i =>
      by_cases h1 : i < b.size
      · obtain ⟨x, g1, g2, g3⟩ := ihb hb i h1
        rw [show o + 1 + i = o + (i + 1) by omega] at g2 g3
        refine ⟨x, by simp only [Fo.flat, List.getElem?_cons_succ]; rw [List.getElem?_append_left (by omega)]; exact g1, g2, ?_⟩
        simp only [Fo.sizes, Fo.rounds, List.getElem?_cons_succ]
        rw [List.getElem?_append_left (by rw [Fo.sizes_length]; omega), List.getElem?_append_left (by rw [Fo.rounds_length]; omega)]
        exact g3
      · by_cases h2 : i = b.size
        · subst h2
          refine ⟨fin, by simp only [Fo.flat, List.getElem?_cons_succ]; rw [List.getElem?_append_right (by omega)]; simp [hbs], by rw [show o + (b.size + 1) = o + b.size + 1 by omega]; exact e4, .inr (.inl ⟨k0, ?_, ?_⟩)⟩
          · simp only [Fo.sizes, List.getElem?_cons_succ]
            rw [List.getElem?_append_right (by rw [Fo.sizes_length]; omega), Fo.sizes_length]; simp
          · simp only [Fo.rounds, List.getElem?_cons_succ]
            rw [List.getElem?_append_right (by rw [Fo.rounds_length]; omega), Fo.rounds_length]; simp
        · obtain ⟨i', hi'⟩ : ∃ i', i - b.size = i' + 1 := ⟨i - b.size - 1, by omega⟩
          obtain ⟨x, g1, g2, g3⟩ := ihr hr i' (by omega)
          rw [show o + b.size + 2 + i' = o + (i + 1) by omega] at g2 g3
          refine ⟨x, by simp only [Fo.flat, List.getElem?_cons_succ]; rw [List.getElem?_append_right (by omega), hbs, hi']; simpa using g1, g2, ?_⟩
          simp only [Fo.sizes, Fo.rounds, List.getElem?_cons_succ]
          rw [List.getElem?_append_right (by rw [Fo.sizes_length]; omega), List.getElem?_append_right (by rw [Fo.rounds_length]; omega), Fo.sizes_length, Fo.rounds_length, hi']
          simpa using g3
theorem Stands.one {l : List OpD} {m : List Int} {o : Nat} {op op' fin fin' : OpD} {b b' r r' : Fo} (h : Stands l m o (.rep op b fin r)) (h' : Stands l m o (.rep op' b' fin' r')) : op = op' ∧ b = b' := by
  obtain ⟨pre, post, e, hp⟩ := h.ops
  obtain ⟨pre', post', e', hp'⟩ := h'.ops
  have k := h.ok
  have k' := h'.ok
  rw [e] at e'
  simp only [Fo.flat, List.append_assoc, List.cons_append] at e'
  obtain ⟨e1, e2⟩ := List.append_inj e' (by omega)
  injection e2 with e2 e3
  exact ⟨e2, (Fo.flat_inj b k.2.1 b' k'.2.1 _ _ _ _ k.2.2.1 k'.2.2.1 e3).1⟩
theorem may_stands {l : List OpD} {m : List Int} (f : Fo) : ∀ {o : Nat}, Stands l m o f → (f.may = true ↔ ∀ i op b fin r, o ≤ i → i < o + f.size → Stands l m i (.rep op b fin r) → b.wr ≤ 65536 ∧ b.wr * op.v.toNat ≤ 65536) := by
  induction f with
  | nil => intro o h; simp [Fo.may, Fo.size, Fo.flat]; intro i op b fin r h1 h2; omega
  | leaf op r ih =>
    intro o h
    obtain ⟨e1, k1, k2, e2, hr⟩ := h.leaf
    rw [Fo.may, ih hr, Fo.size_leaf]
    constructor
    · intro H i op' b fin r' h1 h2 hs
      by_cases hi : i = o
      · subst hi
        have := hs.rep
        rw [e1] at this
        injection this.1 with e
        subst e
        omega
      · exact H i op' b fin r' (by omega) (by omega) hs
    · intro H i op' b fin r' h1 h2 hs
      exact H i op' b fin r' (by omega) (by omega) hs
  | rep op b fin r ihb ihr =>
    intro o h
    obtain ⟨e1, k7, e3, e4, k0, e6, hb, hr⟩ := h.rep
    simp only [Fo.may, Bool.and_eq_true, decide_eq_true_eq]
    rw [ihb hb, ihr hr, Fo.size_rep]
    constructor
    · rintro ⟨⟨⟨H1, H2⟩, H3⟩, H4⟩ i op' b' fin' r' h1 h2 hs
      by_cases hi : i = o
      · subst hi
        obtain ⟨rfl, rfl⟩ := h.one hs
        exact ⟨H2, H3⟩
      · by_cases h3 : i < o + 1 + b.size
        · exact H1 i op' b' fin' r' (by omega) h3 hs
        · by_cases h4 : i = o + b.size + 1
          · subst h4
            have := hs.rep
            rw [e4] at this
            injection this.1 with e
            subst e
            omega
          · exact H4 i op' b' fin' r' (by omega) (by omega) hs
    · intro H
      obtain ⟨H2, H3⟩ := H o op b fin r (by omega) (by omega) h
      exact ⟨⟨⟨fun i op' b' fin' r' h1 h2 hs => H i op' b' fin' r' (by omega) (by omega) hs, H2⟩, H3⟩, fun i op' b' fin' r' h1 h2 hs => H i op' b' fin' r' (by omega) (by omega) hs⟩

theorem sizeE_flat {f : Fo} (hf : f.ok) : sizeE f.flat = if f.may = true ∧ f.wr ≤ 65536 then 0 else 9 := by
  unfold sizeE
  rw [if_pos (well_of_flat f hf), measL_flat f hf]
  by_cases h : f.may = true ∧ f.wr ≤ 65536
  · rw [if_pos h, if_pos h]; rfl
  · rw [if_neg h, if_neg h]; rfl
theorem sizes_flat {f : Fo} (hf : f.ok) : sizeW f.flat = (if f.may = true ∧ f.wr ≤ 65536 then (f.wr : Int) else 0) ∧ sizeZ f.flat = (if f.may = true ∧ f.wr ≤ 65536 then f.sizes else []) ∧ sizeR f.flat = (if f.may = true ∧ f.wr ≤ 65536 then f.rounds else []) := by
  unfold sizeW sizeZ sizeR measO
  rw [if_pos (well_of_flat f hf), measL_flat f hf]
  by_cases h : f.may = true ∧ f.wr ≤ 65536
  · rw [if_pos h, if_pos h, if_pos h, if_pos h]; exact ⟨rfl, rfl, rfl⟩
  · rw [if_neg h, if_neg h, if_neg h, if_neg h]; exact ⟨rfl, rfl, rfl⟩
theorem size_bad {l : List OpD} (h : well l = false) : sizeE l = 6 ∧ sizeW l = 0 ∧ sizeZ l = [] ∧ sizeR l = [] := by
  unfold sizeE sizeW sizeZ sizeR measO
  simp [h]
end Go.Proofs.YtcamcnahkdiefaaGreat

/- Chapter 9, the document's answers: Writes, Sizes, Rounds, walked. -/
namespace Go.Proofs.YtcamcnahkdiefaaGreat
set_option linter.unusedVariables false
set_option linter.unusedSimpArgs false
open Go.RowKit

section
variable {a am : Option Addr} {c cm : Nat} {l : List OpD}
theorem within_m (hl : l.length ≤ 1000000) (b : Fo) (o : Nat) (F T : Int) (w : World) (hF : F = (o : Int)) (hT : T = ((o + b.size : Nat) : Int)) (h : At w a l) (hm : At w am (matchL l)) (hs : Stands l (matchL l) o b) :
    Calls Tryz.prog 103 #[.slice a l.length c, .slice am l.length cm, .int .i64 F, .int .i64 T] w fun e w' => e = .returned (.int .i64 (capW b.wr)) ∧ Below w.heap.size w w' := by
  have := within9_all (a := a) (am := am) (c := c) (cm := cm) (l := l) (m := matchL l) hl (b.size + 1) b (by omega) o F T w hF hT h hm hs
  rwa [matchL_length] at this
theorem block_m (hl : l.length ≤ 1000000) (o : Nat) (op fin : OpD) (b r : Fo) (w : World) (h : At w a l) (hm : At w am (matchL l)) (hs : Stands l (matchL l) o (.rep op b fin r)) :
    Calls Tryz.prog 102 #[.slice a l.length c, .slice am l.length cm, .int .i64 (o : Int)] w fun e w' => e = .returned (.int .i64 (capW (b.wr * op.v.toNat))) ∧ Below w.heap.size w w' := by
  have := Block9_of (c := c) (cm := cm) o op fin b r w h hm hl hs (within9_all hl (b.size + 1) b (by omega))
  rwa [matchL_length] at this
end
theorem capW_le {n : Nat} (h : n ≤ 65536) : capW n = (n : Int) := by unfold capW; rw [Nat.min_eq_left (by omega)]
theorem capW_gt {n : Nat} (h : ¬ n ≤ 65536) : capW n = 65537 := by unfold capW; rw [Nat.min_eq_right (by omega)]; rfl

theorem place9 {f : Fo} (hf : f.ok) {k : Nat} {x : OpD} (hx : f.flat[k]? = some x) :
    (x.kind = 7 ∧ ∃ b fin r, Stands f.flat (matchL f.flat) k (.rep x b fin r) ∧ f.sizes[k]? = some ((b.wr * x.v.toNat : Nat) : Int) ∧ f.rounds[k]? = some (b.wr : Int) ∧ (matchL f.flat)[k]? = some ((k + 1 + b.size : Nat) : Int)) ∨
     (x.kind = 0 ∧ f.sizes[k]? = some 0 ∧ f.rounds[k]? = some 0) ∨ (1 ≤ x.kind ∧ x.kind ≤ 6 ∧ f.sizes[k]? = some 1 ∧ f.rounds[k]? = some 0) := by
  have hk : k < f.size := (List.getElem?_eq_some_iff.1 hx).1
  obtain ⟨y, h1, h2, h3⟩ := Stands.at_ f (Stands.whole hf) k hk
  obtain rfl : x = y := by have := hx.symm.trans h1; simpa using this
  rw [Nat.zero_add] at h3
  rcases h3 with ⟨h7, b, fin, r, hs, e1, e2⟩ | h3 | h3
  · refine .inl ⟨h7, b, fin, r, hs, e1, e2, ?_⟩
    have := hs.rep.2.2.1
    rw [this]
    congr 2
    omega
  · exact .inr (.inl h3)
  · exact .inr (.inr h3)
theorem may_all {f : Fo} (hf : f.ok) (h : f.may = true) {k : Nat} {op fin : OpD} {b r : Fo} (hs : Stands f.flat (matchL f.flat) k (.rep op b fin r)) : b.wr ≤ 65536 ∧ b.wr * op.v.toNat ≤ 65536 := by
  have h1 := (may_stands f (Stands.whole hf)).1 h k op b fin r (by omega) ?_ hs
  · exact h1
  · have := hs.lt.1
    rw [Fo.size_rep] at this
    simp only [Fo.size] at *
    omega
theorem may_of_all {f : Fo} (hf : f.ok) (h : ∀ k op b fin r, k < f.flat.length → Stands f.flat (matchL f.flat) k (.rep op b fin r) → b.wr ≤ 65536 ∧ b.wr * op.v.toNat ≤ 65536) : f.may = true :=
  (may_stands f (Stands.whole hf)).2 fun i op b fin r _ h2 hs => h i op b fin r (by simp only [Fo.size] at h2; omega) hs
theorem Stands.same {l : List OpD} {m : List Int} {o : Nat} {op x : OpD} {b fin r} (h : Stands l m o (.rep op b fin r)) (hx : l[o]? = some x) : op = x := by
  have := h.rep.1.symm.trans hx; simpa using this

set_option maxRecDepth 100000 in
set_option maxHeartbeats 1600000 in
theorem Writes9_calls (a : Option Addr) (c : Nat) (l : List OpD) (w : World) (h : At w a l) (hl : l.length ≤ 1000000) :
    Calls Tryz.prog 51 #[.slice a l.length c] w fun e w' => e = .returned (.tuple #[.int .i64 (sizeW l), .int .i64 (sizeE l)]) ∧ Below w.heap.size w w' := by
  cases hw : well l with
  | false =>
    obtain ⟨e1, e2, _⟩ := size_bad hw
    rw [e1, e2]
    have HW := hide hw
    clear e1 e2 hw
    go_enter Tryz.func51, Tryz.ntmps51
    go_wp2_with (go_at_call 89; refine (Match8N a c l _ h hl HW.out).mono ?_; rintro e w1 ⟨a1, c1, rfl, hbel1⟩)
    go_ret2
    exact ⟨rfl, hbel1⟩
  | true =>
    obtain ⟨f, hf, rfl⟩ := forest_of_well l hw
    obtain ⟨W, hW⟩ : ∃ W, W = sizeW f.flat := ⟨_, rfl⟩
    obtain ⟨E, hE⟩ : ∃ E, E = sizeE f.flat := ⟨_, rfl⟩
    have hbad : ¬ (f.may = true ∧ f.wr ≤ 65536) → W = 0 ∧ E = 9 := by intro hn; rw [hW, hE, sizeE_flat hf, (sizes_flat hf).1, if_neg hn, if_neg hn]; exact ⟨rfl, rfl⟩
    have hgood : f.may = true ∧ f.wr ≤ 65536 → W = f.wr ∧ E = 0 := by intro hn; rw [hW, hE, sizeE_flat hf, (sizes_flat hf).1, if_pos hn, if_pos hn]; exact ⟨rfl, rfl⟩
    rw [← hW, ← hE]
    have HBAD := hide hbad
    have HGOOD := hide hgood
    have HW := hide hw
    clear hW hE hbad hgood hw
    go_enter Tryz.func51, Tryz.ntmps51
    go_wp2_with (go_at_call 89; refine (Match8W a c f.flat _ h hl HW.out).mono ?_; rintro e w1 ⟨am, cm, rfl, hown1, hbel1⟩; have hat1 := hown1.at_; have hz1 := hbel1.size)
    have hl1 := h.belowN hbel1
    go_loopw [6] (fun i wr => ∃ k : Nat, i = .int .i64 k ∧ k ≤ f.flat.length ∧ Hid (∀ j op b fin r, j < k → Stands f.flat (matchL f.flat) j (.rep op b fin r) → b.wr ≤ 65536 ∧ b.wr * op.v.toNat ≤ 65536) ∧ Below w1.heap.size w1 wr) (fun i _ => f.flat.length - (intOf i).toNat)
    case atStart => exact ⟨0, rfl, by omega, hide (fun j op b fin r hj => absurd hj (by omega)), Below.refl _ _⟩
    case round =>
      obtain ⟨k, rfl, hk, hall, hbr⟩ := hrel
      have hbw := hbel1.trans (hbr.mono hz1)
      by_cases hlt : k < f.flat.length
      · obtain ⟨b1, off1, x, rfl, hx, x0, x1, x2, x3, x4⟩ := hl1.getOp hbr hlt
        obtain ⟨b2, off2, y, rfl, hy, y0⟩ := hat1.getI hbr (show k < (matchL f.flat).length by rw [matchL_length]; exact hlt)
        have hyl := World.block_lt_of_cell? _ _ y0
        rcases place9 hf hx.out with ⟨h7, b, fin, r, hs, e1, e2, e3⟩ | ⟨h0, _⟩ | ⟨h1, h2, _⟩
        · obtain ⟨Z, hZ⟩ : ∃ Z : Nat, Z = k + 1 + b.size := ⟨_, rfl⟩
          rw [← hZ] at e3
          obtain rfl : y = (Z : Int) := by have := hy.out.symm.trans e3; simpa using this
          have k7 : (x.kind == 7) = true := by simp [h7]
          have HS := hide hs
          have HBL := hide (fun w' (g1 : At w' (some ⟨b1, off1, none⟩) f.flat) (g2 : At w' (some ⟨b2, off2, none⟩) (matchL f.flat)) => block_m (c := c) (cm := cm) hl k x fin b r w' g1 g2 hs)
          have HWI := hide (fun w' (g1 : At w' (some ⟨b1, off1, none⟩) f.flat) (g2 : At w' (some ⟨b2, off2, none⟩) (matchL f.flat)) => within_m (c := c) (cm := cm) hl b (k + 1) ((k : Int) + 1) (Z : Int) w' (by omega) (by omega) g1 g2 hs.rep.2.2.2.2.2.2.1)
          have hlr := hl1.belowN hbr
          have hmr := hat1.belowN hbr
          clear hs e1 e2 e3 hx hy h7 hZ
          by_cases c1 : b.wr * x.v.toNat ≤ 65536
          · rw [capW_le c1] at HBL
            have HC1 := hide c1
            obtain ⟨q, hq⟩ : ∃ q : Nat, q = b.wr * x.v.toNat := ⟨_, rfl⟩
            rw [← hq] at HBL
            have hq6 : q ≤ 65536 := by omega
            clear hq c1
            by_cases c2 : b.wr ≤ 65536
            · rw [capW_le c2] at HWI
              have HC2 := hide c2
              obtain ⟨p, hp⟩ : ∃ p : Nat, p = b.wr := ⟨_, rfl⟩
              rw [← hp] at HWI
              have hp6 : p ≤ 65536 := by omega
              clear hp c2
              go_wp2_with (first
                | (go_at_call 102; ((with_reducible refine (HBL.out _ hlr hmr).mono ?_); rintro e w2 ⟨rfl, hb2⟩; have y0' := (hb2.cell (p := ⟨b2, off2 + k, none⟩) hyl).trans y0; have hlr2 := hlr.belowN hb2; have hmr2 := hmr.belowN hb2))
                | (go_at_call 103; ((with_reducible refine (HWI.out _ hlr2 hmr2).mono ?_); rintro e w3 ⟨rfl, hb3⟩)))
              go_roundw
              case rel =>
                refine ⟨k + 1, by go_num, by omega, hide (fun j op b' fin' r' hj hs' => ?_), hbr.trans ((hb2.trans (hb3.mono hb2.size)).mono hbr.size)⟩
                by_cases hjk : j < k
                · exact hall.out j op b' fin' r' hjk hs'
                · obtain rfl : j = k := by omega
                  obtain ⟨rfl, rfl⟩ := hs'.one HS.out
                  exact ⟨HC2.out, HC1.out⟩
              case measure => simp [intOf]; omega
            · rw [capW_gt c2] at HWI
              have HC2 := hide c2
              clear c2
              go_wp2_with (first
                | (go_at_call 102; ((with_reducible refine (HBL.out _ hlr hmr).mono ?_); rintro e w2 ⟨rfl, hb2⟩; have y0' := (hb2.cell (p := ⟨b2, off2 + k, none⟩) hyl).trans y0; have hlr2 := hlr.belowN hb2; have hmr2 := hmr.belowN hb2))
                | (go_at_call 103; ((with_reducible refine (HWI.out _ hlr2 hmr2).mono ?_); rintro e w3 ⟨rfl, hb3⟩)))
              go_ret2
              obtain ⟨e1, e2⟩ := HBAD.out (fun hn => HC2.out (may_all hf hn.1 HS.out).1)
              exact ⟨by rw [e1, e2] <;> rfl, hbw.trans ((hb2.trans (hb3.mono hb2.size)).mono hbw.size)⟩
          · rw [capW_gt c1] at HBL
            have HC1 := hide c1
            clear c1
            go_wp2_with (first
                | (go_at_call 102; ((with_reducible refine (HBL.out _ hlr hmr).mono ?_); rintro e w2 ⟨rfl, hb2⟩)))
            go_ret2
            obtain ⟨e1, e2⟩ := HBAD.out (fun hn => HC1.out (may_all hf hn.1 HS.out).2)
            exact ⟨by rw [e1, e2] <;> rfl, hbw.trans (hb2.mono hbw.size)⟩
        all_goals
          have k7 : (x.kind == 7) = false := by simp; omega
          have HX := hide hx.out
          have H7 : Hid (x.kind ≠ 7) := by show x.kind ≠ 7; omega
          clear hx
          go_wp2
          go_roundw
          case rel =>
            refine ⟨k + 1, by go_num, by omega, hide (fun j op b' fin' r' hj hs' => ?_), hbr⟩
            by_cases hjk : j < k
            · exact hall.out j op b' fin' r' hjk hs'
            · obtain rfl : j = k := by omega
              exact absurd (by rw [← hs'.same HX.out]; exact hs'.rep.2.1) H7.out
          case measure => simp [intOf]; omega
      · obtain rfl : k = f.flat.length := by omega
        have hmay : f.may = true := may_of_all hf (fun j op b fin r hj hs => hall.out j op b fin r hj hs)
        have HWI := hide (fun w' (g1 : At w' a f.flat) (g2 : At w' am (matchL f.flat)) => within_m (c := c) (cm := cm) hl f 0 0 (f.flat.length : Int) w' rfl (by simp [Fo.size]) g1 g2 (Stands.whole hf))
        have hlr := hl1.belowN hbr
        have hmr := hat1.belowN hbr
        have HM := hide hmay
        clear hmay
        by_cases c2 : f.wr ≤ 65536
        · rw [capW_le c2] at HWI
          have HG := hide (HGOOD.out ⟨HM.out, c2⟩)
          obtain ⟨p, hp⟩ : ∃ p : Nat, p = f.wr := ⟨_, rfl⟩
          rw [← hp] at HWI HG
          have hp6 : p ≤ 65536 := by omega
          clear hp c2
          go_wp2_with (go_at_call 103; ((with_reducible refine (HWI.out _ hlr hmr).mono ?_); rintro e w3 ⟨rfl, hb3⟩))
          go_ret2
          exact ⟨by rw [HG.out.1, HG.out.2] <;> rfl, hbw.trans (hb3.mono hbw.size)⟩
        · rw [capW_gt c2] at HWI
          have HG := hide (HBAD.out (fun hn => c2 hn.2))
          clear c2
          go_wp2_with (go_at_call 103; ((with_reducible refine (HWI.out _ hlr hmr).mono ?_); rintro e w3 ⟨rfl, hb3⟩))
          go_ret2
          exact ⟨by rw [HG.out.1, HG.out.2] <;> rfl, hbw.trans (hb3.mono hbw.size)⟩

theorem W9_ok {f : Fo} (hf : f.ok) (h : f.may = true ∧ f.wr ≤ 65536) : sizeE f.flat = 0 ∧ sizeW f.flat = f.wr ∧ sizeZ f.flat = f.sizes ∧ sizeR f.flat = f.rounds := by
  rw [sizeE_flat hf, (sizes_flat hf).1, (sizes_flat hf).2.1, (sizes_flat hf).2.2, if_pos h, if_pos h, if_pos h, if_pos h]; exact ⟨rfl, rfl, rfl, rfl⟩
end Go.Proofs.YtcamcnahkdiefaaGreat

/- Several texts of mine in one file: C10a, C10b, C10c. -/
/- Chapter 10: whether a program may be: the looks, one by one. -/
namespace Go.Proofs.YtcamcnahkdiefaaGreat
set_option linter.unusedVariables false
set_option linter.unusedSimpArgs false
open Go.RowKit

theorem fail_calls (b : Bool) (n : Int) (w : World) : Calls Tryz.prog 124 #[.bool b, .int .i64 n] w fun e w' => e = .returned (.int .i64 (if b = true then n else 0)) ∧ w = w' := by
  cases b
  all_goals
    go_enter Tryz.func124, Tryz.ntmps124
    go_wp2
    go_ret
    exact ⟨rfl, rfl⟩

set_option maxRecDepth 100000 in
set_option maxHeartbeats 800000 in
theorem IndexForm  (p : OpD → Bool) (a : Option Addr) (c : Nat) (l : List OpD) (w : World) (h : At w a l) (hl : l.length ≤ 1000000)
    (hcall : ∀ (x : OpD) (w' : World), x ∈ l → Below w.heap.size w w' → Calls Tryz.prog 195 #[.agg #[.int .i64 x.kind, .int .i64 x.d, .int .i64 x.a, .int .i64 x.b, .int .u64 (x.v.toNat : Int)]] w' fun e w'' => e = .returned (.bool (p x)) ∧ Below w'.heap.size w' w'') :
    Calls Tryz.prog 206 #[.slice a l.length c, .func (.func 195) #[] #[]] w fun e w' => ((l.any p = true → ∃ j : Nat, e = .returned (.int .i64 (j : Int))) ∧ (l.any p = false → e = .returned (.int .i64 (-1)))) ∧ Below w.heap.size w w' := by
  have HC := hide hcall
  obtain ⟨R, hR⟩ : ∃ R, R = l.any p := ⟨_, rfl⟩
  rw [← hR]
  have HR := hide hR
  clear hcall hR
  go_enter Tryz.func206, Tryz.ntmps206
  go_wp2
  go_loopw [8] (fun i wr => ∃ k : Nat, i = .int .i64 k ∧ k ≤ l.length ∧ Hid (R = (l.drop k).any p) ∧ Below w.heap.size w wr) (fun i _ => l.length - (intOf i).toNat)
  case atStart => exact ⟨0, rfl, by omega, HR.out, Below.refl _ _⟩
  case round =>
    obtain ⟨k, rfl, hk, hRk, hbr⟩ := hrel
    by_cases hlt : k < l.length
    · obtain ⟨b1, off1, x, rfl, hx, x0, x1, x2, x3, x4⟩ := h.getOp hbr hlt
      have hd := drop_at hx.out
      have hR2 := hRk.out
      rw [hd, List.any_cons] at hR2
      have hcx := fun w' hb => HC.out x w' (List.mem_of_getElem? hx.out) hb
      have HCX := hide hcx
      cases hp : p x with
      | true =>
        rw [hp] at hR2 HCX
        have HRT : Hid (R = true) := by show R = true; rw [hR2]; rfl
        clear hd hR2 hcx hx hp hRk
        go_wp2_with (go_at_call 195; ((with_reducible refine (HCX.out _ hbr).mono ?_); rintro e w1 ⟨rfl, hb1⟩))
        go_ret
        exact ⟨⟨fun _ => ⟨k, rfl⟩, fun h => by rw [HRT.out] at h; cases h⟩, hbr.trans (hb1.mono hbr.size)⟩
      | false =>
        rw [hp] at hR2 HCX
        have HR2 := hide hR2
        clear hd hR2 hcx hx hp hRk
        go_wp2_with (go_at_call 195; ((with_reducible refine (HCX.out _ hbr).mono ?_); rintro e w1 ⟨rfl, hb1⟩))
        go_roundw
        case rel => exact ⟨k + 1, by go_num, by omega, by show R = _; rw [HR2.out]; rfl, hbr.trans (hb1.mono hbr.size)⟩
        case measure => simp [intOf]; omega
    · obtain rfl : k = l.length := by omega
      have HRF : Hid (R = false) := by show R = false; rw [hRk.out, List.drop_eq_nil_of_le (by omega)]; rfl
      go_wp2
      go_ret
      exact ⟨⟨fun h => (by rw [HRF.out] at h; cases h), fun _ => rfl⟩, hbr⟩
theorem ContForm  (p : OpD → Bool) (a : Option Addr) (c : Nat) (l : List OpD) (w : World) (h : At w a l) (hl : l.length ≤ 1000000)
    (hcall : ∀ (x : OpD) (w' : World), x ∈ l → Below w.heap.size w w' → Calls Tryz.prog 195 #[.agg #[.int .i64 x.kind, .int .i64 x.d, .int .i64 x.a, .int .i64 x.b, .int .u64 (x.v.toNat : Int)]] w' fun e w'' => e = .returned (.bool (p x)) ∧ Below w'.heap.size w' w'') :
    Calls Tryz.prog 197 #[.slice a l.length c, .func (.func 195) #[] #[]] w fun e w' => e = .returned (.bool (l.any p)) ∧ Below w.heap.size w w' := by
  have HI := hide (IndexForm  p a c l w h hl hcall)
  clear hcall
  cases hp : l.any p with
  | true =>
    rw [hp] at HI
    clear hp
    go_enter Tryz.func197, Tryz.ntmps197
    go_wp2_with (go_at_call 206; ((with_reducible refine (HI.out).mono ?_); rintro e w1 ⟨⟨h1, h2⟩, hb1⟩; obtain ⟨j, rfl⟩ := h1 rfl; clear h1 h2))
    go_ret
    exact ⟨by simp, hb1⟩
  | false =>
    rw [hp] at HI
    clear hp
    go_enter Tryz.func197, Tryz.ntmps197
    go_wp2_with (go_at_call 206; ((with_reducible refine (HI.out).mono ?_); rintro e w1 ⟨⟨h1, h2⟩, hb1⟩; obtain rfl := h2 rfl; clear h1 h2))
    go_ret
    exact ⟨by simp, hb1⟩

theorem form1_calls (x : OpD) (w : World) : Calls Tryz.prog 195 #[.agg #[.int .i64 x.kind, .int .i64 x.d, .int .i64 x.a, .int .i64 x.b, .int .u64 (x.v.toNat : Int)]] w fun e w' => e = .returned (.bool (!rightB x)) ∧ Below w.heap.size w w' := by
  obtain ⟨k, rd, ra, rb, v⟩ := x
  have HR := hide (fun w => Right_calls ⟨k, rd, ra, rb, v⟩ w)
  generalize rightB ⟨k, rd, ra, rb, v⟩ = R at *
  simp only at *
  go_enter Tryz.func195, Tryz.ntmps195
  go_wp2_with (go_at_call 196; ((with_reducible refine (HR.out _).mono ?_); rintro e w1 ⟨rfl, hb1⟩))
  go_ret
  exact ⟨rfl, (Below.alloc (Below.refl _ _) (Nat.le_refl _) _).trans (hb1.mono (by simp))⟩
theorem formB_any (l : List OpD) : formB l = (decide (l.length ≤ 4096) && well l && !(l.any fun x => !rightB x)) := by
  unfold formB
  congr 1
  induction l with
  | nil => rfl
  | cons x r ih => simp [ih]

set_option maxHeartbeats 800000 in
theorem form_calls (regs : Int) (a : Option Addr) (c : Nat) (l : List OpD) (w : World) (h : At w a l) (hl : l.length ≤ 1000000) :
    Calls Tryz.prog 182 #[.agg #[.int .i64 regs, .slice a l.length c]] w fun e w' => e = .returned (.int .i64 (if formB l = true then 0 else 6)) ∧ Below w.heap.size w w' := by
  have hX := Blk.new w 200 #[.int .i64 regs, .slice a l.length c]
  obtain ⟨R, hR⟩ : ∃ R, R = formB l := ⟨_, rfl⟩
  have hR2 := hR.trans (formB_any l)
  rw [← hR]
  have HF := hide (fun n w => fail_calls true n w)
  have HF0 := hide (fun n w => fail_calls false n w)
  have HC := hide (fun w' (g : At w' a l) => ContForm (fun x => !rightB x) a c l w' g hl (fun x w2 _ _ => form1_calls x w2))
  obtain ⟨Y, hY⟩ : ∃ Y, Y = l.any (fun x => !rightB x) := ⟨_, rfl⟩
  rw [← hY] at hR2 HC
  have HR := hide hR2
  obtain ⟨V, hV⟩ : ∃ V : Int, V = if R = true then 0 else 6 := ⟨_, rfl⟩
  rw [← hV]
  have HV := hide hV
  clear hR hR2 hY hV
  cases hw : well l with
  | false =>
    rw [hw] at HR
    have HM := hide (fun w' (g : At w' a l) => MatchN a c l w' g hl hw)
    have hRf : Hid (R = false) := by show R = false; rw [HR.out]; simp
    clear hw
    by_cases h1 : 4096 < l.length
    all_goals
      go_enter Tryz.func182, Tryz.ntmps182
      go_wp2_with (first
        | (go_at_call 96; ((with_reducible refine (HM.out _ (h.belowN (Below.alloc (Below.refl _ _) (Nat.le_refl _) _))).mono ?_); rintro e w1 ⟨a1, c1, rfl, hb1⟩; obtain ⟨q0, q1, q2, q3⟩ := (hX.belowN hb1).c2))
        | (go_at_call 124; ((with_reducible refine (HF.out _ _).mono ?_); rintro e w2 ⟨rfl, rfl⟩)))
      go_ret
      exact ⟨by rw [HV.out, hRf.out] <;> rfl, (Below.alloc (Below.refl _ _) (Nat.le_refl _) _).trans (hb1.mono (by simp))⟩
  | true =>
    rw [hw] at HR
    have HM := hide (fun w' (g : At w' a l) => MatchW a c l w' g hl hw)
    clear hw
    by_cases h1 : 4096 < l.length
    · have hRf : Hid (R = false) := by show R = false; rw [HR.out]; simp; omega
      go_enter Tryz.func182, Tryz.ntmps182
      go_wp2_with (first
        | (go_at_call 96; ((with_reducible refine (HM.out _ (h.belowN (Below.alloc (Below.refl _ _) (Nat.le_refl _) _))).mono ?_); rintro e w1 ⟨a1, c1, rfl, hom, hb1⟩; obtain ⟨q0, q1, q2, q3⟩ := (hX.belowN hb1).c2))
        | (go_at_call 124; ((with_reducible refine (HF.out _ _).mono ?_); rintro e w2 ⟨rfl, rfl⟩)))
      go_ret
      exact ⟨by rw [HV.out, hRf.out] <;> rfl, (Below.alloc (Below.refl _ _) (Nat.le_refl _) _).trans (hb1.mono (by simp))⟩
    · have hRy : Hid (R = !Y) := by show R = _; rw [HR.out]; simp; omega
      have d1 : decide (4096 < (l.length : Int)) = false := by simp; omega
      cases Y
      all_goals
        go_enter Tryz.func182, Tryz.ntmps182
        go_wp2_with (first
          | (go_at_call 96; ((with_reducible refine (HM.out _ (h.belowN (Below.alloc (Below.refl _ _) (Nat.le_refl _) _))).mono ?_); rintro e w1 ⟨a1, c1, rfl, hom, hb1⟩; obtain ⟨q0, q1, q2, q3⟩ := (hX.belowN hb1).c2))
          | (go_at_call 197; ((with_reducible refine (HC.out _ ((h.belowN (Below.alloc (Below.refl _ _) (Nat.le_refl _) _)).belowN hb1)).mono ?_); rintro e w2 ⟨rfl, hb2⟩))
          | (go_at_call 124; first | ((with_reducible refine (HF.out _ _).mono ?_); rintro e w3 ⟨rfl, rfl⟩) | ((with_reducible refine (HF0.out _ _).mono ?_); rintro e w3 ⟨rfl, rfl⟩)))
        go_ret
        exact ⟨by rw [HV.out, hRy.out] <;> rfl, (Below.alloc (Below.refl _ _) (Nat.le_refl _) _).trans ((hb1.trans (hb2.mono hb1.size)).mono (by simp))⟩

theorem depth_calls (regs : Int) (a : Option Addr) (c : Nat) (l : List OpD) (w : World) (h : At w a l) (hl : l.length ≤ 1000000) :
    Calls Tryz.prog 184 #[.agg #[.int .i64 regs, .slice a l.length c]] w fun e w' => e = .returned (.int .i64 (if (deepS l).1 ≤ 8 then 0 else 8)) ∧ Below w.heap.size w w' := by
  have HF := hide (fun n w => fail_calls true n w)
  have HF0 := hide (fun n w => fail_calls false n w)
  have HD := hide (fun w' (g : At w' a l) => Deep_calls a c l w' g hl)
  generalize (deepS l).1 = D at *
  generalize (deepS l).2 = E at *
  by_cases h1 : D ≤ 8
  · have e : (if D ≤ 8 then (0 : Int) else 8) = 0 := if_pos h1
    have d1 : decide (8 < D) = false := by simp; omega
    rw [e]
    clear e
    go_enter Tryz.func184, Tryz.ntmps184
    go_wp2_with (first
      | (go_at_call 201; ((with_reducible refine (HD.out _ (h.belowN (Below.alloc (Below.refl _ _) (Nat.le_refl _) _))).mono ?_); rintro e w1 ⟨rfl, hb1⟩))
      | (go_at_call 124; ((with_reducible refine (HF0.out _ _).mono ?_); rintro e w2 ⟨rfl, rfl⟩)))
    go_ret
    exact ⟨rfl, (Below.alloc (Below.refl _ _) (Nat.le_refl _) _).trans (hb1.mono (by simp))⟩
  · have e : (if D ≤ 8 then (0 : Int) else 8) = 8 := if_neg h1
    have d1 : decide (8 < D) = true := by simp; omega
    rw [e]
    clear e
    go_enter Tryz.func184, Tryz.ntmps184
    go_wp2_with (first
      | (go_at_call 201; ((with_reducible refine (HD.out _ (h.belowN (Below.alloc (Below.refl _ _) (Nat.le_refl _) _))).mono ?_); rintro e w1 ⟨rfl, hb1⟩))
      | (go_at_call 124; ((with_reducible refine (HF.out _ _).mono ?_); rintro e w2 ⟨rfl, rfl⟩)))
    go_ret
    exact ⟨rfl, (Below.alloc (Below.refl _ _) (Nat.le_refl _) _).trans (hb1.mono (by simp))⟩
theorem cwrites_calls (regs : Int) (a : Option Addr) (c : Nat) (l : List OpD) (w : World) (h : At w a l) (hl : l.length ≤ 1000000) :
    Calls Tryz.prog 185 #[.agg #[.int .i64 regs, .slice a l.length c]] w fun e w' => e = .returned (.int .i64 (sizeE l)) ∧ Below w.heap.size w w' := by
  have HD := hide (fun w' (g : At w' a l) => SizeW_calls a c l w' g hl)
  generalize sizeW l = W at *
  generalize sizeE l = E at *
  go_enter Tryz.func185, Tryz.ntmps185
  go_wp2_with (go_at_call 58; ((with_reducible refine (HD.out _ (h.belowN (Below.alloc (Below.refl _ _) (Nat.le_refl _) _))).mono ?_); rintro e w1 ⟨rfl, hb1⟩))
  go_ret
  exact ⟨rfl, (Below.alloc (Below.refl _ _) (Nat.le_refl _) _).trans (hb1.mono (by simp))⟩

/-! ### registers -/
set_option maxRecDepth 100000 in
set_option maxHeartbeats 800000 in
theorem IndexReg (g : Nat) (p : Int → Bool) (a : Option Addr) (c : Nat) (l : List Int) (w : World) (h : At w a l) (hl : l.length ≤ 1000000)
    (hcall : ∀ (x : Int) (w' : World), x ∈ l → Below w.heap.size w w' → Calls Tryz.prog 200 #[.int .i64 x, .pointer (some ⟨g, 0, none⟩)] w' fun e w'' => e = .returned (.bool (p x)) ∧ Below w'.heap.size w' w'') :
    Calls Tryz.prog 165 #[.slice a l.length c, .func (.func 200) #[] #[.pointer (some ⟨g, 0, none⟩)]] w fun e w' => ((l.any p = true → ∃ j : Nat, e = .returned (.int .i64 (j : Int))) ∧ (l.any p = false → e = .returned (.int .i64 (-1)))) ∧ Below w.heap.size w w' := by
  have HC := hide hcall
  obtain ⟨R, hR⟩ : ∃ R, R = l.any p := ⟨_, rfl⟩
  rw [← hR]
  have HR := hide hR
  clear hcall hR
  go_enter Tryz.func165, Tryz.ntmps165
  go_wp2
  go_loopw [8] (fun i wr => ∃ k : Nat, i = .int .i64 k ∧ k ≤ l.length ∧ Hid (R = (l.drop k).any p) ∧ Below w.heap.size w wr) (fun i _ => l.length - (intOf i).toNat)
  case atStart => exact ⟨0, rfl, by omega, HR.out, Below.refl _ _⟩
  case round =>
    obtain ⟨k, rfl, hk, hRk, hbr⟩ := hrel
    by_cases hlt : k < l.length
    · obtain ⟨b1, off1, x, rfl, hx, x0⟩ := h.getI hbr hlt
      have hd := drop_at hx.out
      have hR2 := hRk.out
      rw [hd, List.any_cons] at hR2
      have hcx := fun w' hb => HC.out x w' (List.mem_of_getElem? hx.out) hb
      have HCX := hide hcx
      cases hp : p x with
      | true =>
        rw [hp] at hR2 HCX
        have HRT : Hid (R = true) := by show R = true; rw [hR2]; rfl
        clear hd hR2 hcx hx hp hRk
        go_wp2_with (go_at_call 200; ((with_reducible refine (HCX.out _ hbr).mono ?_); rintro e w1 ⟨rfl, hb1⟩))
        go_ret
        exact ⟨⟨fun _ => ⟨k, rfl⟩, fun h => by rw [HRT.out] at h; cases h⟩, hbr.trans (hb1.mono hbr.size)⟩
      | false =>
        rw [hp] at hR2 HCX
        have HR2 := hide hR2
        clear hd hR2 hcx hx hp hRk
        go_wp2_with (go_at_call 200; ((with_reducible refine (HCX.out _ hbr).mono ?_); rintro e w1 ⟨rfl, hb1⟩))
        go_roundw
        case rel => exact ⟨k + 1, by go_num, by omega, by show R = _; rw [HR2.out]; rfl, hbr.trans (hb1.mono hbr.size)⟩
        case measure => simp [intOf]; omega
    · obtain rfl : k = l.length := by omega
      have HRF : Hid (R = false) := by show R = false; rw [hRk.out, List.drop_eq_nil_of_le (by omega)]; rfl
      go_wp2
      go_ret
      exact ⟨⟨fun h => (by rw [HRF.out] at h; cases h), fun _ => rfl⟩, hbr⟩
theorem ContReg (g : Nat) (p : Int → Bool) (a : Option Addr) (c : Nat) (l : List Int) (w : World) (h : At w a l) (hl : l.length ≤ 1000000)
    (hcall : ∀ (x : Int) (w' : World), x ∈ l → Below w.heap.size w w' → Calls Tryz.prog 200 #[.int .i64 x, .pointer (some ⟨g, 0, none⟩)] w' fun e w'' => e = .returned (.bool (p x)) ∧ Below w'.heap.size w' w'') :
    Calls Tryz.prog 140 #[.slice a l.length c, .func (.func 200) #[] #[.pointer (some ⟨g, 0, none⟩)]] w fun e w' => e = .returned (.bool (l.any p)) ∧ Below w.heap.size w w' := by
  have HI := hide (IndexReg g p a c l w h hl hcall)
  clear hcall
  cases hp : l.any p with
  | true =>
    rw [hp] at HI
    clear hp
    go_enter Tryz.func140, Tryz.ntmps140
    go_wp2_with (go_at_call 165; ((with_reducible refine (HI.out).mono ?_); rintro e w1 ⟨⟨h1, h2⟩, hb1⟩; obtain ⟨j, rfl⟩ := h1 rfl; clear h1 h2))
    go_ret
    exact ⟨by simp, hb1⟩
  | false =>
    rw [hp] at HI
    clear hp
    go_enter Tryz.func140, Tryz.ntmps140
    go_wp2_with (go_at_call 165; ((with_reducible refine (HI.out).mono ?_); rintro e w1 ⟨⟨h1, h2⟩, hb1⟩; obtain rfl := h2 rfl; clear h1 h2))
    go_ret
    exact ⟨by simp, hb1⟩

theorem reg11_calls (regs n : Int) (g : Nat) (sl : Value) (w : World) (h : Blk w g 200 #[.int .i64 regs, sl]) : Calls Tryz.prog 200 #[.int .i64 n, .pointer (some ⟨g, 0, none⟩)] w fun e w' => e = .returned (.bool (decide (regs ≤ n))) ∧ Below w.heap.size w w' := by
  obtain ⟨q0, q1, q2, q3⟩ := h.c2
  go_enter Tryz.func200, Tryz.ntmps200
  go_wp2
  go_ret
  exact ⟨rfl, Below.refl _ _⟩
theorem off_any (regs : Int) (x : OpD) : offB regs x = ((if dOf x.kind = true then readsL x ++ [x.d] else readsL x).any fun n => decide (regs ≤ n)) := by
  have hb : bOf x.kind = true → aOf x.kind = true := by unfold bOf aOf; simp; omega
  unfold offB readsL
  cases hA : aOf x.kind <;> cases hB : bOf x.kind <;> cases hD : dOf x.kind <;> simp [hA, hB] at hb ⊢
  all_goals simp [Bool.or_assoc]
theorem reads_len (x : OpD) : (readsL x).length ≤ 2 := by unfold readsL; split <;> (try split) <;> simp

set_option maxHeartbeats 1600000 in
theorem reg1_calls (regs : Int) (g : Nat) (sl : Value) (x : OpD) (w : World) (h : Blk w g 200 #[.int .i64 regs, sl]) : Calls Tryz.prog 198 #[.agg #[.int .i64 x.kind, .int .i64 x.d, .int .i64 x.a, .int .i64 x.b, .int .u64 (x.v.toNat : Int)], .pointer (some ⟨g, 0, none⟩)] w fun e w' => e = .returned (.bool (offB regs x)) ∧ Below w.heap.size w w' := by
  have hoff := off_any regs x
  have HR := hide (fun w => Reads_calls x w)
  have HW := hide (fun w => Writes7_calls x w)
  have hlen := reads_len x
  unfold ReadsPost at HR
  obtain ⟨V, hV⟩ : ∃ V, V = offB regs x := ⟨_, rfl⟩
  rw [← hV] at hoff ⊢
  obtain ⟨k, rd, ra, rb, v⟩ := x
  simp only at *
  generalize readsL ⟨k, rd, ra, rb, v⟩ = L at *
  have HV := hide hoff
  clear hoff hV
  have hg := h.lt
  cases hD : dOf k with
  | false =>
    rw [hD] at HW HV
    simp only [Bool.false_eq_true, if_false] at HW HV
    have HC := hide (fun w' a c (g1 : At w' a L) (g2 : Blk w' g 200 #[.int .i64 regs, sl]) => ContReg g (fun n => decide (regs ≤ n)) a c L w' g1 (by omega) (fun x w2 _ hb => reg11_calls regs x g sl w2 (g2.belowN hb)))
    rw [← HV.out] at HC
    clear hD
    go_enter Tryz.func198, Tryz.ntmps198
    go_wp2_with (first
      | (go_at_call 199; ((with_reducible refine (HR.out _).mono ?_); rintro e w1 ⟨a1, c1, rfl, own1, hb1⟩; obtain ⟨hz, hB1, hX⟩ := box5 hb1; obtain ⟨x0, x1, x2, x3, x4, y0, y1, y2, y3, y4⟩ := hX.c5))
      | (go_at_call 149; ((with_reducible refine (HW.out _).mono ?_); rintro e w2 ⟨rfl, hb2⟩))
      | (go_at_call 140; ((with_reducible refine (HC.out _ _ _ (own1.belowN hb2).at_ ((h.belowN hB1).belowN hb2)).mono ?_); rintro e w3 ⟨rfl, hb3⟩)))
    go_ret
    exact ⟨rfl, hB1.trans ((hb2.trans (hb3.mono hb2.size)).mono hB1.size)⟩
  | true =>
    rw [hD] at HW HV
    simp only [if_true] at HW HV
    have HC := hide (fun w' a c (g1 : At w' a (L ++ [rd])) (g2 : Blk w' g 200 #[.int .i64 regs, sl]) => ContReg g (fun n => decide (regs ≤ n)) a c (L ++ [rd]) w' g1 (by simp; omega) (fun x w2 _ hb => reg11_calls regs x g sl w2 (g2.belowN hb)))
    rw [← HV.out] at HC
    rw [List.length_append, List.length_singleton] at HC
    clear hD
    go_enter Tryz.func198, Tryz.ntmps198
    go_wp2_with (first
      | (go_at_call 199; ((with_reducible refine (HR.out _).mono ?_); rintro e w1 ⟨a1, c1, rfl, own1, hb1⟩; obtain ⟨hz, hB1, hX⟩ := box5 hb1; obtain ⟨x0, x1, x2, x3, x4, y0, y1, y2, y3, y4⟩ := hX.c5; clear hb1))
      | (go_at_call 149; ((with_reducible refine (HW.out _).mono ?_); rintro e w2 ⟨rfl, hb2⟩; have own2 := own1.belowN hb2; have hB2 := hB1.trans (hb2.mono hB1.size); have hz2 := hb2.size; clear own1))
      | (at_builtin; refine wpList_push tyI own2 rd rfl rfl rfl rfl rfl rfl rfl (by simp; omega) (by omega) ?_; intro a3 c3 w3 hown3 hg3 _)
      | (go_at_call 140; ((with_reducible refine (HC.out _ _ _ hown3.at_ ?_).mono ?_); (focus (skip; exact ((h.belowN hB2).grown hg3 (fun e => by have := (own2.blk g e.symm).1; simp at this; omega)))); rintro e w4 ⟨rfl, hb4⟩)))
    go_ret
    have hB3 := below_push hB2 (own2.mono (by simp)) hg3 hB2.size
    exact ⟨rfl, hB3.trans (hb4.mono hB3.size)⟩

set_option maxRecDepth 100000 in
set_option maxHeartbeats 800000 in
theorem IndexRegs (g : Nat) (p : OpD → Bool) (a : Option Addr) (c : Nat) (l : List OpD) (w : World) (h : At w a l) (hl : l.length ≤ 1000000)
    (hcall : ∀ (x : OpD) (w' : World), x ∈ l → Below w.heap.size w w' → Calls Tryz.prog 198 #[.agg #[.int .i64 x.kind, .int .i64 x.d, .int .i64 x.a, .int .i64 x.b, .int .u64 (x.v.toNat : Int)], .pointer (some ⟨g, 0, none⟩)] w' fun e w'' => e = .returned (.bool (p x)) ∧ Below w'.heap.size w' w'') :
    Calls Tryz.prog 206 #[.slice a l.length c, .func (.func 198) #[] #[.pointer (some ⟨g, 0, none⟩)]] w fun e w' => ((l.any p = true → ∃ j : Nat, e = .returned (.int .i64 (j : Int))) ∧ (l.any p = false → e = .returned (.int .i64 (-1)))) ∧ Below w.heap.size w w' := by
  have HC := hide hcall
  obtain ⟨R, hR⟩ : ∃ R, R = l.any p := ⟨_, rfl⟩
  rw [← hR]
  have HR := hide hR
  clear hcall hR
  go_enter Tryz.func206, Tryz.ntmps206
  go_wp2
  go_loopw [8] (fun i wr => ∃ k : Nat, i = .int .i64 k ∧ k ≤ l.length ∧ Hid (R = (l.drop k).any p) ∧ Below w.heap.size w wr) (fun i _ => l.length - (intOf i).toNat)
  case atStart => exact ⟨0, rfl, by omega, HR.out, Below.refl _ _⟩
  case round =>
    obtain ⟨k, rfl, hk, hRk, hbr⟩ := hrel
    by_cases hlt : k < l.length
    · obtain ⟨b1, off1, x, rfl, hx, x0, x1, x2, x3, x4⟩ := h.getOp hbr hlt
      have hd := drop_at hx.out
      have hR2 := hRk.out
      rw [hd, List.any_cons] at hR2
      have hcx := fun w' hb => HC.out x w' (List.mem_of_getElem? hx.out) hb
      have HCX := hide hcx
      cases hp : p x with
      | true =>
        rw [hp] at hR2 HCX
        have HRT : Hid (R = true) := by show R = true; rw [hR2]; rfl
        clear hd hR2 hcx hx hp hRk
        go_wp2_with (go_at_call 198; ((with_reducible refine (HCX.out _ hbr).mono ?_); rintro e w1 ⟨rfl, hb1⟩))
        go_ret
        exact ⟨⟨fun _ => ⟨k, rfl⟩, fun h => by rw [HRT.out] at h; cases h⟩, hbr.trans (hb1.mono hbr.size)⟩
      | false =>
        rw [hp] at hR2 HCX
        have HR2 := hide hR2
        clear hd hR2 hcx hx hp hRk
        go_wp2_with (go_at_call 198; ((with_reducible refine (HCX.out _ hbr).mono ?_); rintro e w1 ⟨rfl, hb1⟩))
        go_roundw
        case rel => exact ⟨k + 1, by go_num, by omega, by show R = _; rw [HR2.out]; rfl, hbr.trans (hb1.mono hbr.size)⟩
        case measure => simp [intOf]; omega
    · obtain rfl : k = l.length := by omega
      have HRF : Hid (R = false) := by show R = false; rw [hRk.out, List.drop_eq_nil_of_le (by omega)]; rfl
      go_wp2
      go_ret
      exact ⟨⟨fun h => (by rw [HRF.out] at h; cases h), fun _ => rfl⟩, hbr⟩
theorem ContRegs (g : Nat) (p : OpD → Bool) (a : Option Addr) (c : Nat) (l : List OpD) (w : World) (h : At w a l) (hl : l.length ≤ 1000000)
    (hcall : ∀ (x : OpD) (w' : World), x ∈ l → Below w.heap.size w w' → Calls Tryz.prog 198 #[.agg #[.int .i64 x.kind, .int .i64 x.d, .int .i64 x.a, .int .i64 x.b, .int .u64 (x.v.toNat : Int)], .pointer (some ⟨g, 0, none⟩)] w' fun e w'' => e = .returned (.bool (p x)) ∧ Below w'.heap.size w' w'') :
    Calls Tryz.prog 197 #[.slice a l.length c, .func (.func 198) #[] #[.pointer (some ⟨g, 0, none⟩)]] w fun e w' => e = .returned (.bool (l.any p)) ∧ Below w.heap.size w w' := by
  have HI := hide (IndexRegs g p a c l w h hl hcall)
  clear hcall
  cases hp : l.any p with
  | true =>
    rw [hp] at HI
    clear hp
    go_enter Tryz.func197, Tryz.ntmps197
    go_wp2_with (go_at_call 206; ((with_reducible refine (HI.out).mono ?_); rintro e w1 ⟨⟨h1, h2⟩, hb1⟩; obtain ⟨j, rfl⟩ := h1 rfl; clear h1 h2))
    go_ret
    exact ⟨by simp, hb1⟩
  | false =>
    rw [hp] at HI
    clear hp
    go_enter Tryz.func197, Tryz.ntmps197
    go_wp2_with (go_at_call 206; ((with_reducible refine (HI.out).mono ?_); rintro e w1 ⟨⟨h1, h2⟩, hb1⟩; obtain rfl := h2 rfl; clear h1 h2))
    go_ret
    exact ⟨by simp, hb1⟩
theorem regsB_any (regs : Int) (l : List OpD) : regsB regs l = (decide (1 ≤ regs) && decide (regs ≤ 64) && !(l.any (offB regs))) := by
  unfold regsB
  congr 1
  induction l with
  | nil => rfl
  | cons x r ih => simp [ih]
set_option maxHeartbeats 800000 in
theorem registers_calls (regs : Int) (a : Option Addr) (c : Nat) (l : List OpD) (w : World) (h : At w a l) (hl : l.length ≤ 1000000) :
    Calls Tryz.prog 183 #[.agg #[.int .i64 regs, .slice a l.length c]] w fun e w' => e = .returned (.int .i64 (if regsB regs l = true then 0 else 7)) ∧ Below w.heap.size w w' := by
  have hX := Blk.new w 200 #[.int .i64 regs, .slice a l.length c]
  have hb1 : Below w.heap.size w (w.alloc (.cells #[.int .i64 regs, .slice a l.length c] 200)) := Below.alloc (Below.refl _ _) (Nat.le_refl _) _
  obtain ⟨R, hR⟩ : ∃ R, R = regsB regs l := ⟨_, rfl⟩
  have hR2 := hR.trans (regsB_any regs l)
  rw [← hR]
  have HF := hide (fun n w => fail_calls true n w)
  have HF0 := hide (fun n w => fail_calls false n w)
  have HC := hide (fun w' (g : At w' a l) (g2 : Blk w' w.heap.size 200 #[.int .i64 regs, .slice a l.length c]) => ContRegs w.heap.size (offB regs) a c l w' g hl (fun x w2 _ hb => reg1_calls regs w.heap.size _ x w2 (g2.belowN hb)))
  obtain ⟨Y, hY⟩ : ∃ Y, Y = l.any (offB regs) := ⟨_, rfl⟩
  rw [← hY] at hR2 HC
  have HR := hide hR2
  obtain ⟨V, hV⟩ : ∃ V : Int, V = if R = true then 0 else 7 := ⟨_, rfl⟩
  rw [← hV]
  have HV := hide hV
  clear hR hR2 hY hV
  by_cases h1 : regs < 1
  · have hRf : Hid (R = false) := by show R = false; rw [HR.out]; simp; omega
    have d1 : decide (regs < 1) = true := by simp; omega
    go_enter Tryz.func183, Tryz.ntmps183
    go_wp2_with (go_at_call 124; ((with_reducible refine (HF.out _ _).mono ?_); rintro e w2 ⟨rfl, rfl⟩))
    go_ret
    exact ⟨by rw [HV.out, hRf.out] <;> rfl, hb1⟩
  have d1 : decide (regs < 1) = false := by simp; omega
  by_cases h2 : 64 < regs
  · have hRf : Hid (R = false) := by show R = false; rw [HR.out]; simp; omega
    have d2 : decide (64 < regs) = true := by simp; omega
    go_enter Tryz.func183, Tryz.ntmps183
    go_wp2_with (go_at_call 124; ((with_reducible refine (HF.out _ _).mono ?_); rintro e w2 ⟨rfl, rfl⟩))
    go_ret
    exact ⟨by rw [HV.out, hRf.out] <;> rfl, hb1⟩
  have d2 : decide (64 < regs) = false := by simp; omega
  have hRy : Hid (R = !Y) := by show R = _; rw [HR.out]; simp; omega
  have hz : (w.alloc (.cells #[.int .i64 regs, .slice a l.length c] 200)).heap.size = w.heap.size + 1 := by simp
  have HZ := hide hz
  clear hz
  cases Y
  all_goals
    go_enter Tryz.func183, Tryz.ntmps183
    go_wp2_with (first
      | (go_at_call 197; ((with_reducible refine (HC.out _ (h.belowN hb1) hX).mono ?_); rintro e w2 ⟨rfl, hb2⟩; rw [HZ.out] at hb2))
      | (go_at_call 124; first | ((with_reducible refine (HF.out _ _).mono ?_); rintro e w3 ⟨rfl, rfl⟩) | ((with_reducible refine (HF0.out _ _).mono ?_); rintro e w3 ⟨rfl, rfl⟩)))
    go_ret
    exact ⟨by rw [HV.out, hRy.out] <;> rfl, hb1.trans (hb2.mono (by omega))⟩
end Go.Proofs.YtcamcnahkdiefaaGreat

/- Chapter 10: all looks, in their order, at some programs. -/
namespace Go.Proofs.YtcamcnahkdiefaaGreat
set_option linter.unusedVariables false
set_option linter.unusedSimpArgs false
open Go.RowKit

def lookV (regs : Int) (sl : Value) (i : Nat) : Value :=
  if i = 0 then .func (.func 182) #[.agg #[.int .i64 regs, sl]] #[] else if i = 1 then .func (.func 183) #[.agg #[.int .i64 regs, sl]] #[]
  else if i = 2 then .func (.func 184) #[.agg #[.int .i64 regs, sl]] #[] else .func (.func 185) #[.agg #[.int .i64 regs, sl]] #[]
def lookA (regs : Int) (sl : Value) : Array Value := #[lookV regs sl 0, lookV regs sl 1, lookV regs sl 2, lookV regs sl 3]
theorem looks_calls (regs : Int) (sl : Value) (w : World) : Calls Tryz.prog 156 #[.agg #[.int .i64 regs, sl]] w fun e w' =>
    ∃ g, e = .returned (.slice (some ⟨g, 0, none⟩) 4 4) ∧ w.heap.size ≤ g ∧ Blk w' g 242 (lookA regs sl) ∧ Below w.heap.size w w' := by
  go_enter Tryz.func156, Tryz.ntmps156
  go_wp2
  go_ret
  exact ⟨w.heap.size + 1, rfl, by omega, by have := Blk.new (w.alloc (.cells #[.int .i64 regs, sl] 200)) 242 (lookA regs sl); simp at this; exact this, (by with_reducible repeat first | exact Below.refl _ _ | assumption | refine below_drewN ?_ _ | refine Below.drew ?_ | refine Below.alloc ?_ (by simp <;> omega) _ | refine Below.setCell ?_ (by simp <;> omega) _)⟩

structure PrD where
  regs : Int
  a : Option Addr
  c : Nat
  l : List OpD
instance : Flat PrD := ⟨2, fun x => [.int .i64 x.regs, .slice x.a x.l.length x.c], fun _ => rfl, fun x u hu => by simp at hu; rcases hu with rfl | rfl <;> rfl, by decide⟩
def PrD.sl (p : PrD) : Value := .slice p.a p.l.length p.c
def errI (i : Nat) (p : PrD) : Int := if i = 0 then (if formB p.l = true then 0 else 6) else if i = 1 then (if regsB p.regs p.l = true then 0 else 7) else if i = 2 then (if (deepS p.l).1 ≤ 8 then 0 else 8) else sizeE p.l
def rowE (i : Nat) : List PrD → Int
  | [] => 0
  | p :: r => if errI i p ≠ 0 then errI i p else rowE i r
def firstL (ps : List PrD) : List Nat → Int
  | [] => 0
  | i :: r => if rowE i ps ≠ 0 then rowE i ps else firstL ps r
def firstS (ps : List PrD) : Int := firstL ps [0, 1, 2, 3]

def LooksAt (w : World) (ao : Option Addr) (hs : List Hd) (ps : List PrD) : Prop :=
  hs.length = ps.length ∧ ∀ (j : Nat) (h : Hd) (p : PrD), hs[j]? = some h → ps[j]? = some p → ∃ g, h = ⟨some ⟨g, 0, none⟩, 4, 4⟩ ∧ Blk w g 242 (lookA p.regs p.sl) ∧ ao.map (·.block) ≠ some g
theorem LooksAt.nil (w : World) : LooksAt w none [] [] := ⟨rfl, fun j h p hh => by simp at hh⟩
theorem LooksAt.belowN {w w' : World} {ao : Option Addr} {hs : List Hd} {ps : List PrD} (h : LooksAt w ao hs ps) (hb : Below w.heap.size w w') : LooksAt w' ao hs ps :=
  ⟨h.1, fun j hd p h1 h2 => let ⟨g, e1, e2, e3⟩ := h.2 j hd p h1 h2; ⟨g, e1, e2.belowN hb, e3⟩⟩
theorem LooksAt.push {w w' : World} {ao ao' : Option Addr} {hs : List Hd} {ps : List PrD} {p : PrD} {g : Nat} (h : LooksAt w ao hs ps) (hg : Blk w g 242 (lookA p.regs p.sl)) (hne : ao.map (·.block) ≠ some g)
    (hw : w.grownBy w' (ao.map (·.block))) (hm : ao'.map (·.block) = ao.map (·.block) ∨ ∃ g', ao'.map (·.block) = some g' ∧ w.heap.size ≤ g') : LooksAt w' ao' (hs ++ [⟨some ⟨g, 0, none⟩, 4, 4⟩]) (ps ++ [p]) := by
  have far : ∀ g cs, Blk w g 242 cs → ao.map (·.block) ≠ some g → ao'.map (·.block) ≠ some g := by
    intro g cs hb hn
    rcases hm with e | ⟨g', e, hle⟩
    · rw [e]; exact hn
    · rw [e]; have := hb.lt; simp; omega
  refine ⟨by simp [h.1], fun j hd q h1 h2 => ?_⟩
  by_cases hj : j < hs.length
  · rw [List.getElem?_append_left hj] at h1
    rw [List.getElem?_append_left (by rw [← h.1]; exact hj)] at h2
    obtain ⟨g1, e1, e2, e3⟩ := h.2 j hd q h1 h2
    exact ⟨g1, e1, e2.grown hw (fun e => e3 e.symm), far _ _ e2 e3⟩
  · have hj0 : j = hs.length := by have := (List.getElem?_eq_some_iff.1 h1).1; simp at this; omega
    subst hj0
    rw [List.getElem?_append_right (Nat.le_refl _), Nat.sub_self] at h1
    rw [h.1, List.getElem?_append_right (Nat.le_refl _), Nat.sub_self] at h2
    simp at h1 h2
    subst h1 h2
    exact ⟨g, rfl, hg.grown hw (fun e => hne e.symm), far _ _ hg hne⟩

theorem take_snoc' {α : Type} {l : List α} {k : Nat} {x : α} (h : l[k]? = some x) : l.take k ++ [x] = l.take (k + 1) := by rw [List.take_add_one, h]; rfl
theorem tyLooks : Ty Tryz.prog 239 240 Hd := Ty.of (z := .slice none 0 0) (size := 1) (bytes := 24) Tryz.underlying239 (by kernel_rfl) rfl (by decide) rfl
theorem At.getPr {w wr : World} {a : Option Addr} {l : List PrD} (h : At w a l) (hb : Below w.heap.size w wr) {k : Nat} (hk : k < l.length) :
    ∃ b off x, a = some ⟨b, off, none⟩ ∧ Hid (l[k]? = some x) ∧ wr.cell? ⟨b, off + k * 2, none⟩ = some (.int .i64 x.regs) ∧ wr.cell? ⟨b, off + k * 2 + 1, none⟩ = some (.slice x.a x.l.length x.c) := by
  obtain ⟨b, off, x, e, hx, hc⟩ := (h.belowN hb).get hk
  exact ⟨b, off, x, e, hx, hc 0 _ rfl, hc 1 _ rfl⟩
theorem At.getHd {w wr : World} {a : Option Addr} {l : List Hd} (h : At w a l) (hb : Below w.heap.size w wr) {k : Nat} (hk : k < l.length) :
    ∃ b off x, a = some ⟨b, off, none⟩ ∧ Hid (l[k]? = some x) ∧ wr.cell? ⟨b, off + k, none⟩ = some (.slice x.a x.n x.c) := by
  obtain ⟨b, off, x, e, hx, hc⟩ := (h.belowN hb).get hk
  have := hc 0 _ rfl
  exact ⟨b, off, x, e, hx, by simpa [Flat.n] using this⟩

set_option maxRecDepth 100000 in
set_option maxHeartbeats 3200000 in
theorem first_calls (ap : Option Addr) (cp : Nat) (ps : List PrD) (w : World) (h : At w ap ps) (hn : ps.length ≤ 1000) (hp : ∀ p ∈ ps, At w p.a p.l ∧ p.l.length ≤ 1000000) :
    Calls Tryz.prog 123 #[.slice ap ps.length cp] w fun e w' => e = .returned (.int .i64 (firstS ps)) ∧ Below w.heap.size w w' := by
  obtain ⟨R, hR⟩ : ∃ R, R = firstS ps := ⟨_, rfl⟩
  rw [← hR]
  have HR := hide hR
  have HP := hide hp
  clear hR hp
  go_enter Tryz.func123, Tryz.ntmps123
  go_wp2
  go_loopw [3, 12] (fun al i wr => ∃ (k : Nat) (ao : Option Addr) (co : Nat) (hs : List Hd), i = .int .i64 k ∧ k ≤ ps.length ∧ al = .slice ao k co ∧ Hid (hs.length = k) ∧ Own wr w.heap.size 240 ao co hs ∧ Hid (LooksAt wr ao hs (ps.take k)) ∧ Below w.heap.size w wr) (fun _ i _ => ps.length - (intOf i).toNat)
  case atStart => exact ⟨0, none, 0, [], rfl, by omega, rfl, rfl, Own.none _ _ _, hide (LooksAt.nil _), Below.refl _ _⟩
  case round =>
    obtain ⟨k, ao, co, hs, rfl, hk, rfl, hhs, hown, hla, hbr⟩ := hrel
    have hzr := hbr.size
    by_cases hlt : k < ps.length
    · obtain ⟨b1, off1, x, rfl, hx, x0, x1⟩ := h.getPr hbr hlt
      have HT := hide (take_snoc' hx.out)
      have hown0 : Own (wr.alloc (.cells #[.int .i64 x.regs, .slice x.a x.l.length x.c] 200)) w.heap.size 240 ao co hs := hown.alloc _
      have hb0 : Below w.heap.size w (wr.alloc (.cells #[.int .i64 x.regs, .slice x.a x.l.length x.c] 200)) := hbr.alloc hzr _
      have hla0 : Hid (LooksAt (wr.alloc (.cells #[.int .i64 x.regs, .slice x.a x.l.length x.c] 200)) ao hs (ps.take k)) := hide (hla.out.belowN (Below.alloc (Below.refl _ _) (Nat.le_refl _) _))
      clear hx
      go_wp2_with (first
        | (go_at_call 156; ((with_reducible refine (looks_calls _ _ _).mono ?_); rintro e w1 ⟨g, rfl, hg, hblk, hb1⟩; have hown1 := hown0.belowN hb1; have hz1 := Nat.le_trans hb0.size hb1.size; have hla1 := hide (hla0.out.belowN hb1); have HBLK := hide hblk; clear hblk))
        | (at_builtin; refine wpList_push tyLooks hown1 (⟨some ⟨g, 0, none⟩, 4, 4⟩ : Hd) rfl rfl rfl rfl rfl rfl hhs.out.symm hz1 (by omega) ?_; intro a3 c3 w3 hown3 hg3 hm3))
      have hb2 := hb0.trans (hb1.mono hb0.size)
      go_roundw
      case rel =>
        refine ⟨k + 1, a3, c3, hs ++ [⟨some ⟨g, 0, none⟩, 4, 4⟩], by go_num, by omega, rfl, by show List.length _ = _; rw [List.length_append, hhs.out]; rfl, hown3, ?_, below_push hb2 hown1 hg3 hz1⟩
        show LooksAt _ _ _ _
        rw [← HT.out]
        exact hla1.out.push HBLK.out (fun e => by have := (hown0.blk g e).2; omega) hg3 hm3
      case measure => simp [intOf]; omega
    · obtain rfl : k = ps.length := by omega
      rw [List.take_length] at hla
      have hat := hown.at_
      clear hk hlt
      rename World => W1
      go_wp2
      go_loopw [22] (fun i w2 => ∃ k : Nat, i = .int .i64 k ∧ k ≤ 4 ∧ Hid (R = firstL ps ([0, 1, 2, 3].drop k)) ∧ Below W1.heap.size W1 w2) (fun i _ => 4 - (intOf i).toNat)
      case atStart => exact ⟨0, rfl, by omega, HR.out, Below.refl _ _⟩
      case round =>
        obtain ⟨k, rfl, hk, hRk, hb2⟩ := hrel
        have hz2 := hb2.size
        have hlp : ps.length ≤ 1000 := hn
        by_cases hlt : k < 4
        · have dk : decide ((k : Int) < 4) = true := by simp; omega
          go_wp2
          go_loopw [27] (fun i w3 => ∃ j : Nat, i = .int .i64 j ∧ j ≤ ps.length ∧ Hid (R = if rowE k (ps.drop j) ≠ 0 then rowE k (ps.drop j) else firstL ps ([0, 1, 2, 3].drop (k + 1))) ∧ Below W1.heap.size W1 w3) (fun i _ => ps.length - (intOf i).toNat)
          case atStart =>
            refine ⟨0, rfl, by omega, ?_, hb2⟩
            have h4 : k = 0 ∨ k = 1 ∨ k = 2 ∨ k = 3 := by omega
            show R = _
            rw [hRk.out]
            rcases h4 with rfl | rfl | rfl | rfl <;> rfl
          case round =>
            obtain ⟨j, rfl, hj, hRj, hb3⟩ := hrel
            have hz3 := hb3.size
            by_cases hjlt : j < ps.length
            · obtain ⟨b1, off1, hd, rfl, hhd, x0⟩ := hat.getHd hb3 (show j < hs.length by rw [hhs.out]; exact hjlt)
              have hpj := List.getElem?_eq_getElem hjlt
              obtain ⟨p, hp⟩ : ∃ p, p = ps[j] := ⟨_, rfl⟩
              rw [← hp] at hpj
              obtain ⟨g, rfl, hblk, _⟩ := hla.out.2 j hd p hhd.out hpj
              have hblk3 := hblk.belowN hb3
              obtain ⟨hpa, hpl⟩ := HP.out p (List.mem_of_getElem? hpj)
              have hpa3 := hpa.belowN (hbr.trans (hb3.mono hzr))
              have hd := drop_at hpj
              have hRj' := hRj.out
              rw [hd] at hRj'
              change R = (if (if errI k p ≠ 0 then errI k p else rowE k (ps.drop (j + 1))) ≠ 0 then (if errI k p ≠ 0 then errI k p else rowE k (ps.drop (j + 1))) else firstL ps ([0, 1, 2, 3].drop (k + 1))) at hRj'
              have HRJ := hide hRj'
              obtain ⟨E, hE⟩ : ∃ E, E = errI k p := ⟨_, rfl⟩
              have HE := hide hE
              have c0 : Hid (_ = some (lookV p.regs p.sl 0)) := hide (hblk3.cell_ (i := 0) (v := lookV p.regs p.sl 0) rfl)
              have c1 : Hid (_ = some (lookV p.regs p.sl 1)) := hide (hblk3.cell_ (i := 1) (v := lookV p.regs p.sl 1) rfl)
              have c2 : Hid (_ = some (lookV p.regs p.sl 2)) := hide (hblk3.cell_ (i := 2) (v := lookV p.regs p.sl 2) rfl)
              have c3 : Hid (_ = some (lookV p.regs p.sl 3)) := hide (hblk3.cell_ (i := 3) (v := lookV p.regs p.sl 3) rfl)
              clear hpj hp hhd hblk hblk3 hd hRj' hE hRj hRk
              have h4 : k = 0 ∨ k = 1 ∨ k = 2 ∨ k = 3 := by omega
              by_cases hE0 : E = 0
              ·
                rcases h4 with hk0 | hk0 | hk0 | hk0
                · have f0 : wr.cell? ⟨g, k, none⟩ = some (.func (.func 182) #[.agg #[.int .i64 p.regs, .slice p.a p.l.length p.c]] #[]) := by rw [hk0]; exact c0.out
                  have HF : Hid (Calls Tryz.prog 182 #[.agg #[.int .i64 p.regs, .slice p.a p.l.length p.c]] wr fun e w' => e = .returned (.int .i64 E) ∧ Below wr.heap.size wr w') := hide (by rw [HE.out, hk0]; exact form_calls p.regs p.a p.c p.l _ hpa3 hpl)
                  clear hk0
                  obtain rfl := hE0
                  go_wp2_with (go_at_call 182; ((with_reducible refine (HF.out).mono ?_); rintro e w4 ⟨rfl, hb4⟩))
                  go_roundw
                  case rel => exact ⟨j + 1, by go_num, by omega, hide (by rw [HRJ.out, ← HE.out]; simp), hb3.trans (hb4.mono hz3)⟩
                  case measure => simp [intOf]; omega
                · have f0 : wr.cell? ⟨g, k, none⟩ = some (.func (.func 183) #[.agg #[.int .i64 p.regs, .slice p.a p.l.length p.c]] #[]) := by rw [hk0]; exact c1.out
                  have HF : Hid (Calls Tryz.prog 183 #[.agg #[.int .i64 p.regs, .slice p.a p.l.length p.c]] wr fun e w' => e = .returned (.int .i64 E) ∧ Below wr.heap.size wr w') := hide (by rw [HE.out, hk0]; exact registers_calls p.regs p.a p.c p.l _ hpa3 hpl)
                  clear hk0
                  obtain rfl := hE0
                  go_wp2_with (go_at_call 183; ((with_reducible refine (HF.out).mono ?_); rintro e w4 ⟨rfl, hb4⟩))
                  go_roundw
                  case rel => exact ⟨j + 1, by go_num, by omega, hide (by rw [HRJ.out, ← HE.out]; simp), hb3.trans (hb4.mono hz3)⟩
                  case measure => simp [intOf]; omega
                · have f0 : wr.cell? ⟨g, k, none⟩ = some (.func (.func 184) #[.agg #[.int .i64 p.regs, .slice p.a p.l.length p.c]] #[]) := by rw [hk0]; exact c2.out
                  have HF : Hid (Calls Tryz.prog 184 #[.agg #[.int .i64 p.regs, .slice p.a p.l.length p.c]] wr fun e w' => e = .returned (.int .i64 E) ∧ Below wr.heap.size wr w') := hide (by rw [HE.out, hk0]; exact depth_calls p.regs p.a p.c p.l _ hpa3 hpl)
                  clear hk0
                  obtain rfl := hE0
                  go_wp2_with (go_at_call 184; ((with_reducible refine (HF.out).mono ?_); rintro e w4 ⟨rfl, hb4⟩))
                  go_roundw
                  case rel => exact ⟨j + 1, by go_num, by omega, hide (by rw [HRJ.out, ← HE.out]; simp), hb3.trans (hb4.mono hz3)⟩
                  case measure => simp [intOf]; omega
                · have f0 : wr.cell? ⟨g, k, none⟩ = some (.func (.func 185) #[.agg #[.int .i64 p.regs, .slice p.a p.l.length p.c]] #[]) := by rw [hk0]; exact c3.out
                  have HF : Hid (Calls Tryz.prog 185 #[.agg #[.int .i64 p.regs, .slice p.a p.l.length p.c]] wr fun e w' => e = .returned (.int .i64 E) ∧ Below wr.heap.size wr w') := hide (by rw [HE.out, hk0]; exact cwrites_calls p.regs p.a p.c p.l _ hpa3 hpl)
                  clear hk0
                  obtain rfl := hE0
                  go_wp2_with (go_at_call 185; ((with_reducible refine (HF.out).mono ?_); rintro e w4 ⟨rfl, hb4⟩))
                  go_roundw
                  case rel => exact ⟨j + 1, by go_num, by omega, hide (by rw [HRJ.out, ← HE.out]; simp), hb3.trans (hb4.mono hz3)⟩
                  case measure => simp [intOf]; omega
              ·
                rcases h4 with hk0 | hk0 | hk0 | hk0
                · have f0 : wr.cell? ⟨g, k, none⟩ = some (.func (.func 182) #[.agg #[.int .i64 p.regs, .slice p.a p.l.length p.c]] #[]) := by rw [hk0]; exact c0.out
                  have HF : Hid (Calls Tryz.prog 182 #[.agg #[.int .i64 p.regs, .slice p.a p.l.length p.c]] wr fun e w' => e = .returned (.int .i64 E) ∧ Below wr.heap.size wr w') := hide (by rw [HE.out, hk0]; exact form_calls p.regs p.a p.c p.l _ hpa3 hpl)
                  clear hk0
                  have hE1 : (E == 0) = false := by simpa using hE0
                  have hE2 : (E != 0) = true := by simpa using hE0
                  have HE0 := hide hE0
                  clear hE0
                  go_wp2_with (go_at_call 182; ((with_reducible refine (HF.out).mono ?_); rintro e w4 ⟨rfl, hb4⟩))
                  go_ret
                  exact ⟨by rw [HRJ.out, ← HE.out, if_pos HE0.out, if_pos HE0.out] <;> rfl, hbr.trans ((hb3.trans (hb4.mono hz3)).mono hzr)⟩
                · have f0 : wr.cell? ⟨g, k, none⟩ = some (.func (.func 183) #[.agg #[.int .i64 p.regs, .slice p.a p.l.length p.c]] #[]) := by rw [hk0]; exact c1.out
                  have HF : Hid (Calls Tryz.prog 183 #[.agg #[.int .i64 p.regs, .slice p.a p.l.length p.c]] wr fun e w' => e = .returned (.int .i64 E) ∧ Below wr.heap.size wr w') := hide (by rw [HE.out, hk0]; exact registers_calls p.regs p.a p.c p.l _ hpa3 hpl)
                  clear hk0
                  have hE1 : (E == 0) = false := by simpa using hE0
                  have hE2 : (E != 0) = true := by simpa using hE0
                  have HE0 := hide hE0
                  clear hE0
                  go_wp2_with (go_at_call 183; ((with_reducible refine (HF.out).mono ?_); rintro e w4 ⟨rfl, hb4⟩))
                  go_ret
                  exact ⟨by rw [HRJ.out, ← HE.out, if_pos HE0.out, if_pos HE0.out] <;> rfl, hbr.trans ((hb3.trans (hb4.mono hz3)).mono hzr)⟩
                · have f0 : wr.cell? ⟨g, k, none⟩ = some (.func (.func 184) #[.agg #[.int .i64 p.regs, .slice p.a p.l.length p.c]] #[]) := by rw [hk0]; exact c2.out
                  have HF : Hid (Calls Tryz.prog 184 #[.agg #[.int .i64 p.regs, .slice p.a p.l.length p.c]] wr fun e w' => e = .returned (.int .i64 E) ∧ Below wr.heap.size wr w') := hide (by rw [HE.out, hk0]; exact depth_calls p.regs p.a p.c p.l _ hpa3 hpl)
                  clear hk0
                  have hE1 : (E == 0) = false := by simpa using hE0
                  have hE2 : (E != 0) = true := by simpa using hE0
                  have HE0 := hide hE0
                  clear hE0
                  go_wp2_with (go_at_call 184; ((with_reducible refine (HF.out).mono ?_); rintro e w4 ⟨rfl, hb4⟩))
                  go_ret
                  exact ⟨by rw [HRJ.out, ← HE.out, if_pos HE0.out, if_pos HE0.out] <;> rfl, hbr.trans ((hb3.trans (hb4.mono hz3)).mono hzr)⟩
                · have f0 : wr.cell? ⟨g, k, none⟩ = some (.func (.func 185) #[.agg #[.int .i64 p.regs, .slice p.a p.l.length p.c]] #[]) := by rw [hk0]; exact c3.out
                  have HF : Hid (Calls Tryz.prog 185 #[.agg #[.int .i64 p.regs, .slice p.a p.l.length p.c]] wr fun e w' => e = .returned (.int .i64 E) ∧ Below wr.heap.size wr w') := hide (by rw [HE.out, hk0]; exact cwrites_calls p.regs p.a p.c p.l _ hpa3 hpl)
                  clear hk0
                  have hE1 : (E == 0) = false := by simpa using hE0
                  have hE2 : (E != 0) = true := by simpa using hE0
                  have HE0 := hide hE0
                  clear hE0
                  go_wp2_with (go_at_call 185; ((with_reducible refine (HF.out).mono ?_); rintro e w4 ⟨rfl, hb4⟩))
                  go_ret
                  exact ⟨by rw [HRJ.out, ← HE.out, if_pos HE0.out, if_pos HE0.out] <;> rfl, hbr.trans ((hb3.trans (hb4.mono hz3)).mono hzr)⟩
            · obtain rfl : j = ps.length := by omega
              go_wp2
              go_roundw
              case rel =>
                refine ⟨k + 1, by go_num, by omega, ?_, hb3⟩
                show R = _
                rw [hRj.out, List.drop_eq_nil_of_le (Nat.le_refl _)]
                simp [rowE]
              case measure => simp [intOf]; omega
        · obtain rfl : k = 4 := by omega
          go_wp2
          go_ret
          exact ⟨by rw [hRk.out] <;> rfl, hbr.trans (hb2.mono hzr)⟩
end Go.Proofs.YtcamcnahkdiefaaGreat

/- Chapter 10: Program. -/
namespace Go.Proofs.YtcamcnahkdiefaaGreat
set_option linter.unusedVariables false
set_option linter.unusedSimpArgs false
open Go.RowKit

theorem rowE_one (i : Nat) (p : PrD) : rowE i [p] = errI i p := by
  unfold rowE rowE
  by_cases h : errI i p = 0
  · rw [if_neg (by simpa using h), h]
  · rw [if_pos h]
theorem firstS_one' (p : PrD) : firstS [p] = if errI 0 p ≠ 0 then errI 0 p else if errI 1 p ≠ 0 then errI 1 p else if errI 2 p ≠ 0 then errI 2 p else if errI 3 p ≠ 0 then errI 3 p else 0 := by
  simp only [firstS, firstL, rowE_one]
theorem firstS_one (p : PrD) : firstS [p] = checkS p.regs p.l := by
  rw [firstS_one']
  unfold checkS
  by_cases h1 : formB p.l = true
  · have hw : well p.l = true := by unfold formB at h1; simp only [Bool.and_eq_true] at h1; exact h1.1.2
    have hd : (deepS p.l).1 = (deepL p.l : Int) := by unfold deepS; rw [if_pos hw]
    have hs : sizeE p.l = if (measL p.l).isSome = true then 0 else 9 := by unfold sizeE; rw [if_pos hw]
    have e0 : errI 0 p = 0 := by show (if formB p.l = true then (0 : Int) else 6) = 0; rw [if_pos h1]
    rw [e0, if_pos h1, if_neg (by simp)]
    by_cases h2 : regsB p.regs p.l = true
    · have e1 : errI 1 p = 0 := by show (if regsB p.regs p.l = true then (0 : Int) else 7) = 0; rw [if_pos h2]
      rw [e1, if_pos h2, if_neg (by simp)]
      by_cases h3 : deepL p.l ≤ 8
      · have e2 : errI 2 p = 0 := by show (if (deepS p.l).1 ≤ 8 then (0 : Int) else 8) = 0; rw [if_pos (by omega)]
        have e3 : errI 3 p = if (measL p.l).isSome = true then 0 else 9 := hs
        rw [e2, if_pos h3, if_neg (by simp), e3]
        split <;> simp
      · have e2 : errI 2 p = 8 := by show (if (deepS p.l).1 ≤ 8 then (0 : Int) else 8) = 8; rw [if_neg (by omega)]
        rw [e2, if_neg h3]
        simp
    · have e1 : errI 1 p = 7 := by show (if regsB p.regs p.l = true then (0 : Int) else 7) = 7; rw [if_neg h2]
      rw [e1, if_neg h2]
      simp
  · have e0 : errI 0 p = 6 := by show (if formB p.l = true then (0 : Int) else 6) = 6; rw [if_neg h1]
    rw [e0, if_neg h1]
    simp
theorem Prog_calls (regs : Int) (a : Option Addr) (c : Nat) (l : List OpD) (w : World) (h : At w a l) (hl : l.length ≤ 1000000) :
    Calls Tryz.prog 95 #[.agg #[.int .i64 regs, .slice a l.length c]] w fun e w' => e = .returned (.int .i64 (checkS regs l)) ∧ Below w.heap.size w w' := by
  have hb : Below w.heap.size w ((w.alloc (.cells #[.int .i64 regs, .slice a l.length c] 24)).alloc (.cells #[.int .i64 regs, .slice a l.length c] 200)) := Below.alloc (Below.alloc (Below.refl _ _) (Nat.le_refl _) _) (by simp) _
  have hat : At ((w.alloc (.cells #[.int .i64 regs, .slice a l.length c] 24)).alloc (.cells #[.int .i64 regs, .slice a l.length c] 200)) (some ⟨w.heap.size + 1, 0, none⟩) [(⟨regs, a, c, l⟩ : PrD)] :=
    At.ofBlk (g := w.heap.size + 1) (T := 200) (cs := #[.int .i64 regs, .slice a l.length c]) (by simpa using Blk.new (w.alloc (.cells #[.int .i64 regs, .slice a l.length c] 24)) 200 #[.int .i64 regs, .slice a l.length c]) ([⟨regs, a, c, l⟩] : List PrD) rfl
  have HF := hide (first_calls (some ⟨w.heap.size + 1, 0, none⟩) 1 [⟨regs, a, c, l⟩] _ hat (by simp) (fun p hp => (by simp at hp; subst hp; exact ⟨h.belowN hb, hl⟩ : At _ p.a p.l ∧ p.l.length ≤ 1000000)))
  rw [firstS_one] at HF
  simp only [List.length_singleton] at HF
  generalize checkS regs l = V at *
  go_enter Tryz.func95, Tryz.ntmps95
  go_wp2_with (go_at_call 123; ((with_reducible refine (HF.out).mono ?_); rintro e w1 ⟨rfl, hb1⟩))
  go_ret
  exact ⟨rfl, hb.trans (hb1.mono hb.size)⟩
end Go.Proofs.YtcamcnahkdiefaaGreat

/- Several texts of mine in one file: R10, R10b. -/
/- Chapter 10, the document's answers: whether a program may be. -/
namespace Go.Proofs.YtcamcnahkdiefaaGreat
set_option linter.unusedVariables false
set_option linter.unusedSimpArgs false
open Go.RowKit

theorem below_new (w : World) (o : Obj) : Below w.heap.size w (w.alloc o) := Below.alloc (Below.refl _ _) (Nat.le_refl _) _
end Go.Proofs.YtcamcnahkdiefaaGreat

/- Chapter 10, the document's answers: the looks, and Program. -/
namespace Go.Proofs.YtcamcnahkdiefaaGreat
set_option linter.unusedVariables false
set_option linter.unusedSimpArgs false
open Go.RowKit

end Go.Proofs.YtcamcnahkdiefaaGreat
