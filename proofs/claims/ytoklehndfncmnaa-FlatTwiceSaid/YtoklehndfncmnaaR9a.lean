/- Chapter 9, the document's answers: what stands from a place up to another one; blocks. -/
import Derived.Test.YtoklehndfncmnaaR7
import Derived.Test.YtoklehndfncmnaaM9d
namespace Go.Proofs.Ytoklehndfncmnaa
set_option linter.unusedVariables false
set_option linter.unusedSimpArgs false
open Go.RowKit

theorem min_mul (a v : Nat) : (if min a 65537 = 0 ∨ v = 0 then 0 else if 65536 < v then 65537 else if 65536 < min a 65537 * v then 65537 else min a 65537 * v) = min (a * v) 65537 := by
  by_cases h0 : a = 0
  · subst h0; simp
  · by_cases hv : v = 0
    · subst hv; simp
    · rw [if_neg (by omega)]
      have h1 : v ≤ a * v := Nat.le_mul_of_pos_left _ (by omega)
      by_cases h2 : 65536 < v
      · rw [if_pos h2]; omega
      · rw [if_neg h2]
        by_cases h3 : a ≤ 65537
        · rw [Nat.min_eq_left h3]
          split <;> omega
        · have h4 : a ≤ a * v := Nat.le_mul_of_pos_right _ (by omega)
          rw [Nat.min_eq_right (by omega : 65537 ≤ a)]
          have : 65537 ≤ 65537 * v := Nat.le_mul_of_pos_right _ (by omega)
          split <;> omega

/-- capped -/
def capW (n : Nat) : Int := ((min n 65537 : Nat) : Int)

/-- The place where a forest stands in all operations, with what belongs together. -/
structure Stands (l : List OpD) (m : List Int) (o : Nat) (f : Fo) : Prop where
  ok : f.ok
  ops : ∃ pre post, l = pre ++ f.flat ++ post ∧ pre.length = o
  mt : ∃ pre post, m = pre ++ mtT o f ++ post ∧ pre.length = o
theorem Stands.lt {l : List OpD} {m : List Int} {o : Nat} {f : Fo} (h : Stands l m o f) : o + f.size ≤ l.length ∧ o + f.size ≤ m.length := by
  obtain ⟨pre, post, e, hp⟩ := h.ops
  obtain ⟨pm, qm, e2, hp2⟩ := h.mt
  subst e e2
  simp [mtT_length, Fo.size]
  omega
theorem Stands.leaf {l : List OpD} {m : List Int} {o : Nat} {op : OpD} {r : Fo} (h : Stands l m o (.leaf op r)) : l[o]? = some op ∧ 1 ≤ op.kind ∧ op.kind ≤ 6 ∧ m[o]? = some (-1) ∧ Stands l m (o + 1) r := by
  obtain ⟨ok, ⟨pre, post, e, hp⟩, ⟨pm, qm, e2, hp2⟩⟩ := h
  refine ⟨?_, ok.1, ok.2.1, ?_, ok.2.2, ⟨pre ++ [op], post, by rw [e]; simp [Fo.flat], by simp [hp]⟩, ⟨pm ++ [-1], qm, by rw [e2]; simp [mtT], by simp [hp2]⟩⟩
  · subst hp; rw [e]; simp [Fo.flat]
  · subst hp2; rw [e2]; simp [mtT]
theorem Stands.rep {l : List OpD} {m : List Int} {o : Nat} {op fin : OpD} {b r : Fo} (h : Stands l m o (.rep op b fin r)) :
    l[o]? = some op ∧ op.kind = 7 ∧ m[o]? = some ((o + b.size + 1 : Nat) : Int) ∧ l[o + b.size + 1]? = some fin ∧ fin.kind = 0 ∧ m[o + b.size + 1]? = some (o : Int) ∧ Stands l m (o + 1) b ∧ Stands l m (o + b.size + 2) r := by
  obtain ⟨ok, ⟨pre, post, e, hp⟩, ⟨pm, qm, e2, hp2⟩⟩ := h
  obtain ⟨k1, k2, k3, k4⟩ := ok
  have e' : l = (pre ++ op :: b.flat) ++ fin :: (r.flat ++ post) := by rw [e]; simp [Fo.flat]
  have e2' : m = (pm ++ ((o + b.size + 1 : Nat) : Int) :: mtT (o + 1) b) ++ (o : Int) :: (mtT (o + b.size + 2) r ++ qm) := by rw [e2]; simp [mtT]
  have hb : b.flat.length = b.size := rfl
  refine ⟨?_, k1, ?_, ?_, k3, ?_, ⟨k2, ⟨pre ++ [op], fin :: (r.flat ++ post), by rw [e']; simp, by simp [hp]⟩, ⟨pm ++ [((o + b.size + 1 : Nat) : Int)], (o : Int) :: (mtT (o + b.size + 2) r ++ qm), by rw [e2']; simp, by simp [hp2]⟩⟩, ⟨k4, ⟨pre ++ op :: (b.flat ++ [fin]), post, by rw [e']; simp, by simp [hp]; omega⟩, ⟨pm ++ ((o + b.size + 1 : Nat) : Int) :: (mtT (o + 1) b ++ [(o : Int)]), qm, by rw [e2']; simp, by simp [hp2, mtT_length]; omega⟩⟩⟩
  · subst hp; rw [e]; simp [Fo.flat]
  · subst hp2; rw [e2]; simp [mtT]
  · rw [e', List.getElem?_append_right (by simp; omega)]
    simp only [List.length_append, List.length_cons]
    rw [show o + b.size + 1 - (pre.length + (b.flat.length + 1)) = 0 by omega]
    rfl
  · rw [e2', List.getElem?_append_right (by simp [mtT_length]; omega)]
    simp only [List.length_append, List.length_cons, mtT_length]
    rw [show o + b.size + 1 - (pm.length + (b.size + 1)) = 0 by omega]
    rfl
theorem Stands.whole {f : Fo} (hf : f.ok) : Stands f.flat (matchL f.flat) 0 f :=
  ⟨hf, ⟨[], [], by simp, rfl⟩, ⟨[], [], by rw [matchL_flat f hf]; simp, rfl⟩⟩

def Within9 (a am : Option Addr) (c cm : Nat) (l : List OpD) (m : List Int) (f : Fo) : Prop :=
  ∀ (o : Nat) (F T : Int) (w : World), F = (o : Int) → T = ((o + f.size : Nat) : Int) → At w a l → At w am m → Stands l m o f →
    Calls Try.prog 77 #[.slice a l.length c, .slice am m.length cm, .int .i64 F, .int .i64 T] w fun e w' => e = .returned (.int .i64 (capW f.wr)) ∧ Below w.heap.size w w'

section
variable {a am : Option Addr} {c cm : Nat} {l : List OpD} {m : List Int}
set_option maxHeartbeats 800000 in
/-- a block, by what is within it -/
theorem Block9_of (o : Nat) (op fin : OpD) (b r : Fo) (w : World) (h : At w a l) (hm : At w am m) (hl : l.length ≤ 1000000) (hs : Stands l m o (.rep op b fin r)) (hw : Within9 a am c cm l m b) :
    Calls Try.prog 66 #[.slice a l.length c, .slice am m.length cm, .int .i64 (o : Int)] w fun e w' => e = .returned (.int .i64 (capW (b.wr * op.v.toNat))) ∧ Below w.heap.size w w' := by
  obtain ⟨e1, e2, e3, e4, e5, e6, hb, hr⟩ := hs.rep
  obtain ⟨n1, n2⟩ := hs.lt
  rw [Fo.size_rep] at n1 n2
  have ho : o < l.length := by omega
  have hom : o < m.length := by omega
  have hml : (m.length : Int) = (m.length : Int) := rfl
  obtain ⟨E, hE⟩ : ∃ E : Nat, E = o + b.size + 1 := ⟨_, rfl⟩
  have HC := hide (fun w' (h1 : At w' a l) (h2 : At w' am m) => hw (o + 1) ((o : Int) + 1) (E : Int) w' (by omega) (by rw [hE]; omega) h1 h2 hb)
  obtain ⟨W, hW⟩ : ∃ W, W = b.wr := ⟨_, rfl⟩
  have hmin := min_mul b.wr op.v.toNat
  rw [← hE] at e3
  rw [← hW] at HC hmin
  obtain ⟨b1, off1, x, rfl, hx, x0, x1, x2, x3, x4⟩ := h.getOp (Below.refl _ _) ho
  obtain rfl : op = x := by have := e1.symm.trans hx.out; simpa using this
  obtain ⟨b2, off2, y, rfl, hy, y0⟩ := hm.getI (Below.refl _ _) hom
  obtain rfl : y = (E : Int) := by have := hy.out.symm.trans e3; simpa using this
  have hbl := World.block_lt_of_cell? _ _ x0
  have HM := hide hmin
  have hv0 : ((op.v.toNat : Int) == 0) = decide (op.v.toNat = 0) := by rw [Bool.eq_iff_iff]; simp
  rw [← hW]
  have hcap : ∀ n, capW n = ((min n 65537 : Nat) : Int) := fun n => rfl
  have HCAP := hide hcap
  clear e1 e2 e3 e4 e5 e6 hx hy hE hW hml hcap hmin hs hb hr hw
  generalize op.v.toNat = v at *
  obtain ⟨q, hq⟩ : ∃ q, q = min W 65537 := ⟨_, rfl⟩
  obtain ⟨C, hC⟩ : ∃ C : Nat, C = min (W * v) 65537 := ⟨_, rfl⟩
  have HM' := HM.out
  have HCW : capW W = (q : Int) := by rw [hq]; rfl
  have HCV : capW (W * v) = (C : Int) := by rw [hC]; rfl
  rw [HCW] at HC
  rw [HCV]
  rw [← hq, ← hC] at HM'
  have hq2 : q ≤ 65537 := by omega
  clear HM HCAP hq hC HCW HCV
  by_cases q0 : q = 0
  · have hr : C = 0 := by rw [← HM', if_pos (.inl q0)]
    subst q0
    subst hr
    clear HM' hv0
    go_enter Try.func66, Try.ntmps66
    go_wp2_with (go_at_call 77; ((with_reducible refine (HC.out _ h hm).mono ?_); rintro e w1 ⟨rfl, hb⟩))
    go_ret
    exact ⟨rfl, hb⟩
  · have hqb : ((q : Int) == 0) = false := by simpa using q0
    by_cases v0 : v = 0
    · have hr : C = 0 := by rw [← HM', if_pos (.inr v0)]
      have hv1 : ((v : Int) == 0) = true := by simpa using v0
      subst hr
      clear HM' hv0 q0 v0
      go_enter Try.func66, Try.ntmps66
      go_wp2_with (go_at_call 77; ((with_reducible refine (HC.out _ h hm).mono ?_); rintro e w1 ⟨rfl, hb⟩; have x4' := (hb.cell (p := ⟨b1, off1 + o * 5 + 4, none⟩) hbl).trans x4))
      go_ret
      exact ⟨rfl, hb⟩
    · have hv1 : ((v : Int) == 0) = false := by simpa using v0
      by_cases v1 : 65536 < v
      · have hr : C = 65537 := by rw [← HM', if_neg (by omega), if_pos v1]
        subst hr
        clear HM' hv0 q0 v0
        go_enter Try.func66, Try.ntmps66
        go_wp2_with (go_at_call 77; ((with_reducible refine (HC.out _ h hm).mono ?_); rintro e w1 ⟨rfl, hb⟩; have x4' := (hb.cell (p := ⟨b1, off1 + o * 5 + 4, none⟩) hbl).trans x4))
        go_ret
        exact ⟨rfl, hb⟩
      · have hm1 : q * v ≤ 65537 * 65536 := Nat.mul_le_mul hq2 (by omega)
        obtain ⟨M, hM⟩ : ∃ M, M = q * v := ⟨_, rfl⟩
        have hMi : (q : Int) * (v : Int) = (M : Int) := by rw [hM]; simp
        rw [← hM] at HM' hm1
        have hr : C = if 65536 < M then 65537 else M := by rw [← HM', if_neg (by omega), if_neg v1]
        have HR := hide hr
        clear HM' hv0 q0 v0 hM hr
        by_cases v2 : 65536 < M
        · go_enter Try.func66, Try.ntmps66
          go_wp2_with (go_at_call 77; ((with_reducible refine (HC.out _ h hm).mono ?_); rintro e w1 ⟨rfl, hb⟩; have x4' := (hb.cell (p := ⟨b1, off1 + o * 5 + 4, none⟩) hbl).trans x4))
          go_ret
          exact ⟨by rw [HR.out, if_pos v2]; rfl, hb⟩
        · go_enter Try.func66, Try.ntmps66
          go_wp2_with (go_at_call 77; ((with_reducible refine (HC.out _ h hm).mono ?_); rintro e w1 ⟨rfl, hb⟩; have x4' := (hb.cell (p := ⟨b1, off1 + o * 5 + 4, none⟩) hbl).trans x4))
          go_ret
          exact ⟨by rw [HR.out, if_neg v2]; rfl, hb⟩

set_option maxRecDepth 100000 in
set_option maxHeartbeats 1600000 in
theorem within9_all (hl : l.length ≤ 1000000) : ∀ (N : Nat) (f : Fo), f.size < N → Within9 a am c cm l m f := by
  intro N
  induction N with
  | zero => intro f hf; omega
  | succ N ih =>
    intro f hf o F T w hF hT h hm hs
    have hlt := hs.lt
    obtain ⟨hl1, hl2⟩ := hlt
    have IH := hide ih
    obtain ⟨R, hR⟩ : ∃ R, R = f.wr := ⟨_, rfl⟩
    have hsz : T = ((o + f.size : Nat) : Int) := hT
    obtain ⟨Z, hZ⟩ : ∃ Z, Z = o + f.size := ⟨_, rfl⟩
    have HR := hide hR
    have HZ := hide hZ
    have HS := hide hs
    rw [← hZ] at hl1 hl2 hT hsz
    rw [← hR]
    subst hF hT
    have hfz : f.size < N + 1 := hf
    clear ih hs hR hsz hZ
    go_enter Try.func77, Try.ntmps77
    go_wp2
    go_loopw [9, 10] (fun nv iv wr => ∃ (g : Fo) (o' s : Nat), iv = .int .i64 o' ∧ nv = .int .i64 s ∧ Hid (o' + g.size = Z) ∧ o' ≤ Z ∧ Hid (g.size < N + 1) ∧ Hid (Stands l m o' g) ∧ Hid (s + g.wr = R) ∧ s ≤ 65536 ∧ Below w.heap.size w wr) (fun _ iv _ => Z - (intOf iv).toNat)
    case atStart => exact ⟨f, o, 0, rfl, rfl, HZ.out.symm, by have := HZ.out; omega, hfz, HS.out, by have := HR.out; simp [Hid, this], by omega, Below.refl _ _⟩
    case round =>
      obtain ⟨g, o', s, rfl, rfl, hgz, hoz, hgn, hgs, hsr, hs5, hb⟩ := hrel
      cases g with
      | nil =>
        have ez : o' = Z := hgz.out
        have es : s = R := hsr.out
        subst ez es
        go_wp2
        go_ret
        exact ⟨by unfold capW; rw [Nat.min_eq_left (by omega)]; rfl, hb⟩
      | leaf op r =>
        obtain ⟨e1, k1, k2, e2, hsr'⟩ := hgs.out.leaf
        have hgz' := hgz.out
        have hgn' := hgn.out
        have hsw := hsr.out
        rw [Fo.size_leaf] at hgz' hgn'
        simp only [Fo.wr] at hsw
        have hoz' : o' < Z := by omega
        have hol : o' < l.length := by omega
        obtain ⟨b1, off1, x, rfl, hx, x0, x1, x2, x3, x4⟩ := h.getOp hb hol
        obtain rfl : op = x := by have := e1.symm.trans hx.out; simpa using this
        have hk7 : (op.kind == 7) = false := by simp; omega
        have hD := dOf_true k1 k2
        have HA := hide (fun w => Asks_calls op.kind w)
        rw [hD] at HA
        have HSW := hide hsw
        have HGZ := hide hgz'
        have HGN := hide hgn'
        have HST := hide hsr'
        clear e1 hx hsw hgz' hgn' hsr' e2 k1 k2 hD
        obtain ⟨s1, hs1⟩ : ∃ s1, s1 = s + 1 := ⟨_, rfl⟩
        have hsi : (s : Int) + 1 = (s1 : Int) := by omega
        have HS1 := hide hs1
        have hsb : s1 ≤ 65537 := by omega
        clear hs1
        by_cases h6 : s1 ≤ 65536
        · go_wp2_with (first | (go_at_call 67; ((with_reducible refine (HA.out _).mono ?_); rintro e w1 ⟨rfl, hb1⟩)) | (refine wpList_idx _ _ rfl rfl true (aOf op.kind) (bOf op.kind) (vOf op.kind) rfl rfl ?_))
          go_roundw
          case rel => exact ⟨r, o' + 1, s1, by go_num, rfl, by have := HGZ.out; show o' + 1 + r.size = Z; omega, by omega, by have := HGN.out; show r.size < N + 1; omega, HST.out, by have := HSW.out; have := HS1.out; show s1 + r.wr = R; omega, h6, hb.trans (hb1.mono hb.size)⟩
          case measure => simp [intOf]; omega
        · go_wp2_with (first | (go_at_call 67; ((with_reducible refine (HA.out _).mono ?_); rintro e w1 ⟨rfl, hb1⟩)) | (refine wpList_idx _ _ rfl rfl true (aOf op.kind) (bOf op.kind) (vOf op.kind) rfl rfl ?_))
          go_ret
          exact ⟨by have := HSW.out; have := HS1.out; unfold capW; rw [Nat.min_eq_right (by omega)]; rfl, hb.trans (hb1.mono hb.size)⟩
      | rep op b fin r =>
        obtain ⟨e1, k7, e3, e4, e5, e6, hsb, hsr'⟩ := hgs.out.rep
        have hgz' := hgz.out
        have hgn' := hgn.out
        have hsw := hsr.out
        rw [Fo.size_rep] at hgz' hgn'
        simp only [Fo.wr] at hsw
        have hoz' : o' < Z := by omega
        have hol : o' < l.length := by omega
        have hom : o' < m.length := by omega
        have HB := hide (Block9_of o' op fin b r wr (h.below hb (Nat.le_refl _)) (hm.below hb (Nat.le_refl _)) hl hgs.out (IH.out b (by omega)) (c := c) (cm := cm))
        obtain ⟨b1, off1, x, rfl, hx, x0, x1, x2, x3, x4⟩ := h.getOp hb hol
        obtain rfl : op = x := by have := e1.symm.trans hx.out; simpa using this
        obtain ⟨b2, off2, y, rfl, hy, y0⟩ := hm.getI hb hom
        obtain ⟨E, hE⟩ : ∃ E : Nat, E = o' + b.size + 1 := ⟨_, rfl⟩
        rw [← hE] at e3
        obtain rfl : y = (E : Int) := by have := hy.out.symm.trans e3; simpa using this
        have hyl := World.block_lt_of_cell? _ _ y0
        have hk7 : (op.kind == 7) = true := by simp [k7]
        obtain ⟨Q, hQ⟩ : ∃ Q : Nat, Q = min (b.wr * op.v.toNat) 65537 := ⟨_, rfl⟩
        have hcq : capW (b.wr * op.v.toNat) = (Q : Int) := by rw [hQ]; rfl
        rw [hcq] at HB
        have HQ := hide hQ
        have hQ2 : Q ≤ 65537 := by omega
        have HSW := hide hsw
        have HGZ := hide hgz'
        have HGN := hide hgn'
        have HST := hide hsr'
        have HE := hide hE
        have hEZ : E < Z := by omega
        clear e1 hx hy hsw hgz' hgn' hsr' e3 e4 e5 e6 k7 hQ hcq hE hsb
        by_cases h6 : s + Q ≤ 65536
        · go_wp2_with (go_at_call 66; ((with_reducible refine (HB.out).mono ?_); rintro e w1 ⟨rfl, hb1⟩; have y0' := (hb1.cell (p := ⟨b2, off2 + o', none⟩) hyl).trans y0))
          go_roundw
          case rel => exact ⟨r, E + 1, s + Q, by go_num, by go_num, by have := HGZ.out; have := HE.out; show E + 1 + r.size = Z; omega, by omega, by have := HGN.out; show r.size < N + 1; omega, by have := HE.out; show Stands l m (E + 1) r; rw [this]; exact HST.out, by have := HSW.out; have := HQ.out; show s + Q + r.wr = R; omega, by omega, hb.trans (hb1.mono hb.size)⟩
          case measure => have := HE.out; simp [intOf]; omega
        · go_wp2_with (go_at_call 66; ((with_reducible refine (HB.out).mono ?_); rintro e w1 ⟨rfl, hb1⟩; have y0' := (hb1.cell (p := ⟨b2, off2 + o', none⟩) hyl).trans y0))
          go_ret
          exact ⟨by have := HSW.out; have := HQ.out; unfold capW; rw [Nat.min_eq_right (by omega)]; rfl, hb.trans (hb1.mono hb.size)⟩
end
end Go.Proofs.Ytoklehndfncmnaa
