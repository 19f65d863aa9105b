/- Several texts of mine in one file. -/
import Derived.Test.YtcamcnahkdiefaaGreatYMTao
/- Chapter 24: the document's Gradient. -/
namespace Go.Proofs.YtcamcnahkdiefaaGreat
set_option linter.unusedVariables false
set_option linter.unusedSimpArgs false
open Go.RowKit
/-- the derivatives by k numbers, from the number a -/
noncomputable def ChD.gradL (c : ChD) (xs : List UInt64) (l a k : Nat) : List UInt64 := (List.range k).map fun j => (c.passAt xs l ((a + j : Nat) : Int)).d
theorem ChD.gradL_succ (c : ChD) (xs : List UInt64) (l a k : Nat) : c.gradL xs l a (k + 1) = c.gradL xs l a k ++ [(c.passAt xs l ((a + k : Nat) : Int)).d] := by
  unfold ChD.gradL; rw [List.range_succ, List.map_append]; rfl
theorem ChD.gradL_len (c : ChD) (xs : List UInt64) (l a k : Nat) : (c.gradL xs l a k).length = k := by unfold ChD.gradL; simp
/-- the loss, as the last pass tells it -/
noncomputable def ChD.gradV (c : ChD) (xs : List UInt64) (l k : Nat) : UInt64 := if k = 0 then 0 else (c.passAt xs l ((k - 1 : Nat) : Int)).v
/-- a result under way: its block, and the two lists that grow one after the other -/
structure GrH (T E : TypeId) (w : World) (g : Nat) (V : UInt64) (nx : Nat) (ax : Option Addr) (cx nt : Nat) (at_ : Option Addr) (ct Bt : Nat) (LX LT : List UInt64) : Prop where
  blk : Blk w g T #[.int .u64 (V.toNat : Int), .slice ax nx cx, .slice at_ nt ct]
  nx : nx = LX.length
  nt : nt = LT.length
  x : Own w (g + 1) E ax cx LX
  t : Own w Bt E at_ ct LT
  b1 : g + 1 ≤ Bt
  b2 : Bt ≤ w.heap.size
  lt : ∀ k, ax.map (·.block) = some k → k < Bt
theorem GrH.keep {T E : TypeId} {w w' : World} {g : Nat} {V : UInt64} {nx : Nat} {ax : Option Addr} {cx nt : Nat} {at_ : Option Addr} {ct Bt : Nat} {LX LT : List UInt64} (h : GrH T E w g V nx ax cx nt at_ ct Bt LX LT) (hb : Below w.heap.size w w') : GrH T E w' g V nx ax cx nt at_ ct Bt LX LT :=
  ⟨h.blk.belowN hb, h.nx, h.nt, h.x.belowN hb, h.t.belowN hb, h.b1, Nat.le_trans h.b2 hb.size, h.lt⟩
theorem GrH.setV {T E : TypeId} {w : World} {g : Nat} {V : UInt64} {nx : Nat} {ax : Option Addr} {cx nt : Nat} {at_ : Option Addr} {ct Bt : Nat} {LX LT : List UInt64} (h : GrH T E w g V nx ax cx nt at_ ct Bt LX LT) (V' : UInt64) : GrH T E (w.setCell ⟨g, 0, none⟩ (.int .u64 (V'.toNat : Int))) g V' nx ax cx nt at_ ct Bt LX LT :=
  ⟨h.blk.set_ 0 _, h.nx, h.nt, h.x.setCell (p := ⟨g, 0, none⟩) (Nat.lt_succ_self g) _, h.t.setCell (p := ⟨g, 0, none⟩) h.b1 _, h.b1, by have := h.b2; simp; omega, h.lt⟩
theorem GrH.blkX {T E : TypeId} {w w' : World} {g : Nat} {V : UInt64} {nx : Nat} {ax : Option Addr} {cx nt : Nat} {at_ : Option Addr} {ct Bt : Nat} {LX LT : List UInt64} (h : GrH T E w g V nx ax cx nt at_ ct Bt LX LT) (hg : w.grownBy w' (ax.map (·.block))) : Blk w' g T #[.int .u64 (V.toNat : Int), .slice ax nx cx, .slice at_ nt ct] :=
  h.blk.grown hg fun e => by have := (h.x.blk g e.symm).1; omega
theorem GrH.blkT {T E : TypeId} {w w' : World} {g : Nat} {V : UInt64} {nx : Nat} {ax : Option Addr} {cx nt : Nat} {at_ : Option Addr} {ct Bt : Nat} {LX LT : List UInt64} (h : GrH T E w g V nx ax cx nt at_ ct Bt LX LT) (hg : w.grownBy w' (at_.map (·.block))) : Blk w' g T #[.int .u64 (V.toNat : Int), .slice ax nx cx, .slice at_ nt ct] :=
  h.blk.grown hg fun e => by have := (h.t.blk g e.symm).1; have := h.b1; omega
theorem GrH.pushX {T E : TypeId} {w w' : World} {g : Nat} {V : UInt64} {nx : Nat} {ax : Option Addr} {cx Bt : Nat} {LX : List UInt64} (h : GrH T E w g V nx ax cx 0 none 0 Bt LX []) {a' : Option Addr} {c' : Nat} {D : UInt64} (hown : Own w' (g + 1) E a' c' (LX ++ [D])) (hg : w.grownBy w' (ax.map (·.block))) :
    GrH T E (w'.setCell ⟨g, 1, none⟩ (.slice a' (nx + 1) c')) g V (nx + 1) a' c' 0 none 0 w'.heap.size (LX ++ [D]) [] :=
  ⟨(h.blkX hg).set_ 1 _, by have := h.nx; simp; omega, rfl, hown.setCell (p := ⟨g, 1, none⟩) (Nat.lt_succ_self g) _, Own.none _ _ _, (h.blkX hg).lt, by simp, fun k hk => (hown.blk k hk).2⟩
theorem GrH.pushT {T E : TypeId} {w w' : World} {g : Nat} {V : UInt64} {nx : Nat} {ax : Option Addr} {cx nt : Nat} {at_ : Option Addr} {ct Bt : Nat} {LX LT : List UInt64} (h : GrH T E w g V nx ax cx nt at_ ct Bt LX LT) {a' : Option Addr} {c' : Nat} {D : UInt64} (hown : Own w' Bt E a' c' (LT ++ [D])) (hg : w.grownBy w' (at_.map (·.block))) :
    GrH T E (w'.setCell ⟨g, 2, none⟩ (.slice a' (nt + 1) c')) g V nx ax cx (nt + 1) a' c' Bt LX (LT ++ [D]) := by
  have hx : Own w' (g + 1) E ax cx LX := h.x.grown hg (by
    cases ha : ax with
    | none => exact .inl rfl
    | some p => exact .inr fun e => by have h1 := (h.t.blk p.block e.symm).1; have h2 := h.lt p.block (by rw [ha]; rfl); omega)
  exact ⟨(h.blkT hg).set_ 2 _, h.nx, by have := h.nt; simp; omega, hx.setCell (p := ⟨g, 2, none⟩) (Nat.lt_succ_self g) _, hown.setCell (p := ⟨g, 2, none⟩) h.b1 _, h.b1, by have := h.b2; have := hg.size; simp; omega, h.lt⟩
noncomputable def ChD.gV (c : ChD) (xs : List UInt64) (l : Int) : UInt64 := if c.mayM l = 0 then c.gradV xs l.toNat (xs.length + c.th.length) else 0
noncomputable def ChD.gX (c : ChD) (xs : List UInt64) (l : Int) : List UInt64 := if c.mayM l = 0 then c.gradL xs l.toNat 0 xs.length else []
noncomputable def ChD.gT (c : ChD) (xs : List UInt64) (l : Int) : List UInt64 := if c.mayM l = 0 then c.gradL xs l.toNat xs.length c.th.length else []
/-- what Gradient hands back -/
def GradOut (E : TypeId) (B : Nat) (V : UInt64) (LX LT : List UInt64) (er : Int) (w0 : World) (e : Ending) (w' : World) : Prop :=
  ∃ a1 n1 c1 a2 n2 c2, e = .returned (.tuple #[.agg #[.int .u64 (V.toNat : Int), .slice a1 n1 c1, .slice a2 n2 c2], .int .i64 er]) ∧ n1 = LX.length ∧ n2 = LT.length ∧ Own w' B E a1 c1 LX ∧ Own w' B E a2 c2 LT ∧ Below B w0 w'
set_option maxRecDepth 100000 in
set_option maxHeartbeats 12800000 in
theorem RGrad_good (c : ChD) (hc : c.Ok) (xs : List UInt64) (xn tn ln : Nat) (hxn : xn = xs.length) (hcx : c.x = (xn : Int)) (htn : tn = c.th.length) (hln : ln < 65536) (xa : Option Addr) (xc : Nat) (ta : Option Addr) (tc : Nat) (w : World) (hx : At w xa xs) (ht : At w ta c.th)
    (hp : At w c.p.a c.p.l) (hpl : c.p.l.length ≤ 1000000) (hq : At w c.q.a c.q.l) (hql : c.q.l.length ≤ 1000000) (hm : c.mayM (ln : Int) = 0) :
    Calls Tryz.prog 26 #[.agg #[.int .i64 c.p.regs, .slice c.p.a c.p.l.length c.p.c], .agg #[.int .i64 c.q.regs, .slice c.q.a c.q.l.length c.q.c], .slice xa xn xc, .slice ta tn tc, .int .i64 (ln : Int)] w fun e w' => ∃ a1 c1 a2 c2, e = .returned (.tuple #[.agg #[.int .u64 ((c.gradV xs ln (xn + tn)).toNat : Int), .slice a1 xn c1, .slice a2 tn c2], .int .i64 0]) ∧ Own w' w.heap.size 50 a1 c1 (c.gradL xs ln 0 xn) ∧ Own w' w.heap.size 50 a2 c2 (c.gradL xs ln xn tn) ∧ Below w.heap.size w w' := by
  have hx1 := hc.x1
  have hx2 := hc.x2
  have ht2 := hc.t2
  rw [hcx] at hx1 hx2
  rw [← htn] at ht2
  obtain ⟨hX, hY, hR, hb0, hz0⟩ := three_boxes w 24 24 56 #[.int .i64 c.p.regs, .slice c.p.a c.p.l.length c.p.c] #[.int .i64 c.q.regs, .slice c.q.a c.q.l.length c.q.c] #[.int .u64 0, .slice none 0 0, .slice none 0 0]
  obtain ⟨p0, p1, p2, p3⟩ := hX.c2
  obtain ⟨p4, p5, p6, p7⟩ := hY.c2
  have HM := hide (May24R_calls c ta tc (ln : Int) _ (hp.belowN hb0) hpl (hq.belowN hb0) hql (by rw [hcx]; omega) (by omega) 0 hm)
  rw [← htn, hcx] at HM
  have HA := hide (fun (k : Nat) (hk : k < xn + tn) (W : World) (hW : Below w.heap.size w W) (V D : UInt64) (hV : c.passAt xs ln (k : Int) = ⟨V, D⟩) => RAlong_good c hc xs xn tn ln hxn hcx htn hln xa xc ta tc k hk W (hx.belowN hW) (ht.belowN hW) (hp.belowN hW) hpl (hq.belowN hW) hql hm V D hV)
  clear hc hxn hcx htn hm
  go_enter Tryz.func26, Tryz.ntmps26
  go_wp2_with (go_at_call 55; go_must ((with_reducible refine (HM.out).mono ?_); rintro e w1 ⟨rfl, hb1⟩; have hB1 := hb0.trans (hb1.mono hb0.size)))
  have hz1 := hB1.size
  have hR1 := hR.belowN hb1
  have hgR := hR1.lt
  have hBG : Below w1.heap.size w1 (w1.alloc (.cells #[.int .u64 0, .slice none 0 0, .slice none 0 0] 56)) := below_box w1 _
  go_loopw [14] (fun iv wr => ∃ (i : Nat) (ax : Option Addr) (cx : Nat) (at_ : Option Addr) (ct Bt : Nat), iv = .int .i64 i ∧ i ≤ xn + tn ∧ GrH 56 50 wr w1.heap.size (c.gradV xs ln i) (min i xn) ax cx (i - xn) at_ ct Bt (c.gradL xs ln 0 (min i xn)) (c.gradL xs ln xn (i - xn)) ∧ (i ≤ xn → at_ = none ∧ ct = 0) ∧ Below w1.heap.size w1 wr) (fun iv _ => xn + tn - (intOf iv).toNat)
  case atStart =>
    refine ⟨0, none, 0, none, 0, (w1.heap.size + 1), rfl, by omega, ?_, fun _ => ⟨rfl, rfl⟩, hBG⟩
    rw [Nat.zero_min, Nat.zero_sub]
    exact ⟨Blk.new w1 _ _, rfl, rfl, Own.none _ _ _, Own.none _ _ _, Nat.le_refl _, by simp, fun k hk => by cases hk⟩
  case round =>
    obtain ⟨i, ax, cx, at_, ct, Bt, rfl, hi, hG, hat, hb3⟩ := hrel
    have hz3 := hb3.size
    obtain ⟨c0, c1, c2, f0, f1, f2⟩ := hG.blk.c3
    by_cases hlt : i < xn + tn
    · obtain ⟨⟨V, D⟩, hV⟩ : ∃ x, c.passAt xs ln (i : Int) = x := ⟨_, rfl⟩
      have HAL := hide (HA.out i hlt wr (hB1.trans (hb3.mono hz1)) V D hV)
      have hVi : c.gradV xs ln (i + 1) = V := by
        unfold ChD.gradV
        rw [if_neg (by omega), Nat.add_sub_cancel, hV]
      obtain ⟨p0, p1, p2, p3⟩ := (hX.belowN (hb1.trans (hb3.mono hb1.size))).c2
      obtain ⟨p4, p5, p6, p7⟩ := (hY.belowN (hb1.trans (hb3.mono hb1.size))).c2
      by_cases hix : i < xn
      · obtain ⟨rfl, rfl⟩ := hat (by omega)
        have hT : c.gradL xs ln 0 (i + 1) = c.gradL xs ln 0 i ++ [D] := by rw [ChD.gradL_succ, Nat.zero_add, hV]
        have m1 : min i xn = i := by omega
        have m2 : i - xn = 0 := by omega
        rw [m1, m2] at hG
        rw [m1] at c1
        rw [m2] at c2
        obtain ⟨LX, hLX⟩ : ∃ l, c.gradL xs ln 0 i = l := ⟨_, rfl⟩
        rw [hLX] at hG hT
        have HGG := hide (fun W (hW : Below wr.heap.size wr W) => hG.keep hW)
        clear hG hLX hV hat
        go_wp2_with (first
          | (go_at_call 24; go_must ((with_reducible refine (HAL.out).mono ?_); rintro e w4 ⟨rfl, hb4⟩; have hG4 := HGG.out w4 hb4; obtain ⟨c0, c1, c2, f0, f1, f2⟩ := hG4.blk.c3))
          | (at_builtin; go_must (refine wpList_push tyU (hG4.setV V).x D rfl rfl rfl rfl rfl (by simp) (hG4.nx) (by have := (hG4.setV V).blk.lt; omega) (by omega) ?_; intro a6 c6 w6 hown6 hg6 hcs6; have h6 := (hG4.setV V).pushX hown6 hg6; obtain ⟨c0, c1, c2, f0, f1, f2⟩ := ((hG4.setV V).blkX hg6).c3)))
        go_roundw
        case rel =>
          refine ⟨i + 1, a6, c6, none, 0, w6.heap.size, by go_num, by omega, ?_, fun _ => ⟨rfl, rfl⟩, ?_⟩
          · rw [hVi, show min (i + 1) xn = i + 1 by omega, show i + 1 - xn = 0 by omega, hT]
            exact h6
          · exact ((below_push ((hb3.trans (hb4.mono hz3)).setCell (p := ⟨w1.heap.size, 0, none⟩) (Nat.le_refl _) _) ((hG4.setV V).x.mono (Nat.le_succ _)) hg6 (by have := (hG4.setV V).blk.lt; omega)).setCell (p := ⟨w1.heap.size, 1, none⟩) (Nat.le_refl _) _)
        case measure => simp [intOf] <;> omega
      · obtain ⟨m, m2⟩ : ∃ m, i - xn = m := ⟨_, rfl⟩
        have hT : c.gradL xs ln xn (m + 1) = c.gradL xs ln xn m ++ [D] := by rw [ChD.gradL_succ, show xn + m = i by omega, hV]
        have m1 : min i xn = xn := by omega
        rw [m1, m2] at hG
        rw [m1] at c1
        rw [m2] at c2
        obtain ⟨LX, hLX⟩ : ∃ l, c.gradL xs ln 0 xn = l := ⟨_, rfl⟩
        obtain ⟨LT, hLT⟩ : ∃ l, c.gradL xs ln xn m = l := ⟨_, rfl⟩
        rw [hLX, hLT] at hG
        rw [hLT] at hT
        have HGG := hide (fun W (hW : Below wr.heap.size wr W) => hG.keep hW)
        have d1 : decide (i < xn) = false := decide_eq_false hix
        have d2 : decide ((i : Int) < (xn : Int)) = false := decide_eq_false (by omega)
        clear hG hLT hV hat
        go_wp2_with (first
          | (go_at_call 24; go_must ((with_reducible refine (HAL.out).mono ?_); rintro e w4 ⟨rfl, hb4⟩; have hG4 := HGG.out w4 hb4; obtain ⟨c0, c1, c2, f0, f1, f2⟩ := hG4.blk.c3))
          | (at_builtin; go_must (refine wpList_push tyU (hG4.setV V).t D rfl rfl rfl rfl rfl (by simp) (hG4.nt) (hG4.setV V).b2 (by omega) ?_; intro a6 c6 w6 hown6 hg6 hcs6; have h6 := (hG4.setV V).pushT hown6 hg6; obtain ⟨c0, c1, c2, f0, f1, f2⟩ := ((hG4.setV V).blkT hg6).c3)))
        go_roundw
        case rel =>
          refine ⟨i + 1, ax, cx, a6, c6, Bt, by go_num, by omega, ?_, fun h => absurd h (by omega), ?_⟩
          · rw [hVi, show min (i + 1) xn = xn by omega, show i + 1 - xn = m + 1 by omega, hT, hLX]
            exact h6
          · exact ((below_push ((hb3.trans (hb4.mono hz3)).setCell (p := ⟨w1.heap.size, 0, none⟩) (Nat.le_refl _) _) ((hG4.setV V).t.mono (Nat.le_of_succ_le hG4.b1)) hg6 (by have := (hG4.setV V).blk.lt; omega)).setCell (p := ⟨w1.heap.size, 2, none⟩) (Nat.le_refl _) _)
        case measure => simp [intOf] <;> omega
    · have hin : i = xn + tn := by omega
      subst hin
      rw [show min (xn + tn) xn = xn by omega, show xn + tn - xn = tn by omega] at hG
      rw [show min (xn + tn) xn = xn by omega] at c1
      rw [show xn + tn - xn = tn by omega] at c2
      have hF0 := hR1.belowN (hb3.mono (Nat.le_refl _))
      obtain ⟨r0, r1, r2, r3, r4, r5⟩ := hF0.c3
      clear hat
      go_wp2
      have hF := ((hF0.set_ 0 (.int .u64 ((c.gradV xs ln (xn + tn)).toNat : Int))).set_ 1 (.slice ax xn cx)).set_ 2 (.slice at_ tn ct)
      have hq1 : w.heap.size + 1 + 1 < w1.heap.size + 1 := by omega
      have hq2 : w.heap.size + 1 + 1 < Bt := by have := hG.b1; omega
      have hq3 : w.heap.size ≤ w.heap.size + 1 + 1 := by omega
      refine bodyPost_ret (results_rowP rfl _ _ (w.heap.size + 1 + 1) _ #[.int .u64 ((c.gradV xs ln (xn + tn)).toNat : Int), .slice ax xn cx, .slice at_ tn ct] (0, 0) _ rfl hF Tryz.underlying56 rfl (by kernel_rfl)) rfl ⟨ax, cx, at_, ct, rfl, ?_, ?_, ?_⟩
      · exact (((hG.x.setCell (p := ⟨w.heap.size + 1 + 1, 0, none⟩) hq1 _).setCell (p := ⟨w.heap.size + 1 + 1, 1, none⟩) hq1 _).setCell (p := ⟨w.heap.size + 1 + 1, 2, none⟩) hq1 _).mono (by omega)
      · have hBt := hG.b1
        exact (((hG.t.setCell (p := ⟨w.heap.size + 1 + 1, 0, none⟩) hq2 _).setCell (p := ⟨w.heap.size + 1 + 1, 1, none⟩) hq2 _).setCell (p := ⟨w.heap.size + 1 + 1, 2, none⟩) hq2 _).mono (by omega)
      · exact (((hB1.trans (hb3.mono hz1)).setCell (p := ⟨w.heap.size + 1 + 1, 0, none⟩) hq3 _).setCell (p := ⟨w.heap.size + 1 + 1, 1, none⟩) hq3 _).setCell (p := ⟨w.heap.size + 1 + 1, 2, none⟩) hq3 _
set_option maxRecDepth 100000 in
set_option maxHeartbeats 3200000 in
theorem RGrad_bad (c : ChD) (xn tn : Nat) (hcx : c.x = (xn : Int)) (htn : tn = c.th.length) (hxl : xn ≤ 1000000) (htl : tn ≤ 1000000) (l : Int) (xa : Option Addr) (xc : Nat) (ta : Option Addr) (tc : Nat) (w : World) (ht : At w ta c.th)
    (hp : At w c.p.a c.p.l) (hpl : c.p.l.length ≤ 1000000) (hq : At w c.q.a c.q.l) (hql : c.q.l.length ≤ 1000000) (E : Int) (hE : c.mayM l = E) (h0 : E ≠ 0) :
    Calls Tryz.prog 26 #[.agg #[.int .i64 c.p.regs, .slice c.p.a c.p.l.length c.p.c], .agg #[.int .i64 c.q.regs, .slice c.q.a c.q.l.length c.q.c], .slice xa xn xc, .slice ta tn tc, .int .i64 l] w (GradOut 50 w.heap.size 0 [] [] E w) := by
  obtain ⟨hX, hY, hR, hb0, hz0⟩ := three_boxes w 24 24 56 #[.int .i64 c.p.regs, .slice c.p.a c.p.l.length c.p.c] #[.int .i64 c.q.regs, .slice c.q.a c.q.l.length c.q.c] #[.int .u64 0, .slice none 0 0, .slice none 0 0]
  obtain ⟨p0, p1, p2, p3⟩ := hX.c2
  obtain ⟨p4, p5, p6, p7⟩ := hY.c2
  have HM := hide (May24R_calls c ta tc l _ (hp.belowN hb0) hpl (hq.belowN hb0) hql (by rw [hcx]; omega) (by omega) E hE)
  rw [← htn, hcx] at HM
  have e1 : (E == 0) = false := by simpa using h0
  have e2 : (E != 0) = true := by simpa using h0
  clear hE h0 hcx htn
  go_enter Tryz.func26, Tryz.ntmps26
  go_wp2_with (go_at_call 55; go_must ((with_reducible refine (HM.out).mono ?_); rintro e w1 ⟨rfl, hb1⟩; obtain ⟨r0, r1, r2, r3, r4, r5⟩ := (hR.belowN hb1).c3))
  have hB1 := hb0.trans (hb1.mono hb0.size)
  have hF := (((hR.belowN hb1).set_ 0 (.int .u64 0)).set_ 1 (.slice none 0 0)).set_ 2 (.slice none 0 0)
  have hq3 : w.heap.size ≤ w.heap.size + 1 + 1 := by omega
  refine bodyPost_ret (results_rowP rfl _ _ (w.heap.size + 1 + 1) _ #[.int .u64 0, .slice none 0 0, .slice none 0 0] (0, 0) _ rfl hF Tryz.underlying56 rfl (by kernel_rfl)) rfl ⟨none, 0, 0, none, 0, 0, rfl, rfl, rfl, Own.none _ _ _, Own.none _ _ _, ?_⟩
  exact ((hB1.setCell (p := ⟨w.heap.size + 1 + 1, 0, none⟩) hq3 _).setCell (p := ⟨w.heap.size + 1 + 1, 1, none⟩) hq3 _).setCell (p := ⟨w.heap.size + 1 + 1, 2, none⟩) hq3 _
theorem RGrad_calls (c : ChD) (xs : List UInt64) (xn tn : Nat) (hxn : xn = xs.length) (hcx : c.x = (xn : Int)) (htn : tn = c.th.length) (hxl : xn ≤ 1000000) (htl : tn ≤ 1000000) (l : Int) (xa : Option Addr) (xc : Nat) (ta : Option Addr) (tc : Nat) (w : World) (hx : At w xa xs) (ht : At w ta c.th)
    (hp : At w c.p.a c.p.l) (hpl : c.p.l.length ≤ 1000000) (hq : At w c.q.a c.q.l) (hql : c.q.l.length ≤ 1000000) :
    Calls Tryz.prog 26 #[.agg #[.int .i64 c.p.regs, .slice c.p.a c.p.l.length c.p.c], .agg #[.int .i64 c.q.regs, .slice c.q.a c.q.l.length c.q.c], .slice xa xn xc, .slice ta tn tc, .int .i64 l] w (GradOut 50 w.heap.size (c.gV xs l) (c.gX xs l) (c.gT xs l) (c.mayM l) w) := by
  by_cases h0 : c.mayM l = 0
  · obtain ⟨hc, l1, l2⟩ := ChD.mayM_ok h0
    obtain ⟨ln, rfl⟩ : ∃ n : Nat, l = n := ⟨l.toNat, by omega⟩
    unfold ChD.gV ChD.gX ChD.gT
    rw [if_pos h0, if_pos h0, if_pos h0, h0, Int.toNat_natCast, ← hxn, ← htn]
    refine (RGrad_good c hc xs xn tn ln hxn hcx htn (by omega) xa xc ta tc w hx ht hp hpl hq hql h0).mono ?_
    rintro e w' ⟨a1, c1, a2, c2, rfl, h1, h2, hb⟩
    exact ⟨a1, xn, c1, a2, tn, c2, rfl, (ChD.gradL_len _ _ _ _ _).symm, (ChD.gradL_len _ _ _ _ _).symm, h1, h2, hb⟩
  · unfold ChD.gV ChD.gX ChD.gT
    rw [if_neg h0, if_neg h0, if_neg h0]
    exact RGrad_bad c xn tn hcx htn hxl htl l xa xc ta tc w ht hp hpl hq hql _ rfl h0
end Go.Proofs.YtcamcnahkdiefaaGreat

/- Chapter 24: model.Gradient. -/
namespace Go.Proofs.YtcamcnahkdiefaaGreat
set_option linter.unusedVariables false
set_option linter.unusedSimpArgs false
open Go.RowKit
theorem blk_two {w0 w : World} {g : Nat} {T : TypeId} {cs : Array Value} (hB : Below w0.heap.size w0 w) (h : Blk w g T cs) (hg : w0.heap.size ≤ g) (u v : Value) : Blk ((w.setCell ⟨g, 0, none⟩ u).setCell ⟨g, 1, none⟩ v) g T ((cs.setIfInBounds 0 u).setIfInBounds 1 v) ∧ Below w0.heap.size w0 ((w.setCell ⟨g, 0, none⟩ u).setCell ⟨g, 1, none⟩ v) :=
  ⟨(h.set_ 0 u).set_ 1 v, (hB.setCell (p := ⟨g, 0, none⟩) hg u).setCell (p := ⟨g, 1, none⟩) hg v⟩
theorem blk_one {w0 w : World} {T : TypeId} {cs : Array Value} (hB : Below w0.heap.size w0 w) : Blk (w.alloc (.cells cs T)) w.heap.size T cs ∧ Below w0.heap.size w0 (w.alloc (.cells cs T)) :=
  ⟨Blk.new w T cs, hB.alloc hB.size _⟩
set_option maxRecDepth 100000 in
set_option maxHeartbeats 12800000 in
theorem MGrad_good (c : ChD) (hc : c.Ok) (xs : List UInt64) (xn tn ln : Nat) (hxn : xn = xs.length) (hcx : c.x = (xn : Int)) (htn : tn = c.th.length) (hln : ln < 65536) (xa : Option Addr) (xc : Nat) (ta : Option Addr) (tc : Nat) (w : World) (hx : At w xa xs) (ht : At w ta c.th)
    (hp : At w c.p.a c.p.l) (hpl : c.p.l.length ≤ 1000000) (hq : At w c.q.a c.q.l) (hql : c.q.l.length ≤ 1000000) (hm : c.mayM (ln : Int) = 0) :
    Calls Tryz.prog 25 #[.agg #[.int .i64 c.p.regs, .slice c.p.a c.p.l.length c.p.c], .agg #[.int .i64 c.q.regs, .slice c.q.a c.q.l.length c.q.c], .slice xa xn xc, .slice ta tn tc, .int .i64 (ln : Int)] w fun e w' => ∃ a1 c1 a2 c2, e = .returned (.tuple #[.agg #[.int .u64 ((c.gradV xs ln (xn + tn)).toNat : Int), .slice a1 xn c1, .slice a2 tn c2], .int .i64 0]) ∧ Own w' w.heap.size 50 a1 c1 (c.gradL xs ln 0 xn) ∧ Own w' w.heap.size 50 a2 c2 (c.gradL xs ln xn tn) ∧ Below w.heap.size w w' := by
  have hx1 := hc.x1
  have hx2 := hc.x2
  have ht2 := hc.t2
  rw [hcx] at hx1 hx2
  rw [← htn] at ht2
  obtain ⟨hX, hY, hR, hb0, hz0⟩ := three_boxes w 24 24 56 #[.int .i64 c.p.regs, .slice c.p.a c.p.l.length c.p.c] #[.int .i64 c.q.regs, .slice c.q.a c.q.l.length c.q.c] #[.int .u64 0, .slice none 0 0, .slice none 0 0]
  obtain ⟨p0, p1, p2, p3⟩ := hX.c2
  obtain ⟨p4, p5, p6, p7⟩ := hY.c2
  have HM := hide (May24M_calls c ta tc (ln : Int) _ (hp.belowN hb0) hpl (hq.belowN hb0) hql (ht.belowN hb0) (by rw [hcx]; omega) (by omega) 0 hm)
  rw [← htn, hcx] at HM
  have HNU := hide (fun (k : Nat) (W : World) (hW : Below w.heap.size w W) => Numbers_calls xa xc ta tc xs c.th xn tn hxn htn (k : Int) W (hx.belowN hW) (ht.belowN hW))
  have HPA := hide (fun (k : Nat) (V D : UInt64) (hV : c.passAt xs ln (k : Int) = ⟨V, D⟩) (W : World) (hW : Below w.heap.size w W) (g3 g4 g5 : Nat) (hN : NumAt W g3 g4 g5 xa xc ta tc xs c.th (k : Int)) => Pass_calls c hc xs xn tn ln hxn hcx htn hln g3 g4 g5 xa xc ta tc (k : Int) W hN (hp.belowN hW) hpl (hq.belowN hW) hql V D (by unfold ChD.passAt at hV; rw [← hxn, ← htn] at hV; exact hV))
  clear hc hxn hcx htn hm
  go_enter Tryz.func25, Tryz.ntmps25
  go_wp2_with (go_at_call 52; go_must ((with_reducible refine (HM.out).mono ?_); rintro e w1 ⟨rfl, hb1⟩; have hB1 := hb0.trans (hb1.mono hb0.size)))
  have hz1 := hB1.size
  have hR1 := hR.belowN hb1
  have hgR := hR1.lt
  have hBG : Below w1.heap.size w1 (w1.alloc (.cells #[.int .u64 0, .slice none 0 0, .slice none 0 0] 56)) := below_box w1 _
  go_loopw [32] (fun iv wr => ∃ (i : Nat) (ax : Option Addr) (cx : Nat) (at_ : Option Addr) (ct Bt : Nat), iv = .int .i64 i ∧ i ≤ xn + tn ∧ GrH 56 50 wr w1.heap.size (c.gradV xs ln i) (min i xn) ax cx (i - xn) at_ ct Bt (c.gradL xs ln 0 (min i xn)) (c.gradL xs ln xn (i - xn)) ∧ (i ≤ xn → at_ = none ∧ ct = 0) ∧ Below w1.heap.size w1 wr) (fun iv _ => xn + tn - (intOf iv).toNat)
  case atStart =>
    refine ⟨0, none, 0, none, 0, (w1.heap.size + 1), rfl, by omega, ?_, fun _ => ⟨rfl, rfl⟩, hBG⟩
    rw [Nat.zero_min, Nat.zero_sub]
    exact ⟨Blk.new w1 _ _, rfl, rfl, Own.none _ _ _, Own.none _ _ _, Nat.le_refl _, by simp, fun k hk => by cases hk⟩
  case round =>
    obtain ⟨i, ax, cx, at_, ct, Bt, rfl, hi, hG, hat, hb3⟩ := hrel
    have hz3 := hb3.size
    obtain ⟨c0, c1, c2, f0, f1, f2⟩ := hG.blk.c3
    by_cases hlt : i < xn + tn
    · obtain ⟨⟨V, D⟩, hV⟩ : ∃ x, c.passAt xs ln (i : Int) = x := ⟨_, rfl⟩
      have hBw := hB1.trans (hb3.mono hz1)
      have hzw := hBw.size
      have HNUi := hide (HNU.out i)
      have HPAi := hide (HPA.out i V D hV)
      have hVi : c.gradV xs ln (i + 1) = V := by
        unfold ChD.gradV
        rw [if_neg (by omega), Nat.add_sub_cancel, hV]
      obtain ⟨p0, p1, p2, p3⟩ := (hX.belowN (hb1.trans (hb3.mono hb1.size))).c2
      obtain ⟨p4, p5, p6, p7⟩ := (hY.belowN (hb1.trans (hb3.mono hb1.size))).c2
      have HVV := hide hV
      clear hV
      go_wp2
      have hX1 := hX.belowN (hb1.trans (hb3.mono hb1.size))
      have hY1 := hY.belowN (hb1.trans (hb3.mono hb1.size))
      have hgX := hX1.lt
      have hgY := hY1.lt
      have hd0 : Below wr.heap.size wr wr.drew := Below.drew (Below.refl _ _)
      have hdZ : Below wr.heap.size wr (wr.alloc (.cells #[.int .u64 0, .int .u64 0] 111)).drew := Below.drew (below_box wr _)
      have hNb : Blk (wr.alloc (.cells #[.int .u64 0, .int .u64 0] 111)).drew wr.heap.size 111 #[.int .u64 0, .int .u64 0] := Blk.new wr _ _
      have n1 : wr.heap.size ≠ w.heap.size := by omega
      have n2 : wr.heap.size ≠ w.heap.size + 1 := by omega
      have hBd0 := hBw.trans (hd0.mono hzw)
      have hBdZ := hBw.trans (hdZ.mono hzw)
      have HSI : Hid (∀ w4, Below wr.heap.size wr w4 → (w4.cell? ⟨w.heap.size, 0, none⟩ = some (.int .i64 c.p.regs) ∧ w4.cell? ⟨w.heap.size, 1, none⟩ = some (.slice c.p.a c.p.l.length c.p.c)) ∧ w4.cell? ⟨w.heap.size + 1, 0, none⟩ = some (.int .i64 c.q.regs) ∧ w4.cell? ⟨w.heap.size + 1, 1, none⟩ = some (.slice c.q.a c.q.l.length c.q.c)) := hide (fun w4 h4 => by
        obtain ⟨y0, y1, _⟩ := (hX1.belowN h4).c2
        obtain ⟨y2, y3, _⟩ := (hY1.belowN h4).c2
        exact ⟨⟨y0, y1⟩, y2, y3⟩)
      go_region_held3 (fun w' => (w'.cell? ⟨w.heap.size, 0, none⟩ = some (.int .i64 c.p.regs) ∧ w'.cell? ⟨w.heap.size, 1, none⟩ = some (.slice c.p.a c.p.l.length c.p.c)) ∧ w'.cell? ⟨w.heap.size + 1, 0, none⟩ = some (.int .i64 c.q.regs) ∧ w'.cell? ⟨w.heap.size + 1, 1, none⟩ = some (.slice c.q.a c.q.l.length c.q.c)) (go_keep)
        (first
          | (go_at_call 54; go_must (first
              | ((with_reducible refine (HNUi.out _ hBdZ).mono ?_); rintro e w4 ⟨g3, g4, g5, rfl, hNA, hb4⟩; have hB4 := hdZ.trans (hb4.mono hdZ.size); obtain ⟨⟨t0, t1⟩, t2, t3⟩ := HSI.out w4 hB4; have hN4 := hNb.belowN hb4; obtain ⟨u0, u1, u2, u3⟩ := hN4.c2)
              | ((with_reducible refine (HNUi.out _ hBd0).mono ?_); rintro e w4 ⟨g3, g4, g5, rfl, hNA, hb4⟩; have hB4 := hd0.trans (hb4.mono hd0.size); obtain ⟨⟨t0, t1⟩, t2, t3⟩ := HSI.out w4 hB4; have n3 : w4.heap.size ≠ w.heap.size := (by have := hB4.size; omega); have n4 : w4.heap.size ≠ w.heap.size + 1 := (by have := hB4.size; omega))))
          | (go_at_call 53; go_must (first
              | ((with_reducible refine (HPAi.out w4 (hBw.trans (hB4.mono hzw)) _ _ _ hNA).mono ?_); rintro e w6 ⟨rfl, hb6⟩; have hB6 := hB4.trans (hb6.mono hB4.size); obtain ⟨⟨t0, t1⟩, t2, t3⟩ := HSI.out w6 hB6; (try have hN6 := hN4.belowN hb6); (try obtain ⟨u0, u1, u2, u3⟩ := hN6.c2); have n5 : w6.heap.size ≠ w.heap.size := (by have := hB6.size; omega); have n6 : w6.heap.size ≠ w.heap.size + 1 := (by have := hB6.size; omega))
              | ((with_reducible refine (HPAi.out (w4.alloc (.cells #[.int .u64 0, .int .u64 0] 111)) (hBw.trans ((hB4.trans ((below_box w4 (.cells #[.int .u64 0, .int .u64 0] 111)).mono hB4.size)).mono hzw)) _ _ _ (hNA.belowN (below_box w4 (.cells #[.int .u64 0, .int .u64 0] 111)))).mono ?_); rintro e w6 ⟨rfl, hb6⟩; have hB5 := hB4.trans ((below_box w4 (.cells #[.int .u64 0, .int .u64 0] 111)).mono hB4.size); have hB6 := hB5.trans (hb6.mono hB5.size); obtain ⟨⟨t0, t1⟩, t2, t3⟩ := HSI.out w6 hB6; have hN6 := (Blk.new w4 111 #[.int .u64 0, .int .u64 0]).belowN hb6; obtain ⟨u0, u1, u2, u3⟩ := hN6.c2))))
      all_goals first
        | (have hF0 := hN6.lt; have hz4 := hB4.size; have hFB := blk_two hB6 hN6 (by first | exact Nat.le_refl _ | assumption | omega) (.int .u64 (V.toNat : Int)) (.int .u64 (D.toNat : Int)))
        | have hFB := blk_one (T := 111) (cs := #[.int .u64 (V.toNat : Int), .int .u64 (D.toNat : Int)]) hB6
      all_goals obtain ⟨hF, hB7⟩ := hFB
      all_goals have hz7 := hB7.size
      all_goals have hG7 := hG.keep hB7
      all_goals have hG8 := hG7.setV V
      all_goals obtain ⟨v0, v1, v2, v3⟩ := hF.c2
      all_goals obtain ⟨c0, c1, c2, f0, f1, f2⟩ := hG7.blk.c3
      all_goals have n8 : wr.heap.size ≠ w1.heap.size := (by have := hG.blk.lt; omega)
      all_goals have n9 : w1.heap.size ≠ wr.heap.size := (by have := hG.blk.lt; omega)
      all_goals have n10 : w4.heap.size ≠ w1.heap.size := (by have := hG.blk.lt; have := hB4.size; omega)
      all_goals have n11 : w1.heap.size ≠ w4.heap.size := (by have := hG.blk.lt; have := hB4.size; omega)
      all_goals have n12 : w6.heap.size ≠ w1.heap.size := (by have := hG.blk.lt; have := hB6.size; omega)
      all_goals have n13 : w1.heap.size ≠ w6.heap.size := (by have := hG.blk.lt; have := hB6.size; omega)
      all_goals have hb37 := hb3.trans (hB7.mono hz3)
      all_goals clear hb3 hBw HNUi HPAi HSI
      all_goals
        by_cases hix : i < xn
        · obtain ⟨rfl, rfl⟩ := hat (by omega)
          have hT : c.gradL xs ln 0 (i + 1) = c.gradL xs ln 0 i ++ [D] := by rw [ChD.gradL_succ, Nat.zero_add, HVV.out]
          have m1 : min i xn = i := by omega
          have m2 : i - xn = 0 := by omega
          rw [m1, m2] at hG7 hG8
          rw [m1] at c1
          rw [m2] at c2
          obtain ⟨LX, hLX⟩ : ∃ l, c.gradL xs ln 0 i = l := ⟨_, rfl⟩
          rw [hLX] at hG7 hG8 hT
          clear hG hLX hat
          go_wp2_with (at_builtin; go_must (refine wpList_push tyU hG8.x D rfl rfl rfl rfl rfl (by simp) hG8.nx (by have := hG8.blk.lt; omega) (by omega) ?_; intro a6 c6 w8 hown6 hg6 hcs6; have h6 := hG8.pushX hown6 hg6; obtain ⟨c0, c1, c2, f0, f1, f2⟩ := (hG8.blkX hg6).c3))
          go_roundw
          case rel =>
            refine ⟨i + 1, a6, c6, none, 0, w8.heap.size, by go_num, by omega, ?_, fun _ => ⟨rfl, rfl⟩, ?_⟩
            · rw [hVi, show min (i + 1) xn = i + 1 by omega, show i + 1 - xn = 0 by omega, hT]
              exact h6
            · exact ((below_push (hb37.setCell (p := ⟨w1.heap.size, 0, none⟩) (Nat.le_refl _) _) (hG8.x.mono (Nat.le_succ _)) hg6 (by have := hG8.blk.lt; omega)).setCell (p := ⟨w1.heap.size, 1, none⟩) (Nat.le_refl _) _)
          case measure => simp [intOf] <;> omega
        · obtain ⟨m, m2⟩ : ∃ m, i - xn = m := ⟨_, rfl⟩
          have hT : c.gradL xs ln xn (m + 1) = c.gradL xs ln xn m ++ [D] := by rw [ChD.gradL_succ, show xn + m = i by omega, HVV.out]
          have m1 : min i xn = xn := by omega
          rw [m1, m2] at hG7 hG8
          rw [m1] at c1
          rw [m2] at c2
          obtain ⟨LX, hLX⟩ : ∃ l, c.gradL xs ln 0 xn = l := ⟨_, rfl⟩
          obtain ⟨LT, hLT⟩ : ∃ l, c.gradL xs ln xn m = l := ⟨_, rfl⟩
          rw [hLX, hLT] at hG7 hG8
          rw [hLT] at hT
          have d1 : decide (i < xn) = false := decide_eq_false hix
          have d2 : decide ((i : Int) < (xn : Int)) = false := decide_eq_false (by omega)
          clear hG hLT hat
          go_wp2_with (at_builtin; go_must (refine wpList_push tyU hG8.t D rfl rfl rfl rfl rfl (by simp) hG8.nt hG8.b2 (by omega) ?_; intro a6 c6 w8 hown6 hg6 hcs6; have h6 := hG8.pushT hown6 hg6; obtain ⟨c0, c1, c2, f0, f1, f2⟩ := (hG8.blkT hg6).c3))
          go_roundw
          case rel =>
            refine ⟨i + 1, ax, cx, a6, c6, Bt, by go_num, by omega, ?_, fun h => absurd h (by omega), ?_⟩
            · rw [hVi, show min (i + 1) xn = xn by omega, show i + 1 - xn = m + 1 by omega, hT, hLX]
              exact h6
            · exact ((below_push (hb37.setCell (p := ⟨w1.heap.size, 0, none⟩) (Nat.le_refl _) _) (hG8.t.mono (Nat.le_of_succ_le hG8.b1)) hg6 (by have := hG8.blk.lt; omega)).setCell (p := ⟨w1.heap.size, 2, none⟩) (Nat.le_refl _) _)
          case measure => simp [intOf] <;> omega
    · have hin : i = xn + tn := by omega
      subst hin
      rw [show min (xn + tn) xn = xn by omega, show xn + tn - xn = tn by omega] at hG
      rw [show min (xn + tn) xn = xn by omega] at c1
      rw [show xn + tn - xn = tn by omega] at c2
      have hF0 := hR1.belowN (hb3.mono (Nat.le_refl _))
      obtain ⟨r0, r1, r2, r3, r4, r5⟩ := hF0.c3
      clear hat
      go_wp2
      have hF := ((hF0.set_ 0 (.int .u64 ((c.gradV xs ln (xn + tn)).toNat : Int))).set_ 1 (.slice ax xn cx)).set_ 2 (.slice at_ tn ct)
      have hq1 : w.heap.size + 1 + 1 < w1.heap.size + 1 := by omega
      have hq2 : w.heap.size + 1 + 1 < Bt := by have := hG.b1; omega
      have hq3 : w.heap.size ≤ w.heap.size + 1 + 1 := by omega
      refine bodyPost_ret (results_rowP rfl _ _ (w.heap.size + 1 + 1) _ #[.int .u64 ((c.gradV xs ln (xn + tn)).toNat : Int), .slice ax xn cx, .slice at_ tn ct] (0, 0) _ rfl hF Tryz.underlying56 rfl (by kernel_rfl)) rfl ⟨ax, cx, at_, ct, rfl, ?_, ?_, ?_⟩
      · exact (((hG.x.setCell (p := ⟨w.heap.size + 1 + 1, 0, none⟩) hq1 _).setCell (p := ⟨w.heap.size + 1 + 1, 1, none⟩) hq1 _).setCell (p := ⟨w.heap.size + 1 + 1, 2, none⟩) hq1 _).mono (by omega)
      · have hBt := hG.b1
        exact (((hG.t.setCell (p := ⟨w.heap.size + 1 + 1, 0, none⟩) hq2 _).setCell (p := ⟨w.heap.size + 1 + 1, 1, none⟩) hq2 _).setCell (p := ⟨w.heap.size + 1 + 1, 2, none⟩) hq2 _).mono (by omega)
      · exact (((hB1.trans (hb3.mono hz1)).setCell (p := ⟨w.heap.size + 1 + 1, 0, none⟩) hq3 _).setCell (p := ⟨w.heap.size + 1 + 1, 1, none⟩) hq3 _).setCell (p := ⟨w.heap.size + 1 + 1, 2, none⟩) hq3 _
set_option maxRecDepth 100000 in
set_option maxHeartbeats 3200000 in
theorem MGrad_bad (c : ChD) (xn tn : Nat) (hcx : c.x = (xn : Int)) (htn : tn = c.th.length) (hxl : xn ≤ 1000000) (htl : tn ≤ 1000000) (l : Int) (xa : Option Addr) (xc : Nat) (ta : Option Addr) (tc : Nat) (w : World) (ht : At w ta c.th)
    (hp : At w c.p.a c.p.l) (hpl : c.p.l.length ≤ 1000000) (hq : At w c.q.a c.q.l) (hql : c.q.l.length ≤ 1000000) (E : Int) (hE : c.mayM l = E) (h0 : E ≠ 0) :
    Calls Tryz.prog 25 #[.agg #[.int .i64 c.p.regs, .slice c.p.a c.p.l.length c.p.c], .agg #[.int .i64 c.q.regs, .slice c.q.a c.q.l.length c.q.c], .slice xa xn xc, .slice ta tn tc, .int .i64 l] w (GradOut 50 w.heap.size 0 [] [] E w) := by
  obtain ⟨hX, hY, hR, hb0, hz0⟩ := three_boxes w 24 24 56 #[.int .i64 c.p.regs, .slice c.p.a c.p.l.length c.p.c] #[.int .i64 c.q.regs, .slice c.q.a c.q.l.length c.q.c] #[.int .u64 0, .slice none 0 0, .slice none 0 0]
  obtain ⟨p0, p1, p2, p3⟩ := hX.c2
  obtain ⟨p4, p5, p6, p7⟩ := hY.c2
  have HM := hide (May24M_calls c ta tc l _ (hp.belowN hb0) hpl (hq.belowN hb0) hql (ht.belowN hb0) (by rw [hcx]; omega) (by omega) E hE)
  rw [← htn, hcx] at HM
  have e1 : (E == 0) = false := by simpa using h0
  have e2 : (E != 0) = true := by simpa using h0
  clear hE h0 hcx htn
  go_enter Tryz.func25, Tryz.ntmps25
  go_wp2_with (go_at_call 52; go_must ((with_reducible refine (HM.out).mono ?_); rintro e w1 ⟨rfl, hb1⟩; obtain ⟨r0, r1, r2, r3, r4, r5⟩ := (hR.belowN hb1).c3))
  have hB1 := hb0.trans (hb1.mono hb0.size)
  have hF := (((hR.belowN hb1).set_ 0 (.int .u64 0)).set_ 1 (.slice none 0 0)).set_ 2 (.slice none 0 0)
  have hq3 : w.heap.size ≤ w.heap.size + 1 + 1 := by omega
  refine bodyPost_ret (results_rowP rfl _ _ (w.heap.size + 1 + 1) _ #[.int .u64 0, .slice none 0 0, .slice none 0 0] (0, 0) _ rfl hF Tryz.underlying56 rfl (by kernel_rfl)) rfl ⟨none, 0, 0, none, 0, 0, rfl, rfl, rfl, Own.none _ _ _, Own.none _ _ _, ?_⟩
  exact ((hB1.setCell (p := ⟨w.heap.size + 1 + 1, 0, none⟩) hq3 _).setCell (p := ⟨w.heap.size + 1 + 1, 1, none⟩) hq3 _).setCell (p := ⟨w.heap.size + 1 + 1, 2, none⟩) hq3 _
theorem MGrad_calls (c : ChD) (xs : List UInt64) (xn tn : Nat) (hxn : xn = xs.length) (hcx : c.x = (xn : Int)) (htn : tn = c.th.length) (hxl : xn ≤ 1000000) (htl : tn ≤ 1000000) (l : Int) (xa : Option Addr) (xc : Nat) (ta : Option Addr) (tc : Nat) (w : World) (hx : At w xa xs) (ht : At w ta c.th)
    (hp : At w c.p.a c.p.l) (hpl : c.p.l.length ≤ 1000000) (hq : At w c.q.a c.q.l) (hql : c.q.l.length ≤ 1000000) :
    Calls Tryz.prog 25 #[.agg #[.int .i64 c.p.regs, .slice c.p.a c.p.l.length c.p.c], .agg #[.int .i64 c.q.regs, .slice c.q.a c.q.l.length c.q.c], .slice xa xn xc, .slice ta tn tc, .int .i64 l] w (GradOut 50 w.heap.size (c.gV xs l) (c.gX xs l) (c.gT xs l) (c.mayM l) w) := by
  by_cases h0 : c.mayM l = 0
  · obtain ⟨hc, l1, l2⟩ := ChD.mayM_ok h0
    obtain ⟨ln, rfl⟩ : ∃ n : Nat, l = n := ⟨l.toNat, by omega⟩
    unfold ChD.gV ChD.gX ChD.gT
    rw [if_pos h0, if_pos h0, if_pos h0, h0, Int.toNat_natCast, ← hxn, ← htn]
    refine (MGrad_good c hc xs xn tn ln hxn hcx htn (by omega) xa xc ta tc w hx ht hp hpl hq hql h0).mono ?_
    rintro e w' ⟨a1, c1, a2, c2, rfl, h1, h2, hb⟩
    exact ⟨a1, xn, c1, a2, tn, c2, rfl, (ChD.gradL_len _ _ _ _ _).symm, (ChD.gradL_len _ _ _ _ _).symm, h1, h2, hb⟩
  · unfold ChD.gV ChD.gX ChD.gT
    rw [if_neg h0, if_neg h0, if_neg h0]
    exact MGrad_bad c xn tn hcx htn hxl htl l xa xc ta tc w ht hp hpl hq hql _ rfl h0
end Go.Proofs.YtcamcnahkdiefaaGreat

/- Chapter 24: are two results alike. -/
namespace Go.Proofs.YtcamcnahkdiefaaGreat
set_option linter.unusedVariables false
set_option linter.unusedSimpArgs false
open Go.RowKit
set_option maxRecDepth 100000 in
set_option maxHeartbeats 3200000 in
theorem Same24_calls (V : UInt64) (X T : List UInt64) (a1 a2 b1 b2 : Option Addr) (n1 n2 m1 m2 c1 c2 d1 d2 : Nat) (hn1 : n1 = X.length) (hm1 : m1 = X.length) (hn2 : n2 = T.length) (hm2 : m2 = T.length) (w : World) (h1 : At w a1 X) (h2 : At w a2 T) (h3 : At w b1 X) (h4 : At w b2 T) (hl1 : n1 ≤ 1000000) (hl2 : n2 ≤ 1000000) :
    Calls Tryz.prog 27 #[.agg #[.int .u64 (V.toNat : Int), .slice a1 n1 c1, .slice a2 n2 c2], .agg #[.int .u64 (V.toNat : Int), .slice b1 m1 d1, .slice b2 m2 d2]] w fun e w' => e = .returned (.bool true) ∧ Below w.heap.size w w' := by
  obtain rfl : m1 = n1 := hm1.trans hn1.symm
  obtain rfl : m2 = n2 := hm2.trans hn2.symm
  obtain ⟨hX, hY, hb0, hz0⟩ := two_boxes w 56 56 #[.int .u64 (V.toNat : Int), .slice a1 m1 c1, .slice a2 m2 c2] #[.int .u64 (V.toNat : Int), .slice b1 m1 d1, .slice b2 m2 d2]
  obtain ⟨x0, x1, x2, x3, x4, x5⟩ := hX.c3
  obtain ⟨y0, y1, y2, y3, y4, y5⟩ := hY.c3
  have h1' := h1.belowN hb0
  have h2' := h2.belowN hb0
  have h3' := h3.belowN hb0
  have h4' := h4.belowN hb0
  have HN1 := hide hn1
  have HN2 := hide hn2
  clear hn1 hn2 hm1 hm2 h1 h2 h3 h4
  go_enter Tryz.func27, Tryz.ntmps27
  go_wp2
  have hbd : Below w.heap.size w (((w.alloc (.cells #[.int .u64 (V.toNat : Int), .slice a1 m1 c1, .slice a2 m2 c2] 56)).alloc (.cells #[.int .u64 (V.toNat : Int), .slice b1 m1 d1, .slice b2 m2 d2] 56))) := hb0
  go_loopw [5] (fun iv wr => ∃ i : Nat, iv = .int .i64 i ∧ i ≤ m1 ∧ Below ((w.alloc (.cells #[.int .u64 (V.toNat : Int), .slice a1 m1 c1, .slice a2 m2 c2] 56)).alloc (.cells #[.int .u64 (V.toNat : Int), .slice b1 m1 d1, .slice b2 m2 d2] 56)).heap.size ((w.alloc (.cells #[.int .u64 (V.toNat : Int), .slice a1 m1 c1, .slice a2 m2 c2] 56)).alloc (.cells #[.int .u64 (V.toNat : Int), .slice b1 m1 d1, .slice b2 m2 d2] 56)) wr) (fun iv _ => m1 - (intOf iv).toNat)
  case atStart => exact ⟨0, rfl, by omega, by first | exact Below.refl _ _ | exact Below.drew (Below.refl _ _)⟩
  case round =>
    obtain ⟨i, rfl, hi, hbr⟩ := hrel
    obtain ⟨x0, x1, x2, x3, x4, x5⟩ := (hX.belowN hbr).c3
    obtain ⟨y0, y1, y2, y3, y4, y5⟩ := (hY.belowN hbr).c3
    by_cases hlt : i < m1
    · obtain ⟨b, off, v, rfl, hv, u0⟩ := h1'.getU hbr (k := i) (by have := HN1.out; omega)
      obtain ⟨b', off', v', rfl, hv', u1⟩ := h3'.getU hbr (k := i) (by have := HN1.out; omega)
      obtain rfl : v' = v := Option.some.inj (hv'.out.symm.trans hv.out)
      clear hv hv'
      go_wp2
      go_region
      go_wp2
      go_roundw
      case rel => exact ⟨i + 1, by go_num, by omega, by first | exact hbr | exact hbr.drew⟩
      case measure => simp [intOf] <;> omega
    · have hin : m1 = i := by omega
      subst hin
      have hb2 := hb0.trans (hbr.mono hb0.size)
      have hX2 := hX.belowN hbr
      have hY2 := hY.belowN hbr
      have h22 := h2'.belowN hbr
      have h42 := h4'.belowN hbr
      obtain ⟨w2, rfl⟩ : ∃ w2 : World, w2 = wr := ⟨_, rfl⟩
      clear hbr hbd h2' h4' h1' h3'
      go_wp2
      go_loopw [6] (fun iv wr => ∃ j : Nat, iv = .int .i64 j ∧ j ≤ m2 ∧ Below w2.heap.size w2 wr) (fun iv _ => m2 - (intOf iv).toNat)
      case atStart => exact ⟨0, rfl, by omega, by first | exact Below.refl _ _ | exact Below.drew (Below.refl _ _)⟩
      case round =>
        obtain ⟨j, rfl, hj, hbr⟩ := hrel
        obtain ⟨x0, x1, x2, x3, x4, x5⟩ := (hX2.belowN hbr).c3
        obtain ⟨y0, y1, y2, y3, y4, y5⟩ := (hY2.belowN hbr).c3
        by_cases hlt : j < m2
        · obtain ⟨b, off, v, rfl, hv, u0⟩ := h22.getU hbr (k := j) (by have := HN2.out; omega)
          obtain ⟨b', off', v', rfl, hv', u1⟩ := h42.getU hbr (k := j) (by have := HN2.out; omega)
          obtain rfl : v' = v := Option.some.inj (hv'.out.symm.trans hv.out)
          clear hv hv'
          go_wp2
          go_region
          go_wp2
          go_roundw
          case rel => exact ⟨j + 1, by go_num, by omega, by first | exact hbr | exact hbr.drew⟩
          case measure => simp [intOf] <;> omega
        · have hin : m2 = j := by omega
          subst hin
          go_wp2
          go_ret
          exact ⟨rfl, hb2.trans (hbr.mono hb2.size)⟩
end Go.Proofs.YtcamcnahkdiefaaGreat
