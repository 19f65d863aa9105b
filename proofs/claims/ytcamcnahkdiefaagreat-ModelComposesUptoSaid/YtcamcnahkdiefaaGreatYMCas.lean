/- Several texts of mine in one file. -/
import Derived.Test.YtcamcnahkdiefaaGreatYMCar
import Derived.Test.YtcamcnahkdiefaaGreatYMCaq
import Derived.Test.YtcamcnahkdiefaaGreatYMCah
/- Chapter 24: the document's Composite. -/
namespace Go.Proofs.YtcamcnahkdiefaaGreat
set_option linter.unusedVariables false
set_option linter.unusedSimpArgs false
open Go.RowKit
noncomputable def ChD.iterC (c : ChD) (xn vn : Nat) : Nat → Int × List (List Tm)
  | 0 => (0, (startP vn).take xn)
  | t + 1 => if (c.iterC xn vn t).1 ≠ 0 then c.iterC xn vn t else
      let s := runC c.p (vn : Int) (t : Int) (c.iterC xn vn t).2 ((startP vn).drop xn)
      (s.1, if s.1 = 0 then s.2.take xn else [])
noncomputable def ChD.compC (c : ChD) (xn vn l : Nat) : Int × List Tm :=
  if (c.iterC xn vn l).1 ≠ 0 then ((c.iterC xn vn l).1, []) else
    let s := runC c.q (vn : Int) (-1) (c.iterC xn vn l).2 ((startP vn).drop xn)
    (s.1, if s.1 = 0 then s.2.headD [] else [])
theorem PsAt.take {P : Nat → Prop} {w : World} {va : Int} {hs : List PoH} {r : List (List Tm)} (h : PsAt P w va hs r) (k : Nat) : PsAt P w va (hs.take k) (r.take k) := by
  refine ⟨by simp [h.1], fun i z M e1 e2 => ?_⟩
  rw [List.getElem?_take] at e1 e2
  split at e1
  · rw [if_pos (by assumption)] at e2
    exact h.2 i z M e1 e2
  · cases e1
theorem runC_len {p : PrD} {va t : Int} {now fixed R : List (List Tm)} (h : runC p va t now fixed = (0, R)) : R.length = (fullS p.regs va t now fixed).length := by
  unfold runC afterS at h
  split at h
  · rename_i h1
    injection h with h2 h3
    exact absurd h2 h1
  · split at h
    · cases h
    · split at h
      · cases h
      · exact (runS_len _ _ _ _ h).1 rfl
theorem PsAt.drop {P : Nat → Prop} {w : World} {va : Int} {hs : List PoH} {r : List (List Tm)} (h : PsAt P w va hs r) (k : Nat) : PsAt P w va (hs.drop k) (r.drop k) := by
  refine ⟨by simp [h.1], fun i z M e1 e2 => ?_⟩
  rw [List.getElem?_drop] at e1 e2
  exact h.2 _ z M e1 e2
theorem ChD.iterC_stay (c : ChD) (xn vn t : Nat) (h : (c.iterC xn vn t).1 ≠ 0) : ∀ k, c.iterC xn vn (t + k) = c.iterC xn vn t
  | 0 => rfl
  | k + 1 => by
    have ih := ChD.iterC_stay c xn vn t h k
    show (if (c.iterC xn vn (t + k)).1 ≠ 0 then c.iterC xn vn (t + k) else _) = _
    rw [ih, if_pos h]
theorem ChD.iterC_succ (c : ChD) (xn vn t : Nat) {E : Int} {R : List (List Tm)} (h : (c.iterC xn vn t).1 = 0) (hR : runC c.p (vn : Int) (t : Int) (c.iterC xn vn t).2 ((startP vn).drop xn) = (E, R)) : c.iterC xn vn (t + 1) = (E, if E = 0 then R.take xn else []) := by
  show (if (c.iterC xn vn t).1 ≠ 0 then c.iterC xn vn t else _) = _
  rw [if_neg (by simpa using h), hR]
theorem ChD.compC_bad (c : ChD) (xn vn l t : Nat) {E : Int} (ht : t ≤ l) (h : c.iterC xn vn t = (E, [])) (h0 : E ≠ 0) : c.compC xn vn l = (E, []) := by
  have h1 : (c.iterC xn vn t).1 ≠ 0 := by rw [h]; exact h0
  have e : c.iterC xn vn l = (E, []) := by
    rw [show l = t + (l - t) by omega, ChD.iterC_stay c xn vn t h1, h]
  unfold ChD.compC
  rw [e, if_pos h0]
theorem ChD.compC_end (c : ChD) (xn vn l : Nat) {E : Int} {R : List (List Tm)} (h : (c.iterC xn vn l).1 = 0) (hR : runC c.q (vn : Int) (-1) (c.iterC xn vn l).2 ((startP vn).drop xn) = (E, R)) : c.compC xn vn l = (E, if E = 0 then R.headD [] else []) := by
  unfold ChD.compC
  rw [if_neg (by simpa using h), hR]
theorem runC_all {n : Nat} (h64 : n ≤ 64) {p : PrD} {t : Int} {now fixed : List (List Tm)} (h1 : AllP (n : Int) now) (h2 : AllP (n : Int) fixed) (hl : 1 ≤ now.length) {E : Int} {R : List (List Tm)} (h : runC p (n : Int) t now fixed = (E, R)) : AllP (n : Int) R := by
  unfold runC at h
  obtain ⟨m, hm⟩ : ∃ m, (fullS p.regs (n : Int) t now fixed).length = m + 1 := ⟨(fullS p.regs (n : Int) t now fixed).length - 1, by unfold fullS; simp; omega⟩
  have h0 : afterS p.regs p.l ((List.replicate (fullS p.regs (n : Int) t now fixed).length (⟨(n : Int), none, 0, 0⟩ : PoH)).map (·.v)) (fullS p.regs (n : Int) t now fixed) = (E, R) := by
    rw [List.map_replicate]
    exact h
  have hh := afterS_all (List.length_replicate ..) h0
  rw [List.map_replicate, hm] at hh
  exact hh.1
def PolyAll (V : Int) (L : List Tm) (E : Int) (w : World) (e : Ending) (w' : World) : Prop :=
  ∃ a n c, e = .returned (.tuple #[.agg #[.int .i64 V, .slice a n c], .int .i64 E]) ∧ TOut (fun _ => True) w' a n c L ∧ Below w.heap.size w w'
set_option maxRecDepth 100000 in
set_option maxHeartbeats 12800000 in
theorem RComp_good (c : ChD) (hc : c.Ok) (xn tn ln vn : Nat) (hvn : xn + tn = vn) (hcx : c.x = (xn : Int)) (htn : tn = c.th.length) (hln : ln < 65536) (hpa : pairS c.p c.q = 0) (hdi : dimsC c.p.regs c.q.regs (xn : Int) (tn : Int) = 0) (w : World)
    (hp : At w c.p.a c.p.l) (hpl : c.p.l.length ≤ 1000000) (hq : At w c.q.a c.q.l) (hql : c.q.l.length ≤ 1000000) (E : Int) (L : List Tm) (hC : c.compC xn vn ln = (E, L)) (V : Int) (hV : (if E = 0 then (vn : Int) else 0) = V) :
    Calls Tryz.prog 30 #[.agg #[.int .i64 c.p.regs, .slice c.p.a c.p.l.length c.p.c], .agg #[.int .i64 c.q.regs, .slice c.q.a c.q.l.length c.q.c], .int .i64 (xn : Int), .int .i64 (tn : Int), .int .i64 (ln : Int)] w (PolyAll V L E w) := by
  have hx1 := hc.x1
  have hx2 := hc.x2
  have ht2 := hc.t2
  have hr1 := hc.r1
  rw [hcx] at hx1 hx2 hr1
  rw [← htn] at ht2 hr1
  obtain ⟨f, hfl, hgf⟩ := hc.hp
  obtain ⟨g, hgl, hgg⟩ := hc.hq
  clear hfl hgl
  obtain ⟨hX, hY, hR, hb0, hz0⟩ := three_boxes w 24 24 42 #[.int .i64 c.p.regs, .slice c.p.a c.p.l.length c.p.c] #[.int .i64 c.q.regs, .slice c.q.a c.q.l.length c.q.c] #[.int .i64 0, .slice none 0 0]
  obtain ⟨p0, p1, p2, p3⟩ := hX.c2
  obtain ⟨p4, p5, p6, p7⟩ := hY.c2
  have HVN := hide hvn
  have HV := hide hV
  have h64 : vn ≤ 64 := by have := hgf.r2; omega
  have HPA := hide (Pair10_calls c.p c.q _ (hp.belowN hb0) hpl (hq.belowN hb0) hql 0 hpa)
  have HDI := hide (fun (W : World) => Dims10_calls c.p c.q (xn : Int) (tn : Int) (by omega) (by omega) W)
  rw [hdi] at HDI
  have d1 : decide ((ln : Int) < 0) = false := decide_eq_false (by omega)
  have d2 : decide ((ln : Int) ≥ 65536) = false := decide_eq_false (by omega)
  have d3 : decide (65536 ≤ (ln : Int)) = false := decide_eq_false (by omega)
  clear hvn hcx htn hpa hdi hV
  go_enter Tryz.func30, Tryz.ntmps30
  go_wp2_with (first
    | (go_at_call 62; go_must ((with_reducible refine (HPA.out).mono ?_); rintro e w1 ⟨rfl, hb1⟩; have hB1 := hb0.trans (hb1.mono hb0.size); obtain ⟨q0, q1, q2, q3⟩ := (hX.belowN hb1).c2; obtain ⟨q4, q5, q6, q7⟩ := (hY.belowN hb1).c2))
    | (go_at_call 63; go_must ((with_reducible refine (HDI.out _).mono ?_); rintro e w2 ⟨rfl, hb2⟩; have hB2 := hB1.trans (hb2.mono hB1.size))))
  have hX2 := (hX.belowN hb1).belowN hb2
  have hY2 := (hY.belowN hb1).belowN hb2
  have hR2 := (hR.belowN hb1).belowN hb2
  have hz2 := hB2.size
  clear q0 q1 q2 q3 q4 q5 q6 q7 p0 p1 p2 p3 p4 p5 p6 p7 hX hY hR hB1 HPA HDI
  have hn0 : Own ((w2.alloc (.cells #[] 42)).alloc (.cells #[] 42)) w2.heap.size 42 (some ⟨w2.heap.size, 0, none⟩) 0 ([] : List PoH) := (Own.new w2 (Nat.le_refl _) 42 PoH).belowN (below_box _ _)
  have hf0 : Own ((w2.alloc (.cells #[] 42)).alloc (.cells #[] 42)) w2.heap.size 42 (some ⟨(w2.alloc (.cells #[] 42)).heap.size, 0, none⟩) 0 ([] : List PoH) := Own.new (w2.alloc (.cells #[] 42)) (by rw [World.size_alloc]; exact Nat.le_succ _) 42 PoH
  rw [World.size_alloc] at hf0
  have hBG : Below w2.heap.size w2 ((w2.alloc (.cells #[] 42)).alloc (.cells #[] 42)) := (below_box w2 _).trans ((below_box (w2.alloc (.cells #[] 42)) _).mono (by rw [World.size_alloc]; exact Nat.le_succ _))
  go_loopw [14, 15, 16] (fun nv fv iv wr => ∃ (i : Nat) (an af : Option Addr) (cn cf : Nat) (hn hf : List PoH), nv = .slice an (min i xn) cn ∧ fv = .slice af (i - xn) cf ∧ iv = .int .i64 i ∧ i ≤ vn ∧ min i xn = hn.length ∧ i - xn = hf.length ∧ Own wr w2.heap.size 42 an cn hn ∧ Own wr w2.heap.size 42 af cf hf ∧ an.map (·.block) ≠ af.map (·.block) ∧ PsAt (fun q => (an.map (·.block) ≠ some q ∧ af.map (·.block) ≠ some q) ∧ w2.heap.size ≤ q) wr (vn : Int) (hn ++ hf) ((startP vn).take i) ∧ Below w2.heap.size w2 wr) (fun _ _ iv _ => vn - (intOf iv).toNat)
  case atStart =>
    refine ⟨0, _, _, _, _, [], [], rfl, by rw [Nat.zero_sub], rfl, by omega, by simp, by simp, hn0, hf0, by simp, ?_, hBG⟩
    rw [List.take_zero]
    exact PsAt.nil _ _ _
  case round =>
    obtain ⟨i, an, af, cn, cf, hn, hf, rfl, rfl, rfl, hi, hln1, hln2, hownN, hownF, hne, hP3, hb3⟩ := hrel
    have hz3 := hb3.size
    have hP4 := hP3.bounded
    by_cases hlt : i < vn
    · obtain ⟨v1, v2, v3, v4⟩ := var_facts h64 hlt
      obtain ⟨LL, hL⟩ : ∃ L, varL (vn : Int) (i : Int) = L := ⟨_, rfl⟩
      have htk : (startP vn).take (i + 1) = (startP vn).take i ++ [LL] := by rw [List.take_add_one, startP_get hlt, hL]; rfl
      have HPV := hide (RVar_calls (vn : Int) (i : Int) wr (vn : Int) LL 0 v2 hL v1)
      rw [show (vn : Int) = (xn : Int) + (tn : Int) by have := HVN.out; omega] at HPV
      have HTK := hide htk
      clear v1 v2 v3 v4 hL htk hP3
      obtain ⟨w3, rfl⟩ : ∃ w3 : World, w3 = wr := ⟨_, rfl⟩
      have hlt2 : i < xn + tn := by have := HVN.out; omega
      have d4 : (i : Int) < (xn : Int) + (tn : Int) := by omega
      by_cases hix : i < xn
      · have m1 : min i xn = i := by omega
        have m2 : i - xn = 0 := by omega
        rw [m1] at hln1
        rw [m2] at hln2
        rw [m1, m2]
        have HL1 := hide hln1
        have HL2 := hide hln2
        obtain rfl : hf = [] := List.eq_nil_of_length_eq_zero hln2.symm
        clear hln1 hln2
        go_wp2_with (first
          | (at_builtin; go_must (refine wpList_push tyPo hownN10 ⟨(xn : Int) + (tn : Int), a9, n9, c9⟩ rfl rfl rfl rfl rfl (by simp) HL1.out hz10 (by omega) ?_; intro a4 c4 w4 hown6 hg6 hcs6))
          | (go_at_call 44; go_must ((with_reducible refine (HPV.out).mono ?_); rintro vv w9 ⟨a9, n9, c9, rfl, hT9, hb9⟩; have hb10 := hb9.trans ((below_box w9 (.cells #[.int .i64 ((xn : Int) + (tn : Int)), .slice a9 n9 c9] 42)).mono hb9.size); have hownN10 := hownN.belowN hb10; have hz10 : w2.heap.size ≤ (w9.alloc (.cells #[.int .i64 ((xn : Int) + (tn : Int)), .slice a9 n9 c9] 42)).heap.size := (by have := hb10.size; omega); have hN10 := Blk.new w9 42 #[.int .i64 ((xn : Int) + (tn : Int)), .slice a9 n9 c9]; obtain ⟨n0, n1, n2, n3⟩ := hN10.c2)))
        have hb12 := below_push (hb3.trans (hb10.mono hz3)) hownN10 hg6 hz10
        have hz9 := hb9.size
        have hF6 := (hownF.belowN hb10).grown hg6 (.inr (Ne.symm hne))
        have hne6 : a4.map (·.block) ≠ af.map (·.block) := by
          rcases hcs6 with e | ⟨g, e, hg⟩
          · rw [e]; exact hne
          · rw [e]; intro h; have h1 := (hownF.blk g h.symm).2; have h2 := hb10.size; omega
        have hP6 := ((hP4.belowN hb10).grown hg6 (fun q hq h => h.1.1.1 hq)).imp (Q := fun q => (a4.map (·.block) ≠ some q ∧ af.map (·.block) ≠ some q) ∧ w2.heap.size ≤ q) (fun q hq => ⟨⟨ne_push hcs6 hq.1.1.1 (by have := hb10.size; omega), hq.1.1.2⟩, hq.1.2⟩)
        have hT10 := ((hT9.bounded.belowN (below_box w9 (.cells #[.int .i64 ((xn : Int) + (tn : Int)), .slice a9 n9 c9] 42))).grown hg6 (fun q hq h => by have := (hownN.blk q hq).2; omega)).imp (Q := fun q => (a4.map (·.block) ≠ some q ∧ af.map (·.block) ≠ some q) ∧ w2.heap.size ≤ q) (fun q hq => ⟨⟨ne_push hcs6 (fun e => by have := (hownN.blk q e).2; omega) (by rw [World.size_alloc]; omega), fun e => by have := (hownF.blk q e).2; omega⟩, by have := hq.1; omega⟩)
        go_roundw
        case rel =>
          refine ⟨i + 1, a4, af, c4, cf, hn ++ [⟨(xn : Int) + (tn : Int), a9, n9, c9⟩], [], by rw [show min (i + 1) xn = i + 1 by omega], by rw [show i + 1 - xn = 0 by omega], by go_num, by omega, by have := HL1.out; simp; omega, by simp; omega, hown6, hF6, hne6, ?_, hb12⟩
          rw [HTK.out, List.append_nil]
          rw [List.append_nil] at hP6
          exact hP6.push (by show (xn : Int) + (tn : Int) = _; have := HVN.out; omega) hT10
        case measure => simp [intOf] <;> omega
      · obtain ⟨m, m2⟩ : ∃ m, i - xn = m := ⟨_, rfl⟩
        have m1 : min i xn = xn := by omega
        rw [m1] at hln1
        rw [m2] at hln2
        rw [m1, m2]
        have HL1 := hide hln1
        have HL2 := hide hln2
        have d1 : decide (i < xn) = false := decide_eq_false hix
        have d2 : decide ((i : Int) < (xn : Int)) = false := decide_eq_false (by omega)
        clear hln1 hln2
        go_wp2_with (first
          | (at_builtin; go_must (refine wpList_push tyPo hownF10 ⟨(xn : Int) + (tn : Int), a9, n9, c9⟩ rfl rfl rfl rfl rfl (by simp) HL2.out hz10 (by omega) ?_; intro a4 c4 w4 hown6 hg6 hcs6))
          | (go_at_call 44; go_must ((with_reducible refine (HPV.out).mono ?_); rintro vv w9 ⟨a9, n9, c9, rfl, hT9, hb9⟩; have hb10 := hb9.trans ((below_box w9 (.cells #[.int .i64 ((xn : Int) + (tn : Int)), .slice a9 n9 c9] 42)).mono hb9.size); have hownF10 := hownF.belowN hb10; have hz10 : w2.heap.size ≤ (w9.alloc (.cells #[.int .i64 ((xn : Int) + (tn : Int)), .slice a9 n9 c9] 42)).heap.size := (by have := hb10.size; omega); have hN10 := Blk.new w9 42 #[.int .i64 ((xn : Int) + (tn : Int)), .slice a9 n9 c9]; obtain ⟨n0, n1, n2, n3⟩ := hN10.c2)))
        have hb12 := below_push (hb3.trans (hb10.mono hz3)) hownF10 hg6 hz10
        have hz9 := hb9.size
        have hF6 := (hownN.belowN hb10).grown hg6 (.inr hne)
        have hne6 : an.map (·.block) ≠ a4.map (·.block) := by
          rcases hcs6 with e | ⟨g, e, hg⟩
          · rw [e]; exact hne
          · rw [e]; intro h; have h1 := (hownN.blk g h).2; have h2 := hb10.size; omega
        have hP6 := ((hP4.belowN hb10).grown hg6 (fun q hq h => h.1.1.2 hq)).imp (Q := fun q => (an.map (·.block) ≠ some q ∧ a4.map (·.block) ≠ some q) ∧ w2.heap.size ≤ q) (fun q hq => ⟨⟨hq.1.1.1, ne_push hcs6 hq.1.1.2 (by have := hb10.size; omega)⟩, hq.1.2⟩)
        have hT10 := ((hT9.bounded.belowN (below_box w9 (.cells #[.int .i64 ((xn : Int) + (tn : Int)), .slice a9 n9 c9] 42))).grown hg6 (fun q hq h => by have := (hownF.blk q hq).2; omega)).imp (Q := fun q => (an.map (·.block) ≠ some q ∧ a4.map (·.block) ≠ some q) ∧ w2.heap.size ≤ q) (fun q hq => ⟨⟨fun e => by have := (hownN.blk q e).2; omega, ne_push hcs6 (fun e => by have := (hownF.blk q e).2; omega) (by rw [World.size_alloc]; omega)⟩, by have := hq.1; omega⟩)
        go_roundw
        case rel =>
          refine ⟨i + 1, an, a4, cn, c4, hn, hf ++ [⟨(xn : Int) + (tn : Int), a9, n9, c9⟩], by rw [show min (i + 1) xn = xn by omega], by rw [show i + 1 - xn = m + 1 by omega], by go_num, by omega, by have := HL1.out; omega, by have := HL2.out; simp; omega, hF6, hown6, hne6, ?_, hb12⟩
          rw [HTK.out, ← List.append_assoc]
          exact hP6.push (by show (xn : Int) + (tn : Int) = _; have := HVN.out; omega) hT10
        case measure => simp [intOf] <;> omega
    · have hin : i = vn := by omega
      subst hin
      have m1 : min i xn = xn := by have := HVN.out; omega
      have m2 : i - xn = tn := by have := HVN.out; omega
      rw [m1] at hln1
      rw [m2] at hln2
      rw [List.take_of_length_le (by rw [startP_len]; exact Nat.le_refl _)] at hP4
      have hlR := hR2.lt
      have hPN : PsAt (fun q => q ≠ w.heap.size + 1 + 1 ∧ q < wr.heap.size) wr (i : Int) hn ((startP i).take xn) := by
        have h := (hP4.take xn).imp (Q := fun q => q ≠ w.heap.size + 1 + 1 ∧ q < wr.heap.size) (fun q hq => ⟨by have := hq.1.2; omega, hq.2⟩)
        rw [List.take_left' hln1.symm] at h
        exact h
      have hPF : PsAt (fun q => q ≠ w.heap.size + 1 + 1 ∧ q < wr.heap.size) wr (i : Int) hf ((startP i).drop xn) := by
        have h := (hP4.drop xn).imp (Q := fun q => q ≠ w.heap.size + 1 + 1 ∧ q < wr.heap.size) (fun q hq => ⟨by have := hq.1.2; omega, hq.2⟩)
        rw [List.drop_left' hln1.symm] at h
        exact h
      have hAll := startP_all h64
      have hAN : AllP (i : Int) ((startP i).take xn) := fun M hM => hAll M (List.mem_of_mem_take hM)
      have hAF : AllP (i : Int) ((startP i).drop xn) := fun M hM => hAll M (List.mem_of_mem_drop hM)
      have hB5 := hB2.trans (hb3.mono hz2)
      have hX5 := hX2.belowN hb3
      have hY5 := hY2.belowN hb3
      have hR5 := hR2.belowN hb3
      have hatN := hownN.at_
      have hatF := hownF.at_
      have HL2 := hide hln2
      have hz5 := hB5.size
      have h4 : ¬ (i : Int) < (xn : Int) + (tn : Int) := by have := HVN.out; omega
      have h5 : ¬ i < xn + tn := by have := HVN.out; omega
      have d4 : decide ((i : Int) < (xn : Int) + (tn : Int)) = false := decide_eq_false h4
      have d5 : decide (i < xn + tn) = false := decide_eq_false h5
      rw [m1, m2]
      have HL1 := hide hln1
      clear hln1 hln2 hP3 hP4 hownN hownF hne hX2 hY2 hR2 hb3 hAll hn0 hf0 hBG
      obtain ⟨w5, rfl⟩ : ∃ w5 : World, w5 = wr := ⟨_, rfl⟩
      have HLEN := hide (show 1 ≤ xn ∧ tn ≤ 64 from ⟨by omega, by omega⟩)
      have HRG := hide (show (0 ≤ c.p.regs ∧ c.p.regs ≤ 64) ∧ 0 ≤ c.q.regs ∧ c.q.regs ≤ 64 from ⟨⟨by have := hgf.r1; omega, hgf.r2⟩, by have := hgg.r1; omega, hgg.r2⟩)
      have HR1 := hide hr1
      go_wp2
      go_loopw [14, 19] (fun nv tv wr => ∃ (t : Nat) (a' : Option Addr) (c' : Nat) (hs : List PoH), nv = .slice a' xn c' ∧ tv = .int .i64 t ∧ t ≤ ln ∧ xn = hs.length ∧ At wr a' hs ∧ PsAt (fun q => q ≠ w.heap.size + 1 + 1 ∧ q < wr.heap.size) wr (i : Int) hs (c.iterC xn i t).2 ∧ (c.iterC xn i t).1 = 0 ∧ AllP (i : Int) (c.iterC xn i t).2 ∧ Below w5.heap.size w5 wr) (fun _ tv _ => ln - (intOf tv).toNat)
      case atStart => exact ⟨0, an, cn, hn, rfl, rfl, by omega, HL1.out, hatN, hPN, rfl, hAN, Below.refl _ _⟩
      case round =>
        obtain ⟨t, a', c', hs, rfl, rfl, htl, hhs, hat, hPs, hi0, hAs, hb6⟩ := hrel
        have hz6 := hb6.size
        have hB6 := hB5.trans (hb6.mono hz5)
        obtain ⟨p0, p1, p2, p3⟩ := (hX5.belowN hb6).c2
        obtain ⟨p4, p5, p6, p7⟩ := (hY5.belowN hb6).c2
        obtain ⟨r0, r1, r2, r3⟩ := (hR5.belowN hb6).c2
        have hPF6 := (hPF.belowN hb6).imp (Q := fun q => q ≠ w.heap.size + 1 + 1 ∧ q < wr.heap.size) (fun q hq => ⟨hq.1, Nat.lt_of_lt_of_le hq.2 hz6⟩)
        have hlr : 1 ≤ (c.iterC xn i t).2.length := by rw [← hPs.1, ← hhs]; exact HLEN.out.1
        by_cases hlt : t < ln
        · obtain ⟨⟨E1, R1⟩, hR1⟩ : ∃ x, runC c.p (i : Int) (t : Int) (c.iterC xn i t).2 ((startP i).drop xn) = x := ⟨_, rfl⟩
          have HRA := hide (RAftQ_calls (fun q => q ≠ w.heap.size + 1 + 1) c.p xn tn i a' af c' cf hs hf _ _ hhs HL2.out HVN.out h64 HLEN.out.1 (t : Int) (by omega) (by omega) wr (hp.belowN hB6) hpl HRG.out.1 hat (hatF.belowN hb6) hPs hPF6 hAs hAF E1 R1 hR1)
          have hA1 := runC_all h64 hAs hAF hlr hR1
          have hsu := c.iterC_succ xn i t hi0 hR1
          obtain ⟨w6, rfl⟩ : ∃ w6 : World, w6 = wr := ⟨_, rfl⟩
          by_cases hE1 : E1 = 0
          · subst hE1
            have hlen1 := runC_len hR1
            have hxR : xn ≤ R1.length := by
              rw [hlen1]
              unfold fullS
              simp only [List.length_append]
              have h9 := hPs.1
              omega
            rw [if_pos rfl] at hsu
            have HSU := hide hsu
            clear hsu hR1 hlen1 hhs
            go_wp2_with (go_at_call 64; go_must ((with_reducible refine (HRA.out).mono ?_); rintro e w9 ⟨a9, n9, c9, hs9, rfl, hn9, hown9, hP9, hb9⟩; have hk9 : xn ≤ c9 := (by have h7 := hown9.cap.1; have h8 := hP9.1; omega)))
            go_roundw
            case rel =>
              refine ⟨t + 1, a9, c9, hs9.take xn, by go_num, by go_num, by omega, ?_, hown9.at_.takeN xn, ?_, ?_, ?_, hb6.trans (hb9.mono hz6)⟩
              · have h8 := hP9.1; rw [List.length_take]; omega
              · rw [HSU.out]; exact (hP9.bounded.imp (Q := fun q => q ≠ w.heap.size + 1 + 1 ∧ q < w9.heap.size) (fun q hq => ⟨by have h7 := hR5.lt; have h8 := hq.1; omega, hq.2⟩)).take xn
              · rw [HSU.out]
              · rw [HSU.out]; exact fun M hM => hA1 M (List.mem_of_mem_take hM)
            case measure => simp [intOf] <;> omega
          · rw [if_neg hE1] at hsu
            have hcb := c.compC_bad xn i ln (t + 1) (by omega) hsu hE1
            rw [hC] at hcb
            injection hcb with e1 e2
            subst e1 e2
            have hV := HV.out
            rw [if_neg hE1] at hV
            subst hV
            have e1 : (E == 0) = false := by simpa using hE1
            have e2 : (E != 0) = true := by simpa using hE1
            have hq3 : w.heap.size ≤ w.heap.size + 1 + 1 := by omega
            clear hsu hR1 hhs hC hE1 HV
            go_wp2_with (go_at_call 64; go_must ((with_reducible refine (HRA.out).mono ?_); rintro e w9 ⟨a9, n9, c9, hs9, rfl, hn9, hown9, hP9, hb9⟩; obtain ⟨r0, r1, r2, r3⟩ := ((hR5.belowN hb6).belowN hb9).c2))
            have hF := (((hR5.belowN hb6).belowN hb9).set_ 0 (.int .i64 0)).set_ 1 (.slice none 0 0)
            refine bodyPost_ret (results_rowP rfl _ _ (w.heap.size + 1 + 1) _ #[.int .i64 0, .slice none 0 0] (0, 0) _ rfl hF Tryz.underlying42 rfl (by kernel_rfl)) rfl ⟨none, 0, 0, rfl, TOut.nil _ _, ?_⟩
            exact ((hB6.trans (hb9.mono hB6.size)).setCell (p := ⟨w.heap.size + 1 + 1, 0, none⟩) hq3 _).setCell (p := ⟨w.heap.size + 1 + 1, 1, none⟩) hq3 _
        · have htl2 : t = ln := by omega
          subst htl2
          obtain ⟨⟨E2, R2⟩, hR2'⟩ : ∃ x, runC c.q (i : Int) (-1) (c.iterC xn i t).2 ((startP i).drop xn) = x := ⟨_, rfl⟩
          have HRA := hide (RAftQ_calls (fun q => q ≠ w.heap.size + 1 + 1) c.q xn tn i a' af c' cf hs hf _ _ hhs HL2.out HVN.out h64 HLEN.out.1 (-1) (by omega) (by omega) wr (hq.belowN hB6) hql HRG.out.2 hat (hatF.belowN hb6) hPs hPF6 hAs hAF E2 R2 hR2')
          have hce := c.compC_end xn i t hi0 hR2'
          rw [hC] at hce
          injection hce with e1 e2
          subst e1
          have hlen2 : E = 0 → 1 ≤ R2.length := fun h0 => by
            subst h0
            rw [runC_len hR2']
            unfold fullS
            simp only [List.length_append]
            omega
          have hV := HV.out
          have hq3 : w.heap.size ≤ w.heap.size + 1 + 1 := by omega
          obtain ⟨w6, rfl⟩ : ∃ w6 : World, w6 = wr := ⟨_, rfl⟩
          by_cases hE2 : E = 0
          · subst hE2
            rw [if_pos rfl] at hV e2
            subst hV
            have hlen3 := hlen2 rfl
            have HE2 := hide e2
            clear hR2' hhs hC HV e2 hlen2
            go_wp2_with (go_at_call 64; go_must ((with_reducible refine (HRA.out).mono ?_); rintro e w9 ⟨a9, n9, c9, hs9, rfl, hn9, hown9, hP9, hb9⟩; obtain ⟨r0, r1, r2, r3⟩ := ((hR5.belowN hb6).belowN hb9).c2; obtain ⟨b9, off9, y9, rfl, hy9, y0, y1⟩ := hown9.at_.getPo (Below.refl _ _) (k := 0) (by have h8 := hP9.1; omega); simp only [Nat.zero_mul, Nat.add_zero] at y0 y1; have h00 : 0 < n9 := (by omega)))
            obtain ⟨hv9, hT9⟩ := hP9.get hy9.out
            have hnP : ¬ ((w.heap.size + 1 + 1 ≠ w.heap.size + 1 + 1) ∨ w6.heap.size ≤ w.heap.size + 1 + 1) := by have h7 := hR5.lt; omega
            have hF := (((hR5.belowN hb6).belowN hb9).set_ 0 (.int .i64 y9.v)).set_ 1 (.slice y9.a y9.n y9.c)
            have hTf := ((hT9.setCell (g := w.heap.size + 1 + 1) (i := 0) (.int .i64 y9.v) hnP).setCell (g := w.heap.size + 1 + 1) (i := 1) (.slice y9.a y9.n y9.c) hnP).imp (Q := fun _ => True) (fun _ _ => trivial)
            refine bodyPost_ret (results_rowP rfl _ _ (w.heap.size + 1 + 1) _ #[.int .i64 y9.v, .slice y9.a y9.n y9.c] (0, 0) _ rfl hF Tryz.underlying42 rfl (by kernel_rfl)) rfl ⟨y9.a, y9.n, y9.c, by rw [hv9]; rfl, ?_, ?_⟩
            · rw [HE2.out]
              have e9 : R2.headD [] = R2.getD 0 [] := by cases R2 <;> rfl
              rw [e9]
              exact hTf
            · exact ((hB6.trans (hb9.mono hB6.size)).setCell (p := ⟨w.heap.size + 1 + 1, 0, none⟩) hq3 _).setCell (p := ⟨w.heap.size + 1 + 1, 1, none⟩) hq3 _
          · rw [if_neg hE2] at hV e2
            subst hV e2
            have g1 : (E == 0) = false := by simpa using hE2
            have g2 : (E != 0) = true := by simpa using hE2
            clear hR2' hhs hC HV hlen2 hE2
            go_wp2_with (go_at_call 64; go_must ((with_reducible refine (HRA.out).mono ?_); rintro e w9 ⟨a9, n9, c9, hs9, rfl, hn9, hown9, hP9, hb9⟩; obtain ⟨r0, r1, r2, r3⟩ := ((hR5.belowN hb6).belowN hb9).c2))
            have hF := (((hR5.belowN hb6).belowN hb9).set_ 0 (.int .i64 0)).set_ 1 (.slice none 0 0)
            refine bodyPost_ret (results_rowP rfl _ _ (w.heap.size + 1 + 1) _ #[.int .i64 0, .slice none 0 0] (0, 0) _ rfl hF Tryz.underlying42 rfl (by kernel_rfl)) rfl ⟨none, 0, 0, rfl, TOut.nil _ _, ?_⟩
            exact ((hB6.trans (hb9.mono hB6.size)).setCell (p := ⟨w.heap.size + 1 + 1, 0, none⟩) hq3 _).setCell (p := ⟨w.heap.size + 1 + 1, 1, none⟩) hq3 _
end Go.Proofs.YtcamcnahkdiefaaGreat

/- Chapter 24: the document's Composite, whatever the arguments. -/
namespace Go.Proofs.YtcamcnahkdiefaaGreat
set_option linter.unusedVariables false
set_option linter.unusedSimpArgs false
open Go.RowKit
def mkC (p q : PrD) (x t : Int) : ChD := ⟨p, q, x, List.replicate t.toNat 0⟩
noncomputable def compS (p q : PrD) (x t l : Int) : Int × List Tm :=
  if pairS p q ≠ 0 then (pairS p q, []) else if dimsC p.regs q.regs x t ≠ 0 then (dimsC p.regs q.regs x t, []) else if l < 0 ∨ 65536 ≤ l then (2, []) else
  (mkC p q x t).compC x.toNat (x.toNat + t.toNat) l.toNat
theorem dimsC_zero {r1 r2 x t : Int} (h : dimsC r1 r2 x t = 0) : 1 ≤ x ∧ x ≤ 64 ∧ 0 ≤ t ∧ t ≤ 64 ∧ x + t + 1 ≤ r1 ∧ x + t ≤ r2 := by
  unfold dimsC at h
  split at h
  · cases h
  · omega
theorem mkC_ok {p q : PrD} {x t : Int} (h1 : pairS p q = 0) (h2 : dimsC p.regs q.regs x t = 0) : (mkC p q x t).Ok := by
  obtain ⟨a1, a2, a3, a4, _⟩ := dimsC_zero h2
  refine (mkC p q x t).ok_of ?_
  unfold ChD.bad mkC
  simp only [List.length_replicate]
  rw [if_neg (by simpa using h1), show ((t.toNat : Nat) : Int) = t by omega]
  exact h2
set_option maxRecDepth 100000 in
set_option maxHeartbeats 3200000 in
theorem RComp_pair (p q : PrD) (x t l : Int) (w : World) (hp : At w p.a p.l) (hpl : p.l.length ≤ 1000000) (hq : At w q.a q.l) (hql : q.l.length ≤ 1000000) (E : Int) (hE : pairS p q = E) (h0 : E ≠ 0) :
    Calls Tryz.prog 30 #[.agg #[.int .i64 p.regs, .slice p.a p.l.length p.c], .agg #[.int .i64 q.regs, .slice q.a q.l.length q.c], .int .i64 x, .int .i64 t, .int .i64 l] w (PolyAll 0 [] E w) := by
  obtain ⟨hX, hY, hR, hb0, hz0⟩ := three_boxes w 24 24 42 #[.int .i64 p.regs, .slice p.a p.l.length p.c] #[.int .i64 q.regs, .slice q.a q.l.length q.c] #[.int .i64 0, .slice none 0 0]
  obtain ⟨p0, p1, p2, p3⟩ := hX.c2
  obtain ⟨p4, p5, p6, p7⟩ := hY.c2
  have e1 : (E == 0) = false := by simpa using h0
  have e2 : (E != 0) = true := by simpa using h0
  have hq3 : w.heap.size ≤ w.heap.size + 1 + 1 := by omega
  have HPA := hide (Pair10_calls p q _ (hp.belowN hb0) hpl (hq.belowN hb0) hql E hE)
  clear hE h0
  go_enter Tryz.func30, Tryz.ntmps30
  go_wp2_with (go_at_call 62; go_must ((with_reducible refine (HPA.out).mono ?_); rintro e w1 ⟨rfl, hb1⟩; obtain ⟨r0, r1, r2, r3⟩ := (hR.belowN hb1).c2))
  have hF := ((hR.belowN hb1).set_ 0 (.int .i64 0)).set_ 1 (.slice none 0 0)
  refine bodyPost_ret (results_rowP rfl _ _ (w.heap.size + 1 + 1) _ #[.int .i64 0, .slice none 0 0] (0, 0) _ rfl hF Tryz.underlying42 rfl (by kernel_rfl)) rfl ⟨none, 0, 0, rfl, TOut.nil _ _, ?_⟩
  exact ((hb0.trans (hb1.mono hb0.size)).setCell (p := ⟨w.heap.size + 1 + 1, 0, none⟩) hq3 _).setCell (p := ⟨w.heap.size + 1 + 1, 1, none⟩) hq3 _
set_option maxRecDepth 100000 in
set_option maxHeartbeats 3200000 in
theorem RComp_dims (p q : PrD) (x t l : Int) (w : World) (hp : At w p.a p.l) (hpl : p.l.length ≤ 1000000) (hq : At w q.a q.l) (hql : q.l.length ≤ 1000000) (hx : -9223372036854775808 ≤ x ∧ x ≤ 9223372036854775807) (ht : -9223372036854775808 ≤ t ∧ t ≤ 9223372036854775807) (hE : pairS p q = 0) (E : Int) (hD : dimsC p.regs q.regs x t = E) (h0 : E ≠ 0) :
    Calls Tryz.prog 30 #[.agg #[.int .i64 p.regs, .slice p.a p.l.length p.c], .agg #[.int .i64 q.regs, .slice q.a q.l.length q.c], .int .i64 x, .int .i64 t, .int .i64 l] w (PolyAll 0 [] E w) := by
  obtain ⟨hX, hY, hR, hb0, hz0⟩ := three_boxes w 24 24 42 #[.int .i64 p.regs, .slice p.a p.l.length p.c] #[.int .i64 q.regs, .slice q.a q.l.length q.c] #[.int .i64 0, .slice none 0 0]
  obtain ⟨p0, p1, p2, p3⟩ := hX.c2
  obtain ⟨p4, p5, p6, p7⟩ := hY.c2
  have e1 : (E == 0) = false := by simpa using h0
  have e2 : (E != 0) = true := by simpa using h0
  have hq3 : w.heap.size ≤ w.heap.size + 1 + 1 := by omega
  have HPA := hide (Pair10_calls p q _ (hp.belowN hb0) hpl (hq.belowN hb0) hql 0 hE)
  have HDI := hide (fun (W : World) => Dims10_calls p q x t hx ht W)
  rw [hD] at HDI
  clear hE h0 hD
  go_enter Tryz.func30, Tryz.ntmps30
  go_wp2_with (first
    | (go_at_call 62; go_must ((with_reducible refine (HPA.out).mono ?_); rintro e w1 ⟨rfl, hb1⟩; have hB1 := hb0.trans (hb1.mono hb0.size); obtain ⟨q0, q1, q2, q3⟩ := (hX.belowN hb1).c2; obtain ⟨q4, q5, q6, q7⟩ := (hY.belowN hb1).c2))
    | (go_at_call 63; go_must ((with_reducible refine (HDI.out _).mono ?_); rintro e w2 ⟨rfl, hb2⟩; obtain ⟨r0, r1, r2, r3⟩ := ((hR.belowN hb1).belowN hb2).c2)))
  have hF := (((hR.belowN hb1).belowN hb2).set_ 0 (.int .i64 0)).set_ 1 (.slice none 0 0)
  refine bodyPost_ret (results_rowP rfl _ _ (w.heap.size + 1 + 1) _ #[.int .i64 0, .slice none 0 0] (0, 0) _ rfl hF Tryz.underlying42 rfl (by kernel_rfl)) rfl ⟨none, 0, 0, rfl, TOut.nil _ _, ?_⟩
  exact ((hB1.trans (hb2.mono hB1.size)).setCell (p := ⟨w.heap.size + 1 + 1, 0, none⟩) hq3 _).setCell (p := ⟨w.heap.size + 1 + 1, 1, none⟩) hq3 _
set_option maxRecDepth 100000 in
set_option maxHeartbeats 3200000 in
theorem RComp_low (p q : PrD) (x t l : Int) (w : World) (hp : At w p.a p.l) (hpl : p.l.length ≤ 1000000) (hq : At w q.a q.l) (hql : q.l.length ≤ 1000000) (hx : -9223372036854775808 ≤ x ∧ x ≤ 9223372036854775807) (ht : -9223372036854775808 ≤ t ∧ t ≤ 9223372036854775807) (hE : pairS p q = 0) (hD : dimsC p.regs q.regs x t = 0) (h1 : l < 0) :
    Calls Tryz.prog 30 #[.agg #[.int .i64 p.regs, .slice p.a p.l.length p.c], .agg #[.int .i64 q.regs, .slice q.a q.l.length q.c], .int .i64 x, .int .i64 t, .int .i64 l] w (PolyAll 0 [] 2 w) := by
  obtain ⟨hX, hY, hR, hb0, hz0⟩ := three_boxes w 24 24 42 #[.int .i64 p.regs, .slice p.a p.l.length p.c] #[.int .i64 q.regs, .slice q.a q.l.length q.c] #[.int .i64 0, .slice none 0 0]
  obtain ⟨p0, p1, p2, p3⟩ := hX.c2
  obtain ⟨p4, p5, p6, p7⟩ := hY.c2
  have hq3 : w.heap.size ≤ w.heap.size + 1 + 1 := by omega
  have HPA := hide (Pair10_calls p q _ (hp.belowN hb0) hpl (hq.belowN hb0) hql 0 hE)
  have HDI := hide (fun (W : World) => Dims10_calls p q x t hx ht W)
  rw [hD] at HDI
  clear hE hD
  go_enter Tryz.func30, Tryz.ntmps30
  go_wp2_with (first
    | (go_at_call 62; go_must ((with_reducible refine (HPA.out).mono ?_); rintro e w1 ⟨rfl, hb1⟩; have hB1 := hb0.trans (hb1.mono hb0.size); obtain ⟨q0, q1, q2, q3⟩ := (hX.belowN hb1).c2; obtain ⟨q4, q5, q6, q7⟩ := (hY.belowN hb1).c2))
    | (go_at_call 63; go_must ((with_reducible refine (HDI.out _).mono ?_); rintro e w2 ⟨rfl, hb2⟩; obtain ⟨r0, r1, r2, r3⟩ := ((hR.belowN hb1).belowN hb2).c2)))
  have hF := (((hR.belowN hb1).belowN hb2).set_ 0 (.int .i64 0)).set_ 1 (.slice none 0 0)
  refine bodyPost_ret (results_rowP rfl _ _ (w.heap.size + 1 + 1) _ #[.int .i64 0, .slice none 0 0] (0, 0) _ rfl hF Tryz.underlying42 rfl (by kernel_rfl)) rfl ⟨none, 0, 0, rfl, TOut.nil _ _, ?_⟩
  exact ((hB1.trans (hb2.mono hB1.size)).setCell (p := ⟨w.heap.size + 1 + 1, 0, none⟩) hq3 _).setCell (p := ⟨w.heap.size + 1 + 1, 1, none⟩) hq3 _
set_option maxRecDepth 100000 in
set_option maxHeartbeats 3200000 in
theorem RComp_high (p q : PrD) (x t l : Int) (w : World) (hp : At w p.a p.l) (hpl : p.l.length ≤ 1000000) (hq : At w q.a q.l) (hql : q.l.length ≤ 1000000) (hx : -9223372036854775808 ≤ x ∧ x ≤ 9223372036854775807) (ht : -9223372036854775808 ≤ t ∧ t ≤ 9223372036854775807) (hE : pairS p q = 0) (hD : dimsC p.regs q.regs x t = 0) (h1 : ¬ l < 0) (h2 : 65536 ≤ l) (d1 : decide (l < 0) = false) :
    Calls Tryz.prog 30 #[.agg #[.int .i64 p.regs, .slice p.a p.l.length p.c], .agg #[.int .i64 q.regs, .slice q.a q.l.length q.c], .int .i64 x, .int .i64 t, .int .i64 l] w (PolyAll 0 [] 2 w) := by
  obtain ⟨hX, hY, hR, hb0, hz0⟩ := three_boxes w 24 24 42 #[.int .i64 p.regs, .slice p.a p.l.length p.c] #[.int .i64 q.regs, .slice q.a q.l.length q.c] #[.int .i64 0, .slice none 0 0]
  obtain ⟨p0, p1, p2, p3⟩ := hX.c2
  obtain ⟨p4, p5, p6, p7⟩ := hY.c2
  have hq3 : w.heap.size ≤ w.heap.size + 1 + 1 := by omega
  have HPA := hide (Pair10_calls p q _ (hp.belowN hb0) hpl (hq.belowN hb0) hql 0 hE)
  have HDI := hide (fun (W : World) => Dims10_calls p q x t hx ht W)
  rw [hD] at HDI
  clear hE hD
  go_enter Tryz.func30, Tryz.ntmps30
  go_wp2_with (first
    | (go_at_call 62; go_must ((with_reducible refine (HPA.out).mono ?_); rintro e w1 ⟨rfl, hb1⟩; have hB1 := hb0.trans (hb1.mono hb0.size); obtain ⟨q0, q1, q2, q3⟩ := (hX.belowN hb1).c2; obtain ⟨q4, q5, q6, q7⟩ := (hY.belowN hb1).c2))
    | (go_at_call 63; go_must ((with_reducible refine (HDI.out _).mono ?_); rintro e w2 ⟨rfl, hb2⟩; obtain ⟨r0, r1, r2, r3⟩ := ((hR.belowN hb1).belowN hb2).c2)))
  have hF := (((hR.belowN hb1).belowN hb2).set_ 0 (.int .i64 0)).set_ 1 (.slice none 0 0)
  refine bodyPost_ret (results_rowP rfl _ _ (w.heap.size + 1 + 1) _ #[.int .i64 0, .slice none 0 0] (0, 0) _ rfl hF Tryz.underlying42 rfl (by kernel_rfl)) rfl ⟨none, 0, 0, rfl, TOut.nil _ _, ?_⟩
  exact ((hB1.trans (hb2.mono hB1.size)).setCell (p := ⟨w.heap.size + 1 + 1, 0, none⟩) hq3 _).setCell (p := ⟨w.heap.size + 1 + 1, 1, none⟩) hq3 _
theorem RComp_calls (p q : PrD) (x t l : Int) (w : World) (hp : At w p.a p.l) (hpl : p.l.length ≤ 1000000) (hq : At w q.a q.l) (hql : q.l.length ≤ 1000000) (hx : -9223372036854775808 ≤ x ∧ x ≤ 9223372036854775807) (ht : -9223372036854775808 ≤ t ∧ t ≤ 9223372036854775807) (E : Int) (L : List Tm) (hC : compS p q x t l = (E, L)) (V : Int) (hV : (if E = 0 then x + t else 0) = V) :
    Calls Tryz.prog 30 #[.agg #[.int .i64 p.regs, .slice p.a p.l.length p.c], .agg #[.int .i64 q.regs, .slice q.a q.l.length q.c], .int .i64 x, .int .i64 t, .int .i64 l] w (PolyAll V L E w) := by
  unfold compS at hC
  by_cases h1 : pairS p q ≠ 0
  · rw [if_pos h1] at hC
    injection hC with e1 e2
    subst e2
    rw [if_neg (by rw [← e1]; exact h1)] at hV
    subst hV
    exact RComp_pair p q x t l w hp hpl hq hql E e1 (by rw [← e1]; exact h1)
  · rw [if_neg h1] at hC
    have h1' : pairS p q = 0 := Decidable.not_not.1 h1
    by_cases h2 : dimsC p.regs q.regs x t ≠ 0
    · rw [if_pos h2] at hC
      injection hC with e1 e2
      subst e2
      rw [if_neg (by rw [← e1]; exact h2)] at hV
      subst hV
      exact RComp_dims p q x t l w hp hpl hq hql hx ht h1' E e1 (by rw [← e1]; exact h2)
    · rw [if_neg h2] at hC
      have h2' : dimsC p.regs q.regs x t = 0 := Decidable.not_not.1 h2
      by_cases h3 : l < 0 ∨ 65536 ≤ l
      · rw [if_pos h3] at hC
        injection hC with e1 e2
        subst e1 e2
        rw [if_neg (by decide)] at hV
        subst hV
        by_cases h4 : l < 0
        · exact RComp_low p q x t l w hp hpl hq hql hx ht h1' h2' h4
        · exact RComp_high p q x t l w hp hpl hq hql hx ht h1' h2' h4 (by omega) (decide_eq_false h4)
      · rw [if_neg h3] at hC
        obtain ⟨a1, a2, a3, a4, _⟩ := dimsC_zero h2'
        have hO := mkC_ok h1' h2'
        obtain ⟨xn, rfl⟩ : ∃ n : Nat, x = n := ⟨x.toNat, by omega⟩
        obtain ⟨tn, rfl⟩ : ∃ n : Nat, t = n := ⟨t.toNat, by omega⟩
        obtain ⟨ln, rfl⟩ : ∃ n : Nat, l = n := ⟨l.toNat, by omega⟩
        simp only [Int.toNat_natCast] at hC
        exact RComp_good (mkC p q (xn : Int) (tn : Int)) hO xn tn ln (xn + tn) rfl rfl (by unfold mkC; simp) (by omega) h1' h2' w hp hpl hq hql E L hC V (by rw [← hV]; simp)
end Go.Proofs.YtcamcnahkdiefaaGreat

/- Chapter 24: model.Composite where there is no polynomial. -/
namespace Go.Proofs.YtcamcnahkdiefaaGreat
set_option linter.unusedVariables false
set_option linter.unusedSimpArgs false
open Go.RowKit
theorem mayC_th (p q : PrD) (x : Int) (tn : Nat) : (mkC p q x (tn : Int)).th = List.replicate tn 0 := by simp [mkC]
theorem MayN_calls (c : ChD) (tn : Nat) (hth : c.th = List.replicate tn 0) (htn : tn ≤ 64) (a : Option Addr) (l : Int) (w : World) (hp : At w c.p.a c.p.l) (hpl : c.p.l.length ≤ 1000000) (hq : At w c.q.a c.q.l) (hql : c.q.l.length ≤ 1000000) (hA : At w a (List.replicate tn (0 : UInt64))) (hx : -9223372036854775808 ≤ c.x ∧ c.x ≤ 9223372036854775807) (E : Int) (hE : c.mayM l = E) :
    Calls Tryz.prog 52 #[.agg #[.int .i64 c.p.regs, .slice c.p.a c.p.l.length c.p.c], .agg #[.int .i64 c.q.regs, .slice c.q.a c.q.l.length c.q.c], .int .i64 c.x, .slice a tn tn, .int .i64 l] w fun e w' => e = .returned (.int .i64 E) ∧ Below w.heap.size w w' := by
  have h := May24M_calls c a tn l w hp hpl hq hql (by rw [hth]; exact hA) hx (by rw [hth, List.length_replicate]; omega) E hE
  rw [hth, List.length_replicate] at h
  exact h
set_option maxRecDepth 100000 in
set_option maxHeartbeats 3200000 in
theorem MComp_bad (c : ChD) (xn : Int) (tn : Nat) (hxn : c.x = xn) (hth : c.th = List.replicate tn 0) (htn : tn ≤ 64) (l : Int) (w : World) (hp : At w c.p.a c.p.l) (hpl : c.p.l.length ≤ 1000000) (hq : At w c.q.a c.q.l) (hql : c.q.l.length ≤ 1000000) (hx : -9223372036854775808 ≤ xn ∧ xn ≤ 9223372036854775807) (E : Int) (hE : c.mayM l = E) (h0 : E ≠ 0) :
    Calls Tryz.prog 29 #[.agg #[.int .i64 c.p.regs, .slice c.p.a c.p.l.length c.p.c], .agg #[.int .i64 c.q.regs, .slice c.q.a c.q.l.length c.q.c], .int .i64 xn, .int .i64 (tn : Int), .int .i64 l] w (PolyAll 0 [] E w) := by
  obtain ⟨hX, hY, hR, hb0, hz0⟩ := three_boxes w 24 24 42 #[.int .i64 c.p.regs, .slice c.p.a c.p.l.length c.p.c] #[.int .i64 c.q.regs, .slice c.q.a c.q.l.length c.q.c] #[.int .i64 0, .slice none 0 0]
  have HMY := hide (fun (W : World) (a : Option Addr) (hW : Below w.heap.size w W) (hA : At W a (List.replicate tn (0 : UInt64))) => MayN_calls c tn hth htn a l W (hp.belowN hW) hpl (hq.belowN hW) hql hA (by rw [hxn]; exact hx) E hE)
  rw [hxn] at HMY
  obtain ⟨w1, hw1⟩ : ∃ w1, w1 = ((w.alloc (.cells #[.int .i64 c.p.regs, .slice c.p.a c.p.l.length c.p.c] 24)).alloc (.cells #[.int .i64 c.q.regs, .slice c.q.a c.q.l.length c.q.c] 24)).alloc (.cells #[.int .i64 0, .slice none 0 0] 42) := ⟨_, rfl⟩
  rw [← hw1] at hX hY hR hb0
  obtain ⟨p0, p1, p2, p3⟩ := hX.c2
  obtain ⟨p4, p5, p6, p7⟩ := hY.c2
  obtain ⟨S', hS'⟩ : ∃ S' : World → Prop, S' = fun w' => (w'.cell? ⟨w.heap.size, 0, none⟩ = some (.int .i64 c.p.regs) ∧ w'.cell? ⟨w.heap.size, 1, none⟩ = some (.slice c.p.a c.p.l.length c.p.c)) ∧ w'.cell? ⟨w.heap.size + 1, 0, none⟩ = some (.int .i64 c.q.regs) ∧ w'.cell? ⟨w.heap.size + 1, 1, none⟩ = some (.slice c.q.a c.q.l.length c.q.c) := ⟨_, rfl⟩
  have HSE : Hid (∀ w', S' w' → (w'.cell? ⟨w.heap.size, 0, none⟩ = some (.int .i64 c.p.regs) ∧ w'.cell? ⟨w.heap.size, 1, none⟩ = some (.slice c.p.a c.p.l.length c.p.c)) ∧ w'.cell? ⟨w.heap.size + 1, 0, none⟩ = some (.int .i64 c.q.regs) ∧ w'.cell? ⟨w.heap.size + 1, 1, none⟩ = some (.slice c.q.a c.q.l.length c.q.c)) := hide (fun w' h => by rw [hS'] at h; exact h)
  have HSI : Hid (∀ w4, Below w1.heap.size w1 w4 → S' w4) := hide (fun w4 h4 => by
    rw [hS']
    have a1 := (hX.belowN h4).c2
    have a2 := (hY.belowN h4).c2
    exact ⟨⟨a1.1, a1.2.1⟩, a2.1, a2.2.1⟩)
  have hdw : Below w1.heap.size w1 w1.drew := Below.drew (Below.refl _ _)
  have hmk := mkU tn (tn : Int) rfl (by omega)
  have hz1 := hb0.size
  have hq3 : w.heap.size ≤ w.heap.size + 1 + 1 := by omega
  have e1 : (E == 0) = false := by simpa using h0
  have e2 : (E != 0) = true := by simpa using h0
  have d1 : ¬ (tn : Int) < 0 := by omega
  have d2 : ¬ 64 < (tn : Int) := by omega
  clear hS' hE h0 hth hxn hz0
  go_enter Tryz.func29, Tryz.ntmps29
  go_wp2
  refine wp_scope_straight ?_
  go_wp2
  rw [← hw1]
  clear hw1
  refine wp_region_fan [0, 1, 2, 3, 5] [4, 6] [] [7] S' (by kernel_rfl) (by kernel_rfl) (HSI.out _ hdw) ?_
  simp only [pickL, List.filterMap_cons, List.filterMap_nil, List.getElem?_cons_succ, List.getElem?_cons_zero]
  iterate 5
    apply headK_step (by rfl)
    · intro w' hw'
      obtain ⟨⟨s0, s1⟩, s2, s3⟩ := HSE.out w' hw'
      go_simp
      rfl
    intro a' ha'
    simp only [Act.put, List.setIfInBounds_toArray, List.set_cons_succ, List.set_cons_zero] at ha'
    subst ha'
  refine headK_nil ?_
  rw [midF]
  intro K0 hK0
  have HK0 := hide hK0
  clear hK0
  go_simp
  have hB2 : Below w1.heap.size w1 (w1.alloc (.cells (zerosU tn) 50)).drew := Below.drew (below_box w1 _)
  have hZ2 := ((ownZ (B := w1.heap.size) w1 (Nat.le_refl _) tn (by omega)).belowN (Below.drew (Below.refl _ _))).at_
  refine HK0.out _ _ (HSI.out _ hB2) ?_
  clear HK0
  rw [midF]
  intro K0 hK0
  have HK0 := hide hK0
  clear hK0
  go_simp
  go_at_call 52
  refine (HMY.out _ _ (hb0.trans (hB2.mono hz1)) hZ2).mono ?_
  rintro e w2 ⟨rfl, hb2⟩
  have hB3 := hB2.trans (hb2.mono hB2.size)
  refine HK0.out _ _ (HSI.out _ hB3) ?_
  clear HK0 HSI HSE hZ2
  rw [midF]
  refine headK_nil ?_
  go_wp2
  refine NoPanic.normal ?_
  obtain ⟨r0, r1, r2, r3⟩ := (hR.belowN hB3).c2
  go_wp2
  have hF := ((hR.belowN hB3).set_ 0 (.int .i64 0)).set_ 1 (.slice none 0 0)
  try rw [Exit.noGoto_ret]
  refine bodyPost_ret (results_rowP rfl _ _ (w.heap.size + 1 + 1) _ #[.int .i64 0, .slice none 0 0] (0, 0) _ rfl hF Tryz.underlying42 rfl (by kernel_rfl)) rfl ⟨none, 0, 0, rfl, TOut.nil _ _, ?_⟩
  exact ((hb0.trans (hB3.mono hz1)).setCell (p := ⟨w.heap.size + 1 + 1, 0, none⟩) hq3 _).setCell (p := ⟨w.heap.size + 1 + 1, 1, none⟩) hq3 _
set_option maxRecDepth 100000 in
set_option maxHeartbeats 3200000 in
theorem MComp_low (p q : PrD) (x t l : Int) (w : World) (hp : At w p.a p.l) (hpl : p.l.length ≤ 1000000) (hq : At w q.a q.l) (hql : q.l.length ≤ 1000000) (hx : -9223372036854775808 ≤ x ∧ x ≤ 9223372036854775807) (h1 : t < 0) (E : Int) (hE : (⟨p, q, x, List.replicate 65 0⟩ : ChD).bad = E) (h0 : E ≠ 0) :
    Calls Tryz.prog 29 #[.agg #[.int .i64 p.regs, .slice p.a p.l.length p.c], .agg #[.int .i64 q.regs, .slice q.a q.l.length q.c], .int .i64 x, .int .i64 t, .int .i64 l] w (PolyAll 0 [] E w) := by
  obtain ⟨hX, hY, hR, hb0, hz0⟩ := three_boxes w 24 24 42 #[.int .i64 p.regs, .slice p.a p.l.length p.c] #[.int .i64 q.regs, .slice q.a q.l.length q.c] #[.int .i64 0, .slice none 0 0]
  obtain ⟨p0, p1, p2, p3⟩ := hX.c2
  obtain ⟨p4, p5, p6, p7⟩ := hY.c2
  have hq3 : w.heap.size ≤ w.heap.size + 1 + 1 := by omega
  have HCH := hide (Check24_calls p q x _ (hp.belowN hb0) hpl (hq.belowN hb0) hql hx E hE h0)
  clear hE h0
  go_enter Tryz.func29, Tryz.ntmps29
  go_wp2
  refine wp_scope_straight ?_
  go_wp2_with (go_at_call 59; go_must ((with_reducible refine (HCH.out).mono ?_); rintro e w1 ⟨rfl, hb1⟩; obtain ⟨r0, r1, r2, r3⟩ := (hR.belowN hb1).c2))
  have hF := ((hR.belowN hb1).set_ 0 (.int .i64 0)).set_ 1 (.slice none 0 0)
  try rw [Exit.noGoto_ret]
  refine bodyPost_ret (results_rowP rfl _ _ (w.heap.size + 1 + 1) _ #[.int .i64 0, .slice none 0 0] (0, 0) _ rfl hF Tryz.underlying42 rfl (by kernel_rfl)) rfl ⟨none, 0, 0, rfl, TOut.nil _ _, ?_⟩
  exact ((hb0.trans (hb1.mono hb0.size)).setCell (p := ⟨w.heap.size + 1 + 1, 0, none⟩) hq3 _).setCell (p := ⟨w.heap.size + 1 + 1, 1, none⟩) hq3 _
set_option maxRecDepth 100000 in
set_option maxHeartbeats 3200000 in
theorem MComp_high (p q : PrD) (x t l : Int) (w : World) (hp : At w p.a p.l) (hpl : p.l.length ≤ 1000000) (hq : At w q.a q.l) (hql : q.l.length ≤ 1000000) (hx : -9223372036854775808 ≤ x ∧ x ≤ 9223372036854775807) (h1 : ¬ t < 0) (h2 : 64 < t) (d1 : decide (t < 0) = false) (E : Int) (hE : (⟨p, q, x, List.replicate 65 0⟩ : ChD).bad = E) (h0 : E ≠ 0) :
    Calls Tryz.prog 29 #[.agg #[.int .i64 p.regs, .slice p.a p.l.length p.c], .agg #[.int .i64 q.regs, .slice q.a q.l.length q.c], .int .i64 x, .int .i64 t, .int .i64 l] w (PolyAll 0 [] E w) := by
  obtain ⟨hX, hY, hR, hb0, hz0⟩ := three_boxes w 24 24 42 #[.int .i64 p.regs, .slice p.a p.l.length p.c] #[.int .i64 q.regs, .slice q.a q.l.length q.c] #[.int .i64 0, .slice none 0 0]
  obtain ⟨p0, p1, p2, p3⟩ := hX.c2
  obtain ⟨p4, p5, p6, p7⟩ := hY.c2
  have hq3 : w.heap.size ≤ w.heap.size + 1 + 1 := by omega
  have HCH := hide (Check24_calls p q x _ (hp.belowN hb0) hpl (hq.belowN hb0) hql hx E hE h0)
  clear hE h0
  go_enter Tryz.func29, Tryz.ntmps29
  go_wp2
  refine wp_scope_straight ?_
  go_wp2_with (go_at_call 59; go_must ((with_reducible refine (HCH.out).mono ?_); rintro e w1 ⟨rfl, hb1⟩; obtain ⟨r0, r1, r2, r3⟩ := (hR.belowN hb1).c2))
  have hF := ((hR.belowN hb1).set_ 0 (.int .i64 0)).set_ 1 (.slice none 0 0)
  try rw [Exit.noGoto_ret]
  refine bodyPost_ret (results_rowP rfl _ _ (w.heap.size + 1 + 1) _ #[.int .i64 0, .slice none 0 0] (0, 0) _ rfl hF Tryz.underlying42 rfl (by kernel_rfl)) rfl ⟨none, 0, 0, rfl, TOut.nil _ _, ?_⟩
  exact ((hb0.trans (hb1.mono hb0.size)).setCell (p := ⟨w.heap.size + 1 + 1, 0, none⟩) hq3 _).setCell (p := ⟨w.heap.size + 1 + 1, 1, none⟩) hq3 _
end Go.Proofs.YtcamcnahkdiefaaGreat

/- Chapter 24: symbol.After of a program's registers, of which blocks the results are. -/
namespace Go.Proofs.YtcamcnahkdiefaaGreat
set_option linter.unusedVariables false
set_option linter.unusedSimpArgs false
open Go.RowKit
theorem MAftQ_calls (QP : Nat → Prop) (p : PrD) (vn : Nat) (t : Int) (now fixed : List (List Tm)) (sa : Option Addr) (sn sc : Nat) (hs : List PoH) (hsn : sn = hs.length) (w : World) (hp : At w p.a p.l) (hpl : p.l.length ≤ 1000000) (hst : At w sa hs)
    (hP : PsAt (fun q => QP q ∧ q < w.heap.size) w (vn : Int) hs (fullS p.regs (vn : Int) t now fixed)) (hA : AllP (vn : Int) (fullS p.regs (vn : Int) t now fixed)) (h1 : 1 ≤ sn) (E : Int) (R : List (List Tm)) (hR : runC p (vn : Int) t now fixed = (E, R)) :
    Calls Tryz.prog 19 #[.agg #[.int .i64 p.regs, .slice p.a p.l.length p.c], .slice sa sn sc] w (PolysOutQ QP (vn : Int) R E w) := by
  have hvs := hP.vs
  have hR' : afterS p.regs p.l (hs.map (fun y : PoH => y.v)) (fullS p.regs (vn : Int) t now fixed) = (E, R) := by
    rw [hvs]
    exact hR
  have h := AfterQ_calls p.regs p.a p.c p.l sa sn sc hs _ hsn QP w hp hpl hst (hP.toV hA) E R hR'
  have hhd : (hs.map (fun y : PoH => y.v)).headD 0 = (vn : Int) := by
    rw [hvs]
    obtain ⟨m, hm⟩ : ∃ m, (fullS p.regs (vn : Int) t now fixed).length = m + 1 := ⟨(fullS p.regs (vn : Int) t now fixed).length - 1, by rw [← hP.1]; omega⟩
    rw [hm]
    rfl
  rw [hhd] at h
  exact h
theorem fullS_of {vn : Nat} {rg : Nat} {t : Int} {now fixed : List (List Tm)} {k : Nat} (hk : now.length + fixed.length + (moreS (vn : Int) t).length + k = rg) : now ++ fixed ++ moreS (vn : Int) t ++ List.replicate k [] = fullS (rg : Int) (vn : Int) t now fixed := by
  unfold fullS
  rw [show (rg : Int).toNat - (now ++ fixed ++ moreS (vn : Int) t).length = k by simp; omega]
theorem moreS_one {vn t : Nat} {tv : UInt64} (h : UInt64.ofNat t = tv) : moreS (vn : Int) (t : Int) = consS (vn : Int) [tv] := by
  unfold moreS consS
  rw [if_neg (by omega), Int.toNat_natCast, h]
  rfl
theorem moreS_none {vn : Nat} : moreS (vn : Int) (-1) = [] := by
  unfold moreS
  rw [if_pos (by decide)]
end Go.Proofs.YtcamcnahkdiefaaGreat

/- Chapter 24: model.Composite. -/
namespace Go.Proofs.YtcamcnahkdiefaaGreat
set_option linter.unusedVariables false
set_option linter.unusedSimpArgs false
open Go.RowKit
set_option maxRecDepth 100000 in
set_option maxHeartbeats 12800000 in
theorem MComp_good (c : ChD) (hc : c.Ok) (xn tn ln vn : Nat) (hvn : xn + tn = vn) (hcx : c.x = (xn : Int)) (hth : c.th = List.replicate tn 0) (hln : ln < 65536) (hmay : c.mayM (ln : Int) = 0) (w : World)
    (hp : At w c.p.a c.p.l) (hpl : c.p.l.length ≤ 1000000) (hq : At w c.q.a c.q.l) (hql : c.q.l.length ≤ 1000000) (E : Int) (L : List Tm) (hC : c.compC xn vn ln = (E, L)) (V : Int) (hV : (if E = 0 then (vn : Int) else 0) = V) :
    Calls Tryz.prog 29 #[.agg #[.int .i64 c.p.regs, .slice c.p.a c.p.l.length c.p.c], .agg #[.int .i64 c.q.regs, .slice c.q.a c.q.l.length c.q.c], .int .i64 (xn : Int), .int .i64 (tn : Int), .int .i64 (ln : Int)] w (PolyAll V L E w) := by
  have hx1 := hc.x1
  have hx2 := hc.x2
  have ht2 := hc.t2
  have hr1 := hc.r1
  have hr2 := hc.r2
  rw [hcx] at hx1 hx2 hr1 hr2
  have htl : c.th.length = tn := by rw [hth, List.length_replicate]
  rw [htl] at ht2 hr1 hr2
  obtain ⟨f, hfl, hgf⟩ := hc.hp
  obtain ⟨g, hgl, hgg⟩ := hc.hq
  clear hfl hgl
  obtain ⟨hX, hY, hR, hb0, hz0⟩ := three_boxes w 24 24 42 #[.int .i64 c.p.regs, .slice c.p.a c.p.l.length c.p.c] #[.int .i64 c.q.regs, .slice c.q.a c.q.l.length c.q.c] #[.int .i64 0, .slice none 0 0]
  have HMY := hide (fun (W : World) (a : Option Addr) (hW : Below w.heap.size w W) (hA : At W a (List.replicate tn (0 : UInt64))) => MayN_calls c tn hth ht2 a (ln : Int) W (hp.belowN hW) hpl (hq.belowN hW) hql hA (by omega) 0 hmay)
  rw [hcx] at HMY
  obtain ⟨w1, hw1⟩ : ∃ w1, w1 = ((w.alloc (.cells #[.int .i64 c.p.regs, .slice c.p.a c.p.l.length c.p.c] 24)).alloc (.cells #[.int .i64 c.q.regs, .slice c.q.a c.q.l.length c.q.c] 24)).alloc (.cells #[.int .i64 0, .slice none 0 0] 42) := ⟨_, rfl⟩
  rw [← hw1] at hX hY hR hb0
  obtain ⟨p0, p1, p2, p3⟩ := hX.c2
  obtain ⟨p4, p5, p6, p7⟩ := hY.c2
  obtain ⟨S', hS'⟩ : ∃ S' : World → Prop, S' = fun w' => (w'.cell? ⟨w.heap.size, 0, none⟩ = some (.int .i64 c.p.regs) ∧ w'.cell? ⟨w.heap.size, 1, none⟩ = some (.slice c.p.a c.p.l.length c.p.c)) ∧ w'.cell? ⟨w.heap.size + 1, 0, none⟩ = some (.int .i64 c.q.regs) ∧ w'.cell? ⟨w.heap.size + 1, 1, none⟩ = some (.slice c.q.a c.q.l.length c.q.c) := ⟨_, rfl⟩
  have HSE : Hid (∀ w', S' w' → (w'.cell? ⟨w.heap.size, 0, none⟩ = some (.int .i64 c.p.regs) ∧ w'.cell? ⟨w.heap.size, 1, none⟩ = some (.slice c.p.a c.p.l.length c.p.c)) ∧ w'.cell? ⟨w.heap.size + 1, 0, none⟩ = some (.int .i64 c.q.regs) ∧ w'.cell? ⟨w.heap.size + 1, 1, none⟩ = some (.slice c.q.a c.q.l.length c.q.c)) := hide (fun w' h => by rw [hS'] at h; exact h)
  have HSI : Hid (∀ w4, Below w1.heap.size w1 w4 → S' w4) := hide (fun w4 h4 => by
    rw [hS']
    have a1 := (hX.belowN h4).c2
    have a2 := (hY.belowN h4).c2
    exact ⟨⟨a1.1, a1.2.1⟩, a2.1, a2.2.1⟩)
  have hdw : Below w1.heap.size w1 w1.drew := Below.drew (Below.refl _ _)
  have hmk := mkU tn (tn : Int) rfl (by omega)
  have hz1 := hb0.size
  have hq3 : w.heap.size ≤ w.heap.size + 1 + 1 := by omega
  have d1 : ¬ (tn : Int) < 0 := by omega
  have d2 : ¬ 64 < (tn : Int) := by omega
  have h64 : vn ≤ 64 := by have := hgf.r2; omega
  have HVN := hide hvn
  have HV := hide hV
  have HC := hide hC
  have HRG := hide (show (vn : Int) + 1 ≤ c.p.regs ∧ c.p.regs ≤ 64 ∧ (vn : Int) ≤ c.q.regs ∧ c.q.regs ≤ 64 from ⟨by omega, hgf.r2, by omega, hgg.r2⟩)
  have hvI : (xn : Int) + (tn : Int) = (vn : Int) := by omega
  clear hS' hth hcx hz0 hvn hV hC hr1 hr2 htl hmay
  go_enter Tryz.func29, Tryz.ntmps29
  go_wp2
  refine wp_scope_straight ?_
  go_wp2
  rw [← hw1]
  clear hw1
  refine wp_region_fan [0, 1, 2, 3, 5] [4, 6] [] [7] S' (by kernel_rfl) (by kernel_rfl) (HSI.out _ hdw) ?_
  simp only [pickL, List.filterMap_cons, List.filterMap_nil, List.getElem?_cons_succ, List.getElem?_cons_zero]
  iterate 5
    apply headK_step (by rfl)
    · intro w' hw'
      obtain ⟨⟨s0, s1⟩, s2, s3⟩ := HSE.out w' hw'
      go_simp
      rfl
    intro a' ha'
    simp only [Act.put, List.setIfInBounds_toArray, List.set_cons_succ, List.set_cons_zero] at ha'
    subst ha'
  refine headK_nil ?_
  rw [midF]
  intro K0 hK0
  have HK0 := hide hK0
  clear hK0
  go_simp
  have hB2 : Below w1.heap.size w1 (w1.alloc (.cells (zerosU tn) 50)).drew := Below.drew (below_box w1 _)
  have hZ2 := ((ownZ (B := w1.heap.size) w1 (Nat.le_refl _) tn (by omega)).belowN (Below.drew (Below.refl _ _))).at_
  refine HK0.out _ _ (HSI.out _ hB2) ?_
  clear HK0
  rw [midF]
  intro K0 hK0
  have HK0 := hide hK0
  clear hK0
  go_simp
  go_at_call 52
  refine (HMY.out _ _ (hb0.trans (hB2.mono hz1)) hZ2).mono ?_
  rintro e w2 ⟨rfl, hb2⟩
  have hB3 := hB2.trans (hb2.mono hB2.size)
  refine HK0.out _ _ (HSI.out _ hB3) ?_
  clear HK0 HSI HSE hZ2
  rw [midF]
  refine headK_nil ?_
  go_wp2
  refine NoPanic.normal ?_
  have hX2 := hX.belowN hB3
  have hY2 := hY.belowN hB3
  have hR2 := hR.belowN hB3
  have hBw2 := hb0.trans (hB3.mono hz1)
  have hz2 := hBw2.size
  have hlR := hR2.lt
  clear hmk hX hY hR hB2 hB3 hb2 hb0 HMY p0 p1 p2 p3 p4 p5 p6 p7 hdw hz1
  have hV3 := Blk.new w2 3 #[.int .i64 (vn : Int)]
  obtain ⟨v0, v1⟩ := hV3.c1
  have hbV := below_box w2 (.cells #[.int .i64 (vn : Int)] 3)
  go_wp2
  clear hvI v0 v1
  obtain ⟨w3, hw3⟩ : ∃ w3, w3 = w2.alloc (.cells #[.int .i64 (vn : Int)] 3) := ⟨_, rfl⟩
  have hs3 : w3.heap.size = w2.heap.size + 1 := by rw [hw3, World.size_alloc]
  have HS3 := hide hs3
  rw [← hw3] at hV3 hbV ⊢
  clear hw3 hs3
  have hX3 := hX2.belowN hbV
  have hY3 := hY2.belowN hbV
  have hR3 := hR2.belowN hbV
  have hBw3 := hBw2.trans (hbV.mono hz2)
  have hz3 := hBw3.size
  have hlR3 := hR3.lt
  have hlV := hV3.lt
  clear hX2 hY2 hR2 hBw2 hbV hlR
  go_loopw [14, 51] (fun rv iv wr => ∃ (i : Nat) (ra : Option Addr) (rc : Nat) (hs : List PoH), rv = .slice ra i rc ∧ iv = .int .i64 i ∧ i ≤ vn ∧ Own wr w3.heap.size 42 ra rc hs ∧ i = hs.length ∧ PsAt (fun q => ra.map (·.block) ≠ some q ∧ w3.heap.size ≤ q) wr (vn : Int) hs ((startP vn).take i) ∧ Below w3.heap.size w3 wr) (fun _ iv _ => vn - (intOf iv).toNat)
  case atStart =>
    refine ⟨0, none, 0, [], rfl, rfl, by omega, Own.none _ _ _, rfl, ?_, Below.refl _ _⟩
    rw [List.take_zero]
    exact PsAt.nil _ _ _
  case round =>
    obtain ⟨i, ra, rc, hs, rfl, rfl, hi, hown, hil, hP3, hb3⟩ := hrel
    have hz4 := hb3.size
    have hP4 := hP3.bounded
    obtain ⟨v0, v1⟩ := (hV3.belowN hb3).c1
    by_cases hlt : i < vn
    · obtain ⟨v2, v3, v4, v5⟩ := var_facts h64 hlt
      obtain ⟨LL, hL⟩ : ∃ L, varL (vn : Int) (i : Int) = L := ⟨_, rfl⟩
      have htk : (startP vn).take (i + 1) = (startP vn).take i ++ [LL] := by rw [List.take_add_one, startP_get hlt, hL]; rfl
      have HPV := hide (PVar_calls (vn : Int) (i : Int) wr (vn : Int) LL 0 v3 hL v2)
      have HTK := hide htk
      have HL1 := hide hil
      clear v2 v3 v4 v5 hL htk hP3 hil
      obtain ⟨w4, rfl⟩ : ∃ w4 : World, w4 = wr := ⟨_, rfl⟩
      go_wp2_with (first
        | (at_builtin; go_must (have hgd := hT9; refine wpList_push tyPo hown10 ⟨(vn : Int), a9, n9, c9⟩ rfl rfl rfl rfl rfl (by simp) HL1.out hz10 (by omega) ?_; intro a4 c4 w5 hown6 hg6 hcs6))
        | (go_at_call 41; go_must ((with_reducible refine (HPV.out).mono ?_); rintro vv w9 ⟨a9, n9, c9, rfl, hT9, hb9⟩; have hb10 := hb9.trans ((below_box w9 (.cells #[.int .i64 (vn : Int), .slice a9 n9 c9] 42)).mono hb9.size); have hown10 := hown.belowN hb10; have hz10 : w3.heap.size ≤ (w9.alloc (.cells #[.int .i64 (vn : Int), .slice a9 n9 c9] 42)).heap.size := (by have := hb10.size; omega); have hN10 := Blk.new w9 42 #[.int .i64 (vn : Int), .slice a9 n9 c9]; obtain ⟨n0, n1, n2, n3⟩ := hN10.c2)))
      have hb12 := below_push (hb3.trans (hb10.mono hz4)) hown10 hg6 hz10
      have hz9 := hb9.size
      have hP6 := ((hP4.belowN hb10).grown hg6 (fun q hq h => h.1.1 hq)).imp (Q := fun q => a4.map (·.block) ≠ some q ∧ w3.heap.size ≤ q) (fun q hq => ⟨ne_push hcs6 hq.1.1 (by have := hb10.size; omega), hq.1.2⟩)
      have hT10 := ((hT9.bounded.belowN (below_box w9 (.cells #[.int .i64 (vn : Int), .slice a9 n9 c9] 42))).grown hg6 (fun q hq h => by have := (hown.blk q hq).2; omega)).imp (Q := fun q => a4.map (·.block) ≠ some q ∧ w3.heap.size ≤ q) (fun q hq => ⟨ne_push hcs6 (fun e => by have := (hown.blk q e).2; omega) (by rw [World.size_alloc]; omega), by have := hq.1; omega⟩)
      go_roundw
      case rel =>
        refine ⟨i + 1, a4, c4, hs ++ [⟨(vn : Int), a9, n9, c9⟩], by go_num, by go_num, by omega, hown6, by have := HL1.out; simp; omega, ?_, hb12⟩
        rw [HTK.out]
        exact hP6.push rfl hT10
      case measure => simp [intOf] <;> omega
    · have hin : i = vn := by omega
      subst hin
      rw [List.take_of_length_le (by rw [startP_len]; exact Nat.le_refl _)] at hP4
      clear hP3
      have hne : hs ≠ [] := by rintro rfl; have := HVN.out; simp at hil; omega
      obtain ⟨gr, e1, hgB, hgz⟩ := hown.some_ hne
      subst e1
      have hcap := hown.cap
      have k1 : xn ≤ i := by have := HVN.out; omega
      have k2 : i ≤ rc := by omega
      have k3 : rc ≤ 9223372036854775807 := Nat.le_trans hcap.2 (by decide)
      have k4 : xn ≤ rc := by omega
      have hin : i - xn = tn := by have := HVN.out; omega
      have HIN := hide hin
      have HL1 := hide hil
      clear hin hil
      go_wp2
      go_region
      all_goals
        first
          | (have hN5 := ((Blk.new wr 27 #[.slice (some ⟨gr, 0, none⟩) xn xn]).alloc (.cells #[.slice (cutA (some ⟨gr, 0, none⟩) xn rc 2) (i - xn) (rc - xn)] 27)).belowN (Below.drew (Below.refl _ _))
             have hF5 := (Blk.new (wr.alloc (.cells #[.slice (some ⟨gr, 0, none⟩) xn xn] 27)) 27 #[.slice (cutA (some ⟨gr, 0, none⟩) xn rc 2) (i - xn) (rc - xn)]).belowN (Below.drew (Below.refl _ _))
             rw [World.size_alloc] at hF5
             have hb5 : Below wr.heap.size wr ((wr.alloc (.cells #[.slice (some ⟨gr, 0, none⟩) xn xn] 27)).alloc (.cells #[.slice (cutA (some ⟨gr, 0, none⟩) xn rc 2) (i - xn) (rc - xn)] 27)).drew := Below.drew ((below_box wr _).trans ((below_box (wr.alloc _) _).mono (by rw [World.size_alloc]; exact Nat.le_succ _)))
             obtain ⟨w5, hw5⟩ : ∃ W, W = ((wr.alloc (.cells #[.slice (some ⟨gr, 0, none⟩) xn xn] 27)).alloc (.cells #[.slice (cutA (some ⟨gr, 0, none⟩) xn rc 2) (i - xn) (rc - xn)] 27)).drew := ⟨_, rfl⟩
             obtain ⟨gF, hgF⟩ : ∃ g, g = wr.heap.size + 1 := ⟨_, rfl⟩
             obtain ⟨gN, hgN⟩ : ∃ g, g = wr.heap.size := ⟨_, rfl⟩
             rw [← hw5, ← hgF, ← hgN]
             rw [← hw5] at hN5 hF5 hb5
             rw [← hgF] at hF5
             rw [← hgN] at hN5
             have hgN0 : wr.heap.size ≤ gN := by omega
             have hgF0 : wr.heap.size ≤ gF := by omega
             have hNF : gN ≠ gF := by omega
             clear hw5 hgN hgF)
          | (have hF5 := ((Blk.new wr 27 #[.slice (cutA (some ⟨gr, 0, none⟩) xn rc 2) (i - xn) (rc - xn)]).alloc (.cells #[.slice (some ⟨gr, 0, none⟩) xn xn] 27)).belowN (Below.drew (Below.refl _ _))
             have hN5 := (Blk.new (wr.alloc (.cells #[.slice (cutA (some ⟨gr, 0, none⟩) xn rc 2) (i - xn) (rc - xn)] 27)) 27 #[.slice (some ⟨gr, 0, none⟩) xn xn]).belowN (Below.drew (Below.refl _ _))
             rw [World.size_alloc] at hN5
             have hb5 : Below wr.heap.size wr ((wr.alloc (.cells #[.slice (cutA (some ⟨gr, 0, none⟩) xn rc 2) (i - xn) (rc - xn)] 27)).alloc (.cells #[.slice (some ⟨gr, 0, none⟩) xn xn] 27)).drew := Below.drew ((below_box wr _).trans ((below_box (wr.alloc _) _).mono (by rw [World.size_alloc]; exact Nat.le_succ _)))
             obtain ⟨w5, hw5⟩ : ∃ W, W = ((wr.alloc (.cells #[.slice (cutA (some ⟨gr, 0, none⟩) xn rc 2) (i - xn) (rc - xn)] 27)).alloc (.cells #[.slice (some ⟨gr, 0, none⟩) xn xn] 27)).drew := ⟨_, rfl⟩
             obtain ⟨gN, hgN⟩ : ∃ g, g = wr.heap.size + 1 := ⟨_, rfl⟩
             obtain ⟨gF, hgF⟩ : ∃ g, g = wr.heap.size := ⟨_, rfl⟩
             rw [← hw5, ← hgN, ← hgF]
             rw [← hw5] at hN5 hF5 hb5
             rw [← hgN] at hN5
             rw [← hgF] at hF5
             have hgN0 : wr.heap.size ≤ gN := by omega
             have hgF0 : wr.heap.size ≤ gF := by omega
             have hNF : gN ≠ gF := by omega
             clear hw5 hgN hgF)
        rw [HIN.out] at hF5
        have hV5 := (hV3.belowN hb3).belowN hb5
        have hsz5 := hb5.size
        have hlN := hN5.lt
        have hBw5 := (hBw3.trans (hb3.mono hz3)).trans (hb5.mono (by omega))
        have hX5 := (hX3.belowN hb3).belowN hb5
        have hY5 := (hY3.belowN hb3).belowN hb5
        have hR5 := (hR3.belowN hb3).belowN hb5
        have hown5 := hown.belowN hb5
        have hatN := hown5.at_.takeN xn
        have hatF : At w5 (cutA (some ⟨gr, 0, none⟩) xn rc 2) (hs.drop xn) := hown5.at_.cut (by rw [← HL1.out]; exact k2)
        have hP5 := (hP4.belowN hb5).imp (Q := fun q => (q ≠ gN ∧ q ≠ w.heap.size + 1 + 1) ∧ q < w5.heap.size) (fun q hq => ⟨⟨by omega, by omega⟩, by omega⟩)
        have hPN := hP5.take xn
        have hPF := hP5.drop xn
        have hAll := startP_all h64
        have hAN : AllP (i : Int) ((startP i).take xn) := fun M hM => hAll M (List.mem_of_mem_take hM)
        have hAF : AllP (i : Int) ((startP i).drop xn) := fun M hM => hAll M (List.mem_of_mem_drop hM)
        have HF0 := hide (show FullAt (fun q => q ≠ gN ∧ q ≠ w.heap.size + 1 + 1) w5 gN gF w2.heap.size (some ⟨gr, 0, none⟩) (cutA (some ⟨gr, 0, none⟩) xn rc 2) xn tn xn (rc - xn) (hs.take xn) (hs.drop xn) i ((startP i).take xn) ((startP i).drop xn) from ⟨hN5, hF5, hV5, hatN, hatF, hPN, hPF⟩)
        have HNL0 := hide (show xn = (hs.take xn).length by rw [List.length_take, ← HL1.out]; omega)
        have HTL := hide (show tn = (hs.drop xn).length by rw [List.length_drop, ← HL1.out]; exact HIN.out.symm)
        have HFL := hide (show ((startP i).drop xn).length = tn by rw [← hPF.1]; exact HTL.out.symm)
        have hgr5 : gr ≠ gN := by omega
        have hfaN : (cutA (some ⟨gr, 0, none⟩) xn rc 2).map (·.block) ≠ some gN := by rw [cutA_block]; simpa using hgr5
        obtain ⟨w4, rfl⟩ : ∃ w4 : World, w4 = wr := ⟨_, rfl⟩
        have hb45 : Below w4.heap.size w4 w5 := hb5
        obtain ⟨fa, hfa⟩ : ∃ a, a = cutA (some ⟨gr, 0, none⟩) xn rc 2 := ⟨_, rfl⟩
        obtain ⟨fc, hfc⟩ : ∃ a, a = rc - xn := ⟨_, rfl⟩
        obtain ⟨hf, hhf⟩ : ∃ a, a = hs.drop xn := ⟨_, rfl⟩
        obtain ⟨gV, hgV⟩ : ∃ a, a = w2.heap.size := ⟨_, rfl⟩
        rw [← hfa, ← hfc, ← hhf, ← hgV] at HF0
        rw [← hfa] at hfaN
        rw [← hhf] at HTL
        rw [← hgV]
        have hgV4 : gV < w4.heap.size := by omega
        have hb5a : Below w4.heap.size w5 w5 := Below.refl _ _
        have hlF := hF5.lt
        clear hfa hfc hhf hatF hPN hPF hP5 hown5 hV5 hN5 hF5 hatN hP4 hX3 hY3 hR3 hV3 v0 v1 hb3 hown hAll hgV hBw3 hlV HS3 k1 k2 k3 k4 hcap hgB hne
        go_wp2
        go_step3
        go_wp2
        go_loopw [21, 74] (fun ev iv wr => ∃ (t : Nat) (a' : Option Addr) (c' : Nat) (hn : List PoH), ev = .int .i64 0 ∧ iv = .int .i64 t ∧ t ≤ ln ∧ xn = hn.length ∧ FullAt (fun q => q ≠ gN ∧ q ≠ w.heap.size + 1 + 1) wr gN gF gV a' fa xn tn c' fc hn hf i (c.iterC xn i t).2 ((startP i).drop xn) ∧ (c.iterC xn i t).1 = 0 ∧ AllP (i : Int) (c.iterC xn i t).2 ∧ a'.map (·.block) ≠ some gN ∧ Below w4.heap.size w5 wr) (fun _ iv _ => ln - (intOf iv).toNat)
        case atStart => exact ⟨0, _, _, _, rfl, rfl, by omega, HNL0.out, HF0.out, rfl, hAN, by simpa using hgr5, hb5a⟩
        case round =>
          obtain ⟨t, a', c', hn, rfl, rfl, htl, hhn, hFA, hi0, hAs, hne', hb6⟩ := hrel
          have hz6 := hb6.size
          have hB6 : Below w.heap.size w wr := hBw5.trans (hb6.mono (by omega))
          have hX6 := hX5.below hb6 (by omega)
          have hY6 := hY5.below hb6 (by omega)
          have hR6 := hR5.below hb6 (by omega)
          have HNL := hide (show (c.iterC xn i t).2.length = xn by rw [← hFA.pn.1]; exact hhn.symm)
          have HRGo := HRG.out
          by_cases hlt : t < ln
          · obtain ⟨⟨E1, R1⟩, hR1⟩ : ∃ x, runC c.p (i : Int) (t : Int) (c.iterC xn i t).2 ((startP i).drop xn) = x := ⟨_, rfl⟩
            obtain ⟨rg, hrg⟩ : ∃ n : Nat, c.p.regs = (n : Int) := ⟨c.p.regs.toNat, by omega⟩
            obtain ⟨k, hk⟩ : ∃ k : Nat, xn + tn + 1 + k = rg := ⟨rg - (xn + tn + 1), by have := HVN.out; omega⟩
            obtain ⟨w16, w17⟩ := wrap_u64 (t := t) (by omega)
            obtain ⟨tv, htv⟩ : ∃ tv, UInt64.ofNat t = tv := ⟨_, rfl⟩
            rw [htv] at w17
            have hwv : IntKind.u64.wrap (t : Int) = (tv.toNat : Int) := by rw [w16, w17]
            have hAF2 := fullS_all h64 c.p.regs (t : Int) hAs hAF
            have hFE0 : (c.iterC xn i t).2 ++ (startP i).drop xn ++ consS (i : Int) [tv] ++ List.replicate k [] = fullS c.p.regs (i : Int) (t : Int) (c.iterC xn i t).2 ((startP i).drop xn) := by
              rw [hrg, ← moreS_one htv]
              exact fullS_of (by rw [HNL.out, HFL.out, moreS_one htv]; exact hk)
            have hFE := hide hFE0
            clear hFE0
            have HCO := hide (fun (W : World) (a : Option Addr) (hW : At W a [tv]) => Consts_calls i h64 [tv] a 1 1 rfl W hW (by decide))
            have HFU := hide (fun (W : World) (a7 : Option Addr) (c7 : Nat) (h7 : List PoH) (hl7 : 1 = h7.length) (hW : Below wr.heap.size wr W) (hA7 : At W a7 h7) (hP7 : PsAt (fun q => (q ≠ gN ∧ q ≠ w.heap.size + 1 + 1) ∧ q < W.heap.size) W (i : Int) h7 (consS (i : Int) [tv])) =>
              FullM_calls (fun q => q ≠ gN ∧ q ≠ w.heap.size + 1 + 1) gN gF gV a' fa a7 xn tn 1 c' fc c7 hn hf h7 i h64 _ _ (consS (i : Int) [tv]) rg c.p.a c.p.l.length c.p.c hhn HTL.out hl7 k hk (by omega) W (hFA.belowN hW) hA7 hP7)
            rw [← hrg] at HFU
            have HAF := hide (fun (W : World) (a8 : Option Addr) (c8 : Nat) (h8 : List PoH) (hl8 : rg = h8.length) (hW : Below w.heap.size w W) (hA8 : At W a8 h8) (hP8 : PsAt (fun q => (q ≠ gN ∧ q ≠ w.heap.size + 1 + 1) ∧ q < W.heap.size) W (i : Int) h8 (fullS c.p.regs (i : Int) (t : Int) (c.iterC xn i t).2 ((startP i).drop xn))) =>
              MAftQ_calls (fun q => q ≠ gN ∧ q ≠ w.heap.size + 1 + 1) c.p i (t : Int) _ _ a8 rg c8 h8 hl8 W (hp.belowN hW) hpl hA8 hP8 hAF2 (by omega) E1 R1 hR1)
            have hsu := hide (c.iterC_succ xn i t hi0 hR1)
            have hA1 := runC_all h64 hAs hAF (by rw [HNL.out]; omega) hR1
            have HXR := hide (show E1 = 0 → xn ≤ R1.length from fun e0 => by
              subst e0
              rw [runC_len hR1]
              unfold fullS
              simp only [List.length_append]
              have := HNL.out
              omega)
            obtain ⟨S', hS'⟩ : ∃ S' : World → Prop, S' = fun w' => (w'.cell? ⟨w.heap.size, 0, none⟩ = some (.int .i64 c.p.regs) ∧ w'.cell? ⟨w.heap.size, 1, none⟩ = some (.slice c.p.a c.p.l.length c.p.c)) ∧ w'.cell? ⟨gV, 0, none⟩ = some (.int .i64 (i : Int)) := ⟨_, rfl⟩
            have HSE : Hid (∀ w', S' w' → (w'.cell? ⟨w.heap.size, 0, none⟩ = some (.int .i64 c.p.regs) ∧ w'.cell? ⟨w.heap.size, 1, none⟩ = some (.slice c.p.a c.p.l.length c.p.c)) ∧ w'.cell? ⟨gV, 0, none⟩ = some (.int .i64 (i : Int))) := hide (fun w' h => by rw [hS'] at h; exact h)
            have HSI : Hid (∀ w4, Below wr.heap.size wr w4 → S' w4) := hide (fun w4 h4 => by
              rw [hS']
              have a1 := (hX6.belowN h4).c2
              exact ⟨⟨a1.1, a1.2.1⟩, (hFA.v.belowN h4).c1.1⟩)
            clear hS'
            have hd6 : Below wr.heap.size wr wr.drew := Below.drew (Below.refl _ _)
            obtain ⟨r0, r1, r2, r3⟩ := hR6.c2
            clear hR1 hrg w16 w17 htv hAF2
            obtain ⟨w6, rfl⟩ : ∃ w6 : World, w6 = wr := ⟨_, rfl⟩
            have HHN := hide hhn
            have HK := hide hk
            have hzn : w4.heap.size ≤ w6.heap.size := by omega
            clear hhn hk
            go_wp2
            refine wp_region_fan [0, 1, 2, 3, 4, 5] [6, 7, 8, 9, 10] [11, 12] [13, 14] S' (by kernel_rfl) (by kernel_rfl) (HSI.out _ hd6) ?_
            simp only [pickL, List.filterMap_cons, List.filterMap_nil, List.getElem?_cons_succ, List.getElem?_cons_zero]
            iterate 6
              apply headK_step (by rfl)
              · intro w' hw'
                obtain ⟨⟨s0, s1⟩, s2⟩ := HSE.out w' hw'
                go_simp
                rfl
              intro a' ha'
              simp only [Act.put, List.setIfInBounds_toArray, List.set_cons_succ, List.set_cons_zero] at ha'
              subst ha'
            refine headK_nil ?_
            rw [midF]
            intro K0 hK0
            have HK0 := hide hK0
            clear hK0
            go_simp
            have hB7 : Below w6.heap.size w6 (w6.alloc (.cells #[.int .u64 (tv.toNat : Int)] 50)).drew := Below.drew (below_box w6 _)
            have hA7 : At (w6.alloc (.cells #[.int .u64 (tv.toNat : Int)] 50)).drew (some ⟨w6.heap.size, 0, none⟩) [tv] := (At.ofBlk (Blk.new w6 _ #[.int .u64 (tv.toNat : Int)]) _ rfl).belowN (Below.drew (Below.refl _ _))
            refine HK0.out _ _ (HSI.out _ hB7) ?_
            clear HK0
            rw [midF]
            intro K0 hK0
            have HK0 := hide hK0
            clear hK0
            go_simp
            go_at_call 61
            refine (HCO.out _ _ hA7).mono ?_
            rintro e w7 ⟨a7, c7, h7, rfl, hO7, hl7, hP7, hb7⟩
            have hB8 := hB7.trans (hb7.mono hB7.size)
            have hs7 := hB7.size
            have hP7' := hP7.bounded.imp (Q := fun q => (q ≠ gN ∧ q ≠ w.heap.size + 1 + 1) ∧ q < w7.heap.size) (fun q hq => ⟨⟨by have := hq.1; omega, by have := hq.1; omega⟩, hq.2⟩)
            refine HK0.out _ _ (HSI.out _ hB8) ?_
            clear HK0
            rw [midF]
            intro K0 hK0
            have HK0 := hide hK0
            clear hK0
            go_simp
            go_at_call 60
            refine (HFU.out w7 a7 c7 h7 hl7.symm hB8 hO7.at_ hP7').mono ?_
            rintro e w8 ⟨a8, c8, h8, rfl, hO8, hl8, hP8, hb8⟩
            have hB9 := hB8.trans (hb8.mono hB8.size)
            have hs8 := hB8.size
            rw [hFE.out] at hP8
            have hP8' := hP8.bounded.imp (Q := fun q => (q ≠ gN ∧ q ≠ w.heap.size + 1 + 1) ∧ q < w8.heap.size) (fun q hq => ⟨by rcases hq.1 with h | h; exact h; exact ⟨by omega, by omega⟩, hq.2⟩)
            refine HK0.out _ _ (HSI.out _ hB9) ?_
            clear HK0
            rw [midF]
            intro K0 hK0
            have HK0 := hide hK0
            clear hK0
            go_simp
            go_at_call 19
            refine (HAF.out w8 a8 c8 h8 hl8.symm (hB6.trans (hB9.mono hB6.size)) hO8.at_ hP8').mono ?_
            rintro e w9 ⟨a9, n9, c9, h9, rfl, hn9, hO9, hP9, hb9⟩
            have hs9 := hB9.size
            have hBX := hB9.trans (hb9.mono hB9.size)
            refine HK0.out _ _ (HSI.out _ hBX) ?_
            clear HK0
            rw [midF]
            intro K0 hK0
            have HK0 := hide hK0
            clear hK0
            go_simp
            refine HK0.out _ _ (HSI.out _ hBX) ?_
            clear HK0 HSI HSE
            rw [midF]
            iterate 2
              apply headK_step (by rfl)
              · intro w' _
                go_simp
                rfl
              intro a' ha'
              simp only [Act.put, List.setIfInBounds_toArray, List.set_cons_succ, List.set_cons_zero] at ha'
              subst ha'
            refine headK_nil ?_
            clear hB9
            have hB9 := hBX
            clear hBX HCO HFU HAF hP7 hP7' hP8 hP8' hO7 hO8 hA7 hB7 hB8 hb7 hb8
            by_cases hE1 : E1 = 0
            · subst hE1
              have hxR := HXR.out rfl
              rw [if_pos rfl] at hsu
              have HSU := hsu
              have hk9 : xn ≤ c9 := by have h7 := hO9.cap.1; have h8 := hP9.1; omega
              have hkn9 : xn ≤ n9 := by omega
              have hc9 : c9 ≤ 9223372036854775807 := Nat.le_trans hO9.cap.2 (by decide)
              have hN9 := hFA.n.belowN hB9
              obtain ⟨n0, n1⟩ := hN9.c1
              have hg9 := grown_setCell w9 gN 0 (.slice a9 xn c9)
              have hfar : a9.map (·.block) ≠ some gN := fun e => by have := (hO9.blk gN e).1; omega
              have HFA9 := hide (show FullAt (fun q => q ≠ gN ∧ q ≠ w.heap.size + 1 + 1) (w9.setCell ⟨gN, 0, none⟩ (.slice a9 xn c9)) gN gF gV a9 fa xn tn c9 fc (h9.take xn) hf i (R1.take xn) ((startP i).drop xn) from
                ⟨hN9.set_ 0 (.slice a9 xn c9), (hFA.f.belowN hB9).grown hg9 (fun e => by injection e with e; omega), (hFA.v.belowN hB9).grown hg9 (fun e => by injection e with e; omega), (hO9.at_.takeN xn).grown hg9 (fun _ => .inl hfar), (hFA.af.belowN hB9).grown hg9 (fun _ => .inl hfaN),
                 (((hP9.bounded.imp (Q := fun q => (q ≠ gN ∧ q ≠ w.heap.size + 1 + 1) ∧ q < w9.heap.size) (fun q hq => ⟨by rcases hq.1 with h | h; exact h; exact ⟨by omega, by omega⟩, hq.2⟩)).take xn).grown hg9 (fun g e hq => hq.1.1 (by injection e with e; exact e.symm))).imp (fun q hq => ⟨hq.1, Nat.lt_of_lt_of_le hq.2 hg9.size⟩),
                 ((hFA.pf.belowN hB9).grown hg9 (fun g e hq => hq.1.1 (by injection e with e; exact e.symm))).imp (fun q hq => ⟨hq.1, Nat.lt_of_lt_of_le hq.2 (Nat.le_trans hB9.size hg9.size)⟩)⟩)
              have HLX := hide (show xn = (h9.take xn).length by rw [List.length_take]; have h8 := hP9.1; omega)
              have hbF : Below w4.heap.size w5 (w9.setCell ⟨gN, 0, none⟩ (.slice a9 xn c9)) := (hb6.trans (hB9.mono hzn)).setCell (p := ⟨gN, 0, none⟩) hgN0 _
              clear hsu hn9
              go_wp2
              refine NoPanic.normal ?_
              go_wp2
              go_roundw
              case rel =>
                refine ⟨t + 1, a9, c9, h9.take xn, by go_num, by go_num, by omega, HLX.out, ?_, by rw [HSU.out], ?_, hfar, hbF⟩
                · rw [HSU.out]; exact HFA9.out
                · rw [HSU.out]; exact fun M hM => hA1 M (List.mem_of_mem_take hM)
              case measure => simp [intOf] <;> omega
            · rw [if_neg hE1] at hsu
              have hcb := c.compC_bad xn i ln (t + 1) (by omega) hsu.out hE1
              rw [HC.out] at hcb
              injection hcb with e1 e2
              subst e1 e2
              have hV := HV.out
              rw [if_neg hE1] at hV
              subst hV
              have e1 : (E == 0) = false := by simpa using hE1
              have e2 : (E != 0) = true := by simpa using hE1
              obtain ⟨q0, q1, q2, q3⟩ := (hR6.belowN hB9).c2
              clear hsu hE1 HV HC hn9 r0 r1 r2 r3
              go_wp2
              refine NoPanic.normal ?_
              go_wp2
              try rw [Exit.noGoto_ret]
              have hF := (((hR6.belowN hB9)).set_ 0 (.int .i64 0)).set_ 1 (.slice none 0 0)
              refine bodyPost_ret (results_rowP rfl _ _ (w.heap.size + 1 + 1) _ #[.int .i64 0, .slice none 0 0] (0, 0) _ rfl hF Tryz.underlying42 rfl (by kernel_rfl)) rfl ⟨none, 0, 0, rfl, TOut.nil _ _, ?_⟩
              exact ((hB6.trans (hB9.mono hB6.size)).setCell (p := ⟨w.heap.size + 1 + 1, 0, none⟩) hq3 _).setCell (p := ⟨w.heap.size + 1 + 1, 1, none⟩) hq3 _

          · have htl2 : t = ln := by omega
            subst htl2
            obtain ⟨⟨E2, R2⟩, hR2'⟩ : ∃ x, runC c.q (i : Int) (-1) (c.iterC xn i t).2 ((startP i).drop xn) = x := ⟨_, rfl⟩
            obtain ⟨rg, hrg⟩ : ∃ n : Nat, c.q.regs = (n : Int) := ⟨c.q.regs.toNat, by omega⟩
            obtain ⟨k, hk⟩ : ∃ k : Nat, xn + tn + 0 + k = rg := ⟨rg - (xn + tn), by have := HVN.out; omega⟩
            have hAF2 := fullS_all h64 c.q.regs (-1) hAs hAF
            have hFE0 : (c.iterC xn i t).2 ++ (startP i).drop xn ++ [] ++ List.replicate k [] = fullS c.q.regs (i : Int) (-1) (c.iterC xn i t).2 ((startP i).drop xn) := by
              rw [hrg, ← moreS_none (vn := i)]
              exact fullS_of (by rw [HNL.out, HFL.out, moreS_none]; exact hk)
            have hFE := hide hFE0
            clear hFE0
            have HFU := hide (fun (W : World) (hW : Below wr.heap.size wr W) =>
              FullM_calls (fun q => q ≠ gN ∧ q ≠ w.heap.size + 1 + 1) gN gF gV a' fa none xn tn 0 c' fc 0 hn hf [] i h64 _ _ [] rg c.q.a c.q.l.length c.q.c hhn HTL.out rfl k hk (by omega) W (hFA.belowN hW) (At.nil _ _) (PsAt.nil _ _ _))
            rw [← hrg] at HFU
            have HAF := hide (fun (W : World) (a8 : Option Addr) (c8 : Nat) (h8 : List PoH) (hl8 : rg = h8.length) (hW : Below w.heap.size w W) (hA8 : At W a8 h8) (hP8 : PsAt (fun q => (q ≠ gN ∧ q ≠ w.heap.size + 1 + 1) ∧ q < W.heap.size) W (i : Int) h8 (fullS c.q.regs (i : Int) (-1) (c.iterC xn i t).2 ((startP i).drop xn))) =>
              MAftQ_calls (fun q => q ≠ gN ∧ q ≠ w.heap.size + 1 + 1) c.q i (-1) _ _ a8 rg c8 h8 hl8 W (hq.belowN hW) hql hA8 hP8 hAF2 (by omega) E2 R2 hR2')
            have hce := c.compC_end xn i t hi0 hR2'
            rw [HC.out] at hce
            injection hce with e1 e2
            subst e1
            have HXR := hide (show E = 0 → 1 ≤ R2.length from fun e0 => by
              subst e0
              rw [runC_len hR2']
              unfold fullS
              simp only [List.length_append]
              have := HNL.out
              omega)
            have HE2 := hide e2
            obtain ⟨S', hS'⟩ : ∃ S' : World → Prop, S' = fun w' => (w'.cell? ⟨w.heap.size + 1, 0, none⟩ = some (.int .i64 c.q.regs) ∧ w'.cell? ⟨w.heap.size + 1, 1, none⟩ = some (.slice c.q.a c.q.l.length c.q.c)) ∧ w'.cell? ⟨gV, 0, none⟩ = some (.int .i64 (i : Int)) := ⟨_, rfl⟩
            have HSE : Hid (∀ w', S' w' → (w'.cell? ⟨w.heap.size + 1, 0, none⟩ = some (.int .i64 c.q.regs) ∧ w'.cell? ⟨w.heap.size + 1, 1, none⟩ = some (.slice c.q.a c.q.l.length c.q.c)) ∧ w'.cell? ⟨gV, 0, none⟩ = some (.int .i64 (i : Int))) := hide (fun w' h => by rw [hS'] at h; exact h)
            have HSI : Hid (∀ w4, Below wr.heap.size wr w4 → S' w4) := hide (fun w4 h4 => by
              rw [hS']
              have a1 := (hY6.belowN h4).c2
              exact ⟨⟨a1.1, a1.2.1⟩, (hFA.v.belowN h4).c1.1⟩)
            clear hS'
            have hd6 : Below wr.heap.size wr wr.drew := Below.drew (Below.refl _ _)
            clear hR2' hrg hAF2 HC e2
            obtain ⟨w6, rfl⟩ : ∃ w6 : World, w6 = wr := ⟨_, rfl⟩
            have hzn : w4.heap.size ≤ w6.heap.size := by omega
            clear hhn hk hi0
            go_wp2
            refine wp_region_fan [0, 1, 2] [3, 4, 5] [6, 7] [8, 9] S' (by kernel_rfl) (by kernel_rfl) (HSI.out _ hd6) ?_
            simp only [pickL, List.filterMap_cons, List.filterMap_nil, List.getElem?_cons_succ, List.getElem?_cons_zero]
            iterate 3
              apply headK_step (by rfl)
              · intro w' hw'
                obtain ⟨⟨s0, s1⟩, s2⟩ := HSE.out w' hw'
                go_simp
                rfl
              intro a' ha'
              simp only [Act.put, List.setIfInBounds_toArray, List.set_cons_succ, List.set_cons_zero] at ha'
              subst ha'
            refine headK_nil ?_
            rw [midF]
            intro K0 hK0
            have HK0 := hide hK0
            clear hK0
            go_simp
            go_at_call 60
            refine (HFU.out w6.drew hd6).mono ?_
            rintro e w8 ⟨a8, c8, h8, rfl, hO8, hl8, hP8, hb8⟩
            have hB9 := hd6.trans (hb8.mono hd6.size)
            have hs8 := hd6.size
            rw [hFE.out] at hP8
            have hP8' := hP8.bounded.imp (Q := fun q => (q ≠ gN ∧ q ≠ w.heap.size + 1 + 1) ∧ q < w8.heap.size) (fun q hq => ⟨by rcases hq.1 with h | h; exact h; exact ⟨by omega, by omega⟩, hq.2⟩)
            refine HK0.out _ _ (HSI.out _ hB9) ?_
            clear HK0
            rw [midF]
            intro K0 hK0
            have HK0 := hide hK0
            clear hK0
            go_simp
            go_at_call 19
            refine (HAF.out w8 a8 c8 h8 hl8.symm (hB6.trans (hB9.mono hB6.size)) hO8.at_ hP8').mono ?_
            rintro e w9 ⟨a9, n9, c9, h9, rfl, hn9, hO9, hP9, hb9⟩
            have hs9 := hB9.size
            have hBX := hB9.trans (hb9.mono hB9.size)
            refine HK0.out _ _ (HSI.out _ hBX) ?_
            clear HK0
            rw [midF]
            intro K0 hK0
            have HK0 := hide hK0
            clear hK0
            go_simp
            refine HK0.out _ _ (HSI.out _ hBX) ?_
            clear HK0 HSI HSE
            rw [midF]
            iterate 2
              apply headK_step (by rfl)
              · intro w' _
                go_simp
                rfl
              intro a' ha'
              simp only [Act.put, List.setIfInBounds_toArray, List.set_cons_succ, List.set_cons_zero] at ha'
              subst ha'
            refine headK_nil ?_
            clear hB9
            have hB9 := hBX
            clear hBX HFU HAF hP8 hP8' hO8 hb8
            obtain ⟨q0, q1, q2, q3⟩ := (hR6.belowN hB9).c2
            by_cases hE1 : E = 0
            · subst hE1
              have hxR := HXR.out rfl
              have hV := HV.out
              rw [if_pos rfl] at hV
              subst hV
              obtain ⟨b9, off9, y9, rfl, hy9, y0, y1⟩ := hO9.at_.getPo (Below.refl _ _) (k := 0) (by have h8 := hP9.1; omega)
              simp only [Nat.zero_mul, Nat.add_zero] at y0 y1
              have h00 : 0 < n9 := by omega
              obtain ⟨hv9, hT9⟩ := hP9.get hy9.out
              have hnP : ¬ ((w.heap.size + 1 + 1 ≠ gN ∧ w.heap.size + 1 + 1 ≠ w.heap.size + 1 + 1) ∨ w8.heap.size ≤ w.heap.size + 1 + 1) := by omega
              rw [hv9] at y0
              have hF := ((hR6.belowN hB9).set_ 0 (.int .i64 (i : Int))).set_ 1 (.slice y9.a y9.n y9.c)
              have hTf := ((hT9.setCell (g := w.heap.size + 1 + 1) (i := 0) (.int .i64 (i : Int)) hnP).setCell (g := w.heap.size + 1 + 1) (i := 1) (.slice y9.a y9.n y9.c) hnP).imp (Q := fun _ => True) (fun _ _ => trivial)
              clear hn9 hv9
              go_wp2
              refine NoPanic.normal ?_
              go_wp2
              try rw [Exit.noGoto_ret]
              refine bodyPost_ret (results_rowP rfl _ _ (w.heap.size + 1 + 1) _ #[.int .i64 (i : Int), .slice y9.a y9.n y9.c] (0, 0) _ rfl hF Tryz.underlying42 rfl (by kernel_rfl)) rfl ⟨y9.a, y9.n, y9.c, rfl, ?_, ?_⟩
              · rw [HE2.out]; first | rw [if_pos rfl] | rw [if_pos trivial]
                have e9 : R2.headD [] = R2.getD 0 [] := by cases R2 <;> rfl
                rw [e9]
                exact hTf
              · exact ((hB6.trans (hB9.mono hB6.size)).setCell (p := ⟨w.heap.size + 1 + 1, 0, none⟩) hq3 _).setCell (p := ⟨w.heap.size + 1 + 1, 1, none⟩) hq3 _
            · have e2 := HE2.out
              rw [if_neg hE1] at e2
              subst e2
              have hV := HV.out
              rw [if_neg hE1] at hV
              subst hV
              have e1 : (E == 0) = false := by simpa using hE1
              have e2 : (E != 0) = true := by simpa using hE1
              clear hE1 HV hn9 HE2 HXR
              go_wp2
              refine NoPanic.normal ?_
              go_wp2
              try rw [Exit.noGoto_ret]
              have hF := (((hR6.belowN hB9)).set_ 0 (.int .i64 0)).set_ 1 (.slice none 0 0)
              refine bodyPost_ret (results_rowP rfl _ _ (w.heap.size + 1 + 1) _ #[.int .i64 0, .slice none 0 0] (0, 0) _ rfl hF Tryz.underlying42 rfl (by kernel_rfl)) rfl ⟨none, 0, 0, rfl, TOut.nil _ _, ?_⟩
              exact ((hB6.trans (hB9.mono hB6.size)).setCell (p := ⟨w.heap.size + 1 + 1, 0, none⟩) hq3 _).setCell (p := ⟨w.heap.size + 1 + 1, 1, none⟩) hq3 _

end Go.Proofs.YtcamcnahkdiefaaGreat

/- Chapter 24: are chains so small that their polynomials are? -/
namespace Go.Proofs.YtcamcnahkdiefaaGreat
set_option linter.unusedVariables false
set_option linter.unusedSimpArgs false
open Go.RowKit
def lightB (c : ChD) (l : Int) : Bool :=
  if 30 < (c.p.l.length : Int) ∨ 30 < (c.q.l.length : Int) ∨ 3 < (c.th.length : Int) ∨ 3 < c.x then false
  else if sizeE c.p.l ≠ 0 ∨ sizeE c.q.l ≠ 0 ∨ l < 0 ∨ 65536 ≤ l then true
  else decide (l ≤ 6) && decide (sizeW c.p.l * l + sizeW c.q.l ≤ 7)
set_option maxRecDepth 100000 in
set_option maxHeartbeats 3200000 in
theorem Light24_calls (c : ChD) (ta : Option Addr) (tc : Nat) (hta : ta = none → c.th = []) (l : Int) (B : Bool) (hB : lightB c l = B) (w : World) (h : At w c.p.a c.p.l) (h' : At w c.q.a c.q.l) (hl : c.p.l.length ≤ 1000000) (hl' : c.q.l.length ≤ 1000000) (P Q E1 E2 : Int) (hP : sizeW c.p.l = P) (hQ : sizeW c.q.l = Q) (hE1 : sizeE c.p.l = E1) (hE2 : sizeE c.q.l = E2) :
    Calls Tryz.prog 28 #[.agg #[.int .i64 c.p.regs, .slice c.p.a c.p.l.length c.p.c, .int .i64 c.q.regs, .slice c.q.a c.q.l.length c.q.c, .int .i64 c.x, .slice ta c.th.length tc], .int .i64 l] w fun e w' => e = .returned (.bool B) ∧ Below w.heap.size w w' := by
  have hb0 := below_new w (.cells #[.int .i64 c.p.regs, .slice c.p.a c.p.l.length c.p.c, .int .i64 c.q.regs, .slice c.q.a c.q.l.length c.q.c, .int .i64 c.x, .slice ta c.th.length tc] 48)
  have hX := Blk.new w 48 #[.int .i64 c.p.regs, .slice c.p.a c.p.l.length c.p.c, .int .i64 c.q.regs, .slice c.q.a c.q.l.length c.q.c, .int .i64 c.x, .slice ta c.th.length tc]
  have hb1 := sizeW_bd c.p.l
  have hb2 := sizeW_bd c.q.l
  rw [hP] at hb1
  rw [hQ] at hb2
  have H1 := hide (fun (W : World) (k : At W c.p.a c.p.l) => SizeW_calls c.p.a c.p.c c.p.l W k hl)
  have H2 := hide (fun (W : World) (k : At W c.q.a c.q.l) => SizeW_calls c.q.a c.q.c c.q.l W k hl')
  simp only [hP, hE1] at H1
  simp only [hQ, hE2] at H2
  unfold lightB at hB
  rw [hP, hQ, hE1, hE2] at hB
  have HB := hide hB
  have HT2 : Hid (c.th.length = 0 ∨ ta.isSome = true) := hide (by
    cases ta with
    | none => exact .inl (by rw [hta rfl]; rfl)
    | some p => exact .inr rfl)
  have HPL := hide (show 0 ≤ l → l ≤ 6 → 0 ≤ P * l ∧ P * l ≤ 393216 from fun h0 h6 => ⟨Int.mul_nonneg hb1.1 h0, by have := Int.mul_le_mul hb1.2 h6 h0 (by omega : (0 : Int) ≤ 65536); omega⟩)
  clear hP hQ hE1 hE2 hB hta
  obtain ⟨x0, x1, x2, x3, x4, x5, x6, x7, x8, x9, x10, x11⟩ := hX.c6
  have h1 := h.belowN hb0
  have h2 := h'.belowN hb0
  go_enter Tryz.func28, Tryz.ntmps28
  go_wp2_with (go_at_call 58; go_must (first
    | ((with_reducible refine (H2.out _ h21).mono ?_); rintro e w2 ⟨rfl, hb4⟩; have hB2 := hB1.trans (hb4.mono hB1.size); obtain ⟨x0, x1, x2, x3, x4, x5, x6, x7, x8, x9, x10, x11⟩ := (hX1.belowN hb4).c6)
    | ((with_reducible refine (H1.out _ h1).mono ?_); rintro e w1 ⟨rfl, hb3⟩; have hB1 := hb0.trans (hb3.mono hb0.size); have hX1 := hX.belowN hb3; obtain ⟨x0, x1, x2, x3, x4, x5, x6, x7, x8, x9, x10, x11⟩ := hX1.c6; have h21 := h2.belowN hb3)))
  all_goals go_ret
  all_goals refine ⟨?_, hB2⟩
  all_goals rw [← HB.out]
  all_goals clear H1 H2 x0 x1 x2 x3 x4 x5 x6 x7 x8 x9 x10 x11 hX1 hX hB1 hB2 h21 hb3 hb4 hb0
  all_goals refine congrArg Ending.returned (congrArg Value.bool ?_)
  all_goals rcases HT2.out with hz | hz
  all_goals try (exact absurd hz (by assumption))
  all_goals first
    | (rw [if_pos (by omega)]; done)
    | (rw [if_neg (by omega), if_pos (by omega)]; done)
    | (rw [if_neg (by omega), if_neg (by omega), decide_eq_false (show ¬ l < 0 by omega), decide_eq_false (show ¬ 65536 ≤ l by omega), decide_eq_false (show ¬ l ≤ 6 by omega)]; try rfl
       done)
    | (rw [if_neg (by omega), if_neg (by omega), decide_eq_false (show ¬ l < 0 by omega), decide_eq_false (show ¬ 65536 ≤ l by omega), decide_eq_true (show l ≤ 6 by omega)]
       obtain ⟨m1, m2⟩ := HPL.out (by omega) (by omega)
       rw [IntWalk.wrap64_in (P * l) ⟨by omega, by omega⟩, IntWalk.wrap64_in (P * l + Q) ⟨by omega, by omega⟩]
       try rfl
       done)
    | skip
end Go.Proofs.YtcamcnahkdiefaaGreat

/- Chapter 24: model.Composite, whatever the arguments; the page's example, plain. -/
namespace Go.Proofs.YtcamcnahkdiefaaGreat
set_option linter.unusedVariables false
set_option linter.unusedSimpArgs false
open Go.RowKit
theorem dims_wrong {r1 r2 x t : Int} (h : t < 0 ∨ 64 < t) : dimsC r1 r2 x t = 10 := by
  unfold dimsC
  rw [if_pos (by omega)]
theorem bad_wrong (p q : PrD) (x t : Int) (h : t < 0 ∨ 64 < t) : (⟨p, q, x, List.replicate 65 0⟩ : ChD).bad ≠ 0 ∧ ∀ l, compS p q x t l = ((⟨p, q, x, List.replicate 65 0⟩ : ChD).bad, []) := by
  have e : (⟨p, q, x, List.replicate 65 0⟩ : ChD).bad = if pairS p q ≠ 0 then pairS p q else 10 := by
    unfold ChD.bad
    simp only [List.length_replicate]
    rw [dims_wrong (.inr (by decide))]
  rw [e]
  unfold compS
  rw [dims_wrong h]
  by_cases h1 : pairS p q ≠ 0
  · rw [if_pos h1]
    exact ⟨h1, fun l => by rw [if_pos h1]⟩
  · rw [if_neg h1]
    exact ⟨by decide, fun l => by rw [if_neg h1, if_pos (by decide)]⟩
theorem comp_may (p q : PrD) (x : Int) (tn : Nat) (l : Int) : ((mkC p q x (tn : Int)).mayM l ≠ 0 → compS p q x (tn : Int) l = ((mkC p q x (tn : Int)).mayM l, [])) ∧ ((mkC p q x (tn : Int)).mayM l = 0 → compS p q x (tn : Int) l = (mkC p q x (tn : Int)).compC x.toNat (x.toNat + tn) l.toNat) := by
  have eb : (mkC p q x (tn : Int)).bad = if pairS p q ≠ 0 then pairS p q else dimsC p.regs q.regs x (tn : Int) := by
    unfold ChD.bad
    simp [mkC]
  unfold ChD.mayM compS
  rw [eb]
  by_cases h1 : pairS p q ≠ 0
  · simp only [if_pos h1]
    exact ⟨fun _ => by first | rfl | trivial, fun h => absurd h h1⟩
  · simp only [if_neg h1]
    by_cases h2 : dimsC p.regs q.regs x (tn : Int) ≠ 0
    · simp only [if_pos h2]
      exact ⟨fun _ => by first | rfl | trivial, fun h => absurd h h2⟩
    · simp only [if_neg h2]
      by_cases h3 : l < 0 ∨ 65536 ≤ l
      · simp only [if_pos h3]
        exact ⟨fun _ => by first | rfl | trivial, fun h => by cases h⟩
      · simp only [if_neg h3]
        exact ⟨fun h => absurd rfl h, fun _ => by rw [Int.toNat_natCast]⟩
theorem MComp_calls (p q : PrD) (x t l : Int) (w : World) (hp : At w p.a p.l) (hpl : p.l.length ≤ 1000000) (hq : At w q.a q.l) (hql : q.l.length ≤ 1000000) (hx : -9223372036854775808 ≤ x ∧ x ≤ 9223372036854775807) (E : Int) (L : List Tm) (hC : compS p q x t l = (E, L)) (V : Int) (hV : (if E = 0 then x + t else 0) = V) :
    Calls Tryz.prog 29 #[.agg #[.int .i64 p.regs, .slice p.a p.l.length p.c], .agg #[.int .i64 q.regs, .slice q.a q.l.length q.c], .int .i64 x, .int .i64 t, .int .i64 l] w (PolyAll V L E w) := by
  by_cases hw : t < 0 ∨ 64 < t
  · obtain ⟨h0, h1⟩ := bad_wrong p q x t hw
    rw [h1 l] at hC
    injection hC with e1 e2
    subst e2
    rw [if_neg (by rw [← e1]; exact h0)] at hV
    subst hV
    by_cases h2 : t < 0
    · exact MComp_low p q x t l w hp hpl hq hql hx h2 E e1 (by rw [← e1]; exact h0)
    · exact MComp_high p q x t l w hp hpl hq hql hx h2 (by omega) (decide_eq_false h2) E e1 (by rw [← e1]; exact h0)
  · obtain ⟨tn, rfl⟩ : ∃ n : Nat, t = n := ⟨t.toNat, by omega⟩
    obtain ⟨h1, h2⟩ := comp_may p q x tn l
    by_cases hm : (mkC p q x (tn : Int)).mayM l = 0
    · rw [h2 hm] at hC
      obtain ⟨hO, hl0, hl1⟩ := ChD.mayM_ok hm
      have hx1 := hO.x1
      obtain ⟨xn, rfl⟩ : ∃ n : Nat, x = n := ⟨x.toNat, by have : (mkC p q x (tn : Int)).x = x := rfl; omega⟩
      obtain ⟨ln, rfl⟩ : ∃ n : Nat, l = n := ⟨l.toNat, by omega⟩
      simp only [Int.toNat_natCast] at hC
      exact MComp_good (mkC p q (xn : Int) (tn : Int)) hO xn tn ln (xn + tn) rfl rfl (mayC_th p q _ tn) (by omega) hm w hp hpl hq hql E L hC V (by rw [← hV]; simp)
    · rw [h1 hm] at hC
      injection hC with e1 e2
      subst e2
      rw [if_neg (by rw [← e1]; exact hm)] at hV
      subst hV
      exact MComp_bad (mkC p q x (tn : Int)) x tn rfl (mayC_th p q x tn) (by omega) l w hp hpl hq hql hx E e1 (by rw [← e1]; exact hm)
def exMP : Fo := .leaf ⟨3, 0, 0, 1, 0⟩ .nil
theorem exMP_good : Good 3 exMP := good_of_lit (by simp [exMP, Fo.ok]) (by decide)
theorem exMQ_good : Good 2 Fo.nil := good_of_lit (by simp [Fo.ok]) (by decide)
def ex24 (a : Option Addr) : ChD := ⟨⟨3, a, 1, exMP.flat⟩, ⟨2, none, 0, []⟩, 1, [3]⟩
theorem ex24_pair (a : Option Addr) : pairS (ex24 a).p (ex24 a).q = 0 := pairS_of exMP_good.check exMQ_good.check
theorem ex24_bad (a : Option Addr) : (ex24 a).bad = 0 := by
  unfold ChD.bad
  rw [if_neg (by simpa using ex24_pair a)]
  rfl
theorem ex24_may (a : Option Addr) : (ex24 a).mayM 4 = 0 := by
  unfold ChD.mayM
  rw [if_neg (by simpa using ex24_bad a)]
  rfl
theorem ex24_step (a : Option Addr) (t : Nat) (x f : DuD) : (ex24 a).dstep t [x] [f] = [mulD x f] := by
  unfold ChD.dstep
  show (dualR 3 exMP.flat ([x] ++ [f] ++ [(⟨UInt64.ofNat t, 0⟩ : DuD)])).take 1 = _
  rw [dualR_good exMP_good (by simp)]
  rfl
theorem ex24_loss (a : Option Addr) (x f : DuD) : (ex24 a).dloss [x] [f] = x := by
  unfold ChD.dloss
  show (dualR 2 Fo.nil.flat ([x] ++ [f])).getD 0 ⟨0, 0⟩ = _
  rw [dualR_good exMQ_good (by simp)]
  rfl
theorem ex24_pass (a : Option Addr) (x f : DuD) : (ex24 a).dpass [x] [f] 4 = mulD (mulD (mulD (mulD x f) f) f) f := by
  unfold ChD.dpass
  have h : (ex24 a).diter [x] [f] 4 = [mulD (mulD (mulD (mulD x f) f) f) f] := by
    simp only [ChD.diter, ex24_step]
  rw [h, ex24_loss]
theorem ex24_at0 (a : Option Addr) : (ex24 a).passAt [5] 4 0 = ⟨405, 81⟩ := by
  unfold ChD.passAt
  show (ex24 a).dpass [⟨5, 1⟩] [⟨3, 0⟩] 4 = _
  rw [ex24_pass]
  rfl
theorem ex24_at1 (a : Option Addr) : (ex24 a).passAt [5] 4 1 = ⟨405, 540⟩ := by
  unfold ChD.passAt
  show (ex24 a).dpass [⟨5, 0⟩] [⟨3, 1⟩] 4 = _
  rw [ex24_pass]
  rfl
theorem ex24_grad (a : Option Addr) : (ex24 a).gV [5] 4 = 405 ∧ (ex24 a).gX [5] 4 = [81] ∧ (ex24 a).gT [5] 4 = [540] := by
  refine ⟨?_, ?_, ?_⟩
  · unfold ChD.gV
    rw [if_pos (ex24_may a)]
    show ((ex24 a).passAt [5] 4 1).v = 405
    rw [ex24_at1]
  · unfold ChD.gX
    rw [if_pos (ex24_may a)]
    show [((ex24 a).passAt [5] 4 0).d] = _
    rw [ex24_at0]
  · unfold ChD.gT
    rw [if_pos (ex24_may a)]
    show [((ex24 a).passAt [5] 4 1).d] = _
    rw [ex24_at1]
theorem ex24_al (a : Option Addr) : (ex24 a).alD [5] 4 1 = ⟨405, 540⟩ ∧ (ex24 a).alE 1 4 1 = 0 := by
  have h : (ex24 a).alE 1 4 1 = 0 := by
    unfold ChD.alE
    rw [if_neg (by simpa using ex24_may a)]
    rfl
  refine ⟨?_, h⟩
  unfold ChD.alD
  show (if (ex24 a).alE 1 4 1 = 0 then (ex24 a).passAt [5] 4 1 else _) = _
  rw [h, if_pos rfl, ex24_at1]
theorem exC_key (a : Option Addr) (t : Int) (now fixed : List (List Tm)) (F : List (List Tm)) (hF : fullS 3 2 t now fixed = F) : runC ⟨3, a, 1, exMP.flat⟩ 2 t now fixed = if (F.length : Int) ≠ 3 then (10, []) else if okStart (((List.replicate F.length (2 : Int))).headD 0) (List.replicate F.length 2) F = false then (2, []) else runS (((List.replicate F.length (2 : Int))).headD 0) exMP.unroll F := by
  unfold runC
  dsimp only
  rw [hF]
  unfold afterS
  rw [exMP_good.check, unrS_good exMP_good]
  rfl
theorem exC_last (now fixed : List (List Tm)) (F : List (List Tm)) (hF : fullS 2 2 (-1) now fixed = F) : runC ⟨2, none, 0, []⟩ 2 (-1) now fixed = if (F.length : Int) ≠ 2 then (10, []) else if okStart (((List.replicate F.length (2 : Int))).headD 0) (List.replicate F.length 2) F = false then (2, []) else runS (((List.replicate F.length (2 : Int))).headD 0) Fo.nil.unroll F := by
  unfold runC
  dsimp only
  rw [hF]
  unfold afterS
  rw [show checkS 2 ([] : List OpD) = 0 from exMQ_good.check, show unrS 2 ([] : List OpD) = Fo.nil.unroll from unrS_good exMQ_good]
  rfl
theorem exC_comp (a : Option Addr) : compS ⟨3, a, 1, exMP.flat⟩ ⟨2, none, 0, []⟩ 1 1 4 = (0, [(1, [1, 4])]) := by
  have hm := ex24_may a
  have h := (comp_may ⟨3, a, 1, exMP.flat⟩ ⟨2, none, 0, []⟩ 1 1 4).2 (by
    unfold ChD.mayM
    have hb : (mkC ⟨3, a, 1, exMP.flat⟩ ⟨2, none, 0, []⟩ 1 ((1 : Nat) : Int)).bad = 0 := by
      show (if pairS (ex24 a).p (ex24 a).q ≠ 0 then pairS (ex24 a).p (ex24 a).q else _) = _
      rw [if_neg (by simpa using ex24_pair a)]
      rfl
    rw [if_neg (by simpa using hb)]
    rfl)
  rw [show (((1 : Nat) : Int)) = 1 from rfl] at h
  rw [h]
  obtain ⟨c, hc⟩ : ∃ c, mkC ⟨3, a, 1, exMP.flat⟩ ⟨2, none, 0, []⟩ 1 1 = c := ⟨_, rfl⟩
  have hp : c.p = ⟨3, a, 1, exMP.flat⟩ := by rw [← hc]; rfl
  have hq : c.q = ⟨2, none, 0, []⟩ := by rw [← hc]; rfl
  rw [hc]
  have hfx : (startP 2).drop 1 = [[(1, [0, 1])]] := by kernel_rfl
  have i0 : c.iterC 1 2 0 = (0, [[(1, [1, 0])]]) := by
    show (0, (startP 2).take 1) = _
    kernel_rfl
  have step : ∀ (t : Nat) (k : Int), c.iterC 1 2 t = (0, [[(1, [1, k])]]) → ∀ R : List (List Tm), (∀ F, fullS 3 2 (t : Int) [[(1, [1, k])]] [[(1, [0, 1])]] = F → (if (F.length : Int) ≠ 3 then ((10 : Int), ([] : List (List Tm))) else if okStart (((List.replicate F.length (2 : Int))).headD 0) (List.replicate F.length 2) F = false then (2, []) else runS (((List.replicate F.length (2 : Int))).headD 0) exMP.unroll F) = (0, R)) → c.iterC 1 2 (t + 1) = (0, R.take 1) := by
    intro t k hi R hR
    have := c.iterC_succ 1 2 t (E := 0) (R := R) (by rw [hi]) (by
      rw [hp, hi, hfx]
      exact (exC_key a (t : Int) _ _ _ rfl).trans (hR _ rfl))
    rw [this, if_pos rfl]
  have i1 : c.iterC 1 2 1 = (0, [[(1, [1, 1])]]) := step 0 0 i0 [[(1, [1, 1])], [(1, [0, 1])], []] (by rintro F rfl; kernel_rfl)
  have i2 : c.iterC 1 2 2 = (0, [[(1, [1, 2])]]) := step 1 1 i1 [[(1, [1, 2])], [(1, [0, 1])], [(1, [0, 0])]] (by rintro F rfl; kernel_rfl)
  have i3 : c.iterC 1 2 3 = (0, [[(1, [1, 3])]]) := step 2 2 i2 [[(1, [1, 3])], [(1, [0, 1])], [(2, [0, 0])]] (by rintro F rfl; kernel_rfl)
  have i4 : c.iterC 1 2 4 = (0, [[(1, [1, 4])]]) := step 3 3 i3 [[(1, [1, 4])], [(1, [0, 1])], [(3, [0, 0])]] (by rintro F rfl; kernel_rfl)
  show c.compC 1 2 4 = _
  rw [c.compC_end 1 2 4 (E := 0) (R := [[(1, [1, 4])], [(1, [0, 1])]]) (by rw [i4]) (by
    rw [hq, i4, hfx]
    refine (exC_last _ _ _ rfl).trans ?_
    kernel_rfl), if_pos rfl]
  rfl
end Go.Proofs.YtcamcnahkdiefaaGreat
