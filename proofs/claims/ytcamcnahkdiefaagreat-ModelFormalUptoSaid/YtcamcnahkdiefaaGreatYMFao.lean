/- Several texts of mine in one file. -/
import Derived.Test.YtcamcnahkdiefaaGreatYMFan
import Derived.Test.YtcamcnahkdiefaaGreatYMFam
import Derived.Test.YtcamcnahkdiefaaGreatYMFaf
import Derived.Test.YtcamcnahkdiefaaGreatYMFak
/- Chapter 24: model.Composite. -/
namespace Go.Proofs.YtcamcnahkdiefaaGreat
set_option linter.unusedVariables false
set_option linter.unusedSimpArgs false
open Go.RowKit
set_option maxRecDepth 100000 in
set_option maxHeartbeats 12800000 in
theorem MComp_good (c : ChD) (hc : c.Ok) (xn tn ln vn : Nat) (hvn : xn + tn = vn) (hcx : c.x = (xn : Int)) (hth : c.th = List.replicate tn 0) (hln : ln < 65536) (hmay : c.mayM (ln : Int) = 0) (w : World)
    (hp : At w c.p.a c.p.l) (hpl : c.p.l.length ≤ 1000000) (hq : At w c.q.a c.q.l) (hql : c.q.l.length ≤ 1000000) (E : Int) (L : List Tm) (hC : c.compC xn vn ln = (E, L)) (V : Int) (hV : (if E = 0 then (vn : Int) else 0) = V) :
    Calls Tryz.prog 29 #[.agg #[.int .i64 c.p.regs, .slice c.p.a c.p.l.length c.p.c], .agg #[.int .i64 c.q.regs, .slice c.q.a c.q.l.length c.q.c], .int .i64 (xn : Int), .int .i64 (tn : Int), .int .i64 (ln : Int)] w (PolyAll V L E w) := by
  have hx1 := hc.x1
  have hx2 := hc.x2
  have ht2 := hc.t2
  have hr1 := hc.r1
  have hr2 := hc.r2
  rw [hcx] at hx1 hx2 hr1 hr2
  have htl : c.th.length = tn := by rw [hth, List.length_replicate]
  rw [htl] at ht2 hr1 hr2
  obtain ⟨f, hfl, hgf⟩ := hc.hp
  obtain ⟨g, hgl, hgg⟩ := hc.hq
  clear hfl hgl
  obtain ⟨hX, hY, hR, hb0, hz0⟩ := three_boxes w 24 24 42 #[.int .i64 c.p.regs, .slice c.p.a c.p.l.length c.p.c] #[.int .i64 c.q.regs, .slice c.q.a c.q.l.length c.q.c] #[.int .i64 0, .slice none 0 0]
  have HMY := hide (fun (W : World) (a : Option Addr) (hW : Below w.heap.size w W) (hA : At W a (List.replicate tn (0 : UInt64))) => MayN_calls c tn hth ht2 a (ln : Int) W (hp.belowN hW) hpl (hq.belowN hW) hql hA (by omega) 0 hmay)
  rw [hcx] at HMY
  obtain ⟨w1, hw1⟩ : ∃ w1, w1 = ((w.alloc (.cells #[.int .i64 c.p.regs, .slice c.p.a c.p.l.length c.p.c] 24)).alloc (.cells #[.int .i64 c.q.regs, .slice c.q.a c.q.l.length c.q.c] 24)).alloc (.cells #[.int .i64 0, .slice none 0 0] 42) := ⟨_, rfl⟩
  rw [← hw1] at hX hY hR hb0
  obtain ⟨p0, p1, p2, p3⟩ := hX.c2
  obtain ⟨p4, p5, p6, p7⟩ := hY.c2
  obtain ⟨S', hS'⟩ : ∃ S' : World → Prop, S' = fun w' => (w'.cell? ⟨w.heap.size, 0, none⟩ = some (.int .i64 c.p.regs) ∧ w'.cell? ⟨w.heap.size, 1, none⟩ = some (.slice c.p.a c.p.l.length c.p.c)) ∧ w'.cell? ⟨w.heap.size + 1, 0, none⟩ = some (.int .i64 c.q.regs) ∧ w'.cell? ⟨w.heap.size + 1, 1, none⟩ = some (.slice c.q.a c.q.l.length c.q.c) := ⟨_, rfl⟩
  have HSE : Hid (∀ w', S' w' → (w'.cell? ⟨w.heap.size, 0, none⟩ = some (.int .i64 c.p.regs) ∧ w'.cell? ⟨w.heap.size, 1, none⟩ = some (.slice c.p.a c.p.l.length c.p.c)) ∧ w'.cell? ⟨w.heap.size + 1, 0, none⟩ = some (.int .i64 c.q.regs) ∧ w'.cell? ⟨w.heap.size + 1, 1, none⟩ = some (.slice c.q.a c.q.l.length c.q.c)) := hide (fun w' h => by rw [hS'] at h; exact h)
  have HSI : Hid (∀ w4, Below w1.heap.size w1 w4 → S' w4) := hide (fun w4 h4 => by
    rw [hS']
    have a1 := (hX.belowN h4).c2
    have a2 := (hY.belowN h4).c2
    exact ⟨⟨a1.1, a1.2.1⟩, a2.1, a2.2.1⟩)
  have hdw : Below w1.heap.size w1 w1.drew := Below.drew (Below.refl _ _)
  have hmk := mkU tn (tn : Int) rfl (by omega)
  have hz1 := hb0.size
  have hq3 : w.heap.size ≤ w.heap.size + 1 + 1 := by omega
  have d1 : ¬ (tn : Int) < 0 := by omega
  have d2 : ¬ 64 < (tn : Int) := by omega
  have h64 : vn ≤ 64 := by have := hgf.r2; omega
  have HVN := hide hvn
  have HV := hide hV
  have HC := hide hC
  have HRG := hide (show (vn : Int) + 1 ≤ c.p.regs ∧ c.p.regs ≤ 64 ∧ (vn : Int) ≤ c.q.regs ∧ c.q.regs ≤ 64 from ⟨by omega, hgf.r2, by omega, hgg.r2⟩)
  have hvI : (xn : Int) + (tn : Int) = (vn : Int) := by omega
  clear hS' hth hcx hz0 hvn hV hC hr1 hr2 htl hmay
  go_enter Tryz.func29, Tryz.ntmps29
  go_wp2
  refine wp_scope_straight ?_
  go_wp2
  rw [← hw1]
  clear hw1
  refine wp_region_fan [0, 1, 2, 3, 5] [4, 6] [] [7] S' (by kernel_rfl) (by kernel_rfl) (HSI.out _ hdw) ?_
  simp only [pickL, List.filterMap_cons, List.filterMap_nil, List.getElem?_cons_succ, List.getElem?_cons_zero]
  iterate 5
    apply headK_step (by rfl)
    · intro w' hw'
      obtain ⟨⟨s0, s1⟩, s2, s3⟩ := HSE.out w' hw'
      go_simp
      rfl
    intro a' ha'
    simp only [Act.put, List.setIfInBounds_toArray, List.set_cons_succ, List.set_cons_zero] at ha'
    subst ha'
  refine headK_nil ?_
  rw [midF]
  intro K0 hK0
  have HK0 := hide hK0
  clear hK0
  go_simp
  have hB2 : Below w1.heap.size w1 (w1.alloc (.cells (zerosU tn) 50)).drew := Below.drew (below_box w1 _)
  have hZ2 := ((ownZ (B := w1.heap.size) w1 (Nat.le_refl _) tn (by omega)).belowN (Below.drew (Below.refl _ _))).at_
  refine HK0.out _ _ (HSI.out _ hB2) ?_
  clear HK0
  rw [midF]
  intro K0 hK0
  have HK0 := hide hK0
  clear hK0
  go_simp
  go_at_call 52
  refine (HMY.out _ _ (hb0.trans (hB2.mono hz1)) hZ2).mono ?_
  rintro e w2 ⟨rfl, hb2⟩
  have hB3 := hB2.trans (hb2.mono hB2.size)
  refine HK0.out _ _ (HSI.out _ hB3) ?_
  clear HK0 HSI HSE hZ2
  rw [midF]
  refine headK_nil ?_
  go_wp2
  refine NoPanic.normal ?_
  have hX2 := hX.belowN hB3
  have hY2 := hY.belowN hB3
  have hR2 := hR.belowN hB3
  have hBw2 := hb0.trans (hB3.mono hz1)
  have hz2 := hBw2.size
  have hlR := hR2.lt
  clear hmk hX hY hR hB2 hB3 hb2 hb0 HMY p0 p1 p2 p3 p4 p5 p6 p7 hdw hz1
  have hV3 := Blk.new w2 3 #[.int .i64 (vn : Int)]
  obtain ⟨v0, v1⟩ := hV3.c1
  have hbV := below_box w2 (.cells #[.int .i64 (vn : Int)] 3)
  go_wp2
  clear hvI v0 v1
  obtain ⟨w3, hw3⟩ : ∃ w3, w3 = w2.alloc (.cells #[.int .i64 (vn : Int)] 3) := ⟨_, rfl⟩
  have hs3 : w3.heap.size = w2.heap.size + 1 := by rw [hw3, World.size_alloc]
  have HS3 := hide hs3
  rw [← hw3] at hV3 hbV ⊢
  clear hw3 hs3
  have hX3 := hX2.belowN hbV
  have hY3 := hY2.belowN hbV
  have hR3 := hR2.belowN hbV
  have hBw3 := hBw2.trans (hbV.mono hz2)
  have hz3 := hBw3.size
  have hlR3 := hR3.lt
  have hlV := hV3.lt
  clear hX2 hY2 hR2 hBw2 hbV hlR
  go_loopw [14, 51] (fun rv iv wr => ∃ (i : Nat) (ra : Option Addr) (rc : Nat) (hs : List PoH), rv = .slice ra i rc ∧ iv = .int .i64 i ∧ i ≤ vn ∧ Own wr w3.heap.size 42 ra rc hs ∧ i = hs.length ∧ PsAt (fun q => ra.map (·.block) ≠ some q ∧ w3.heap.size ≤ q) wr (vn : Int) hs ((startP vn).take i) ∧ Below w3.heap.size w3 wr) (fun _ iv _ => vn - (intOf iv).toNat)
  case atStart =>
    refine ⟨0, none, 0, [], rfl, rfl, by omega, Own.none _ _ _, rfl, ?_, Below.refl _ _⟩
    rw [List.take_zero]
    exact PsAt.nil _ _ _
  case round =>
    obtain ⟨i, ra, rc, hs, rfl, rfl, hi, hown, hil, hP3, hb3⟩ := hrel
    have hz4 := hb3.size
    have hP4 := hP3.bounded
    obtain ⟨v0, v1⟩ := (hV3.belowN hb3).c1
    by_cases hlt : i < vn
    · obtain ⟨v2, v3, v4, v5⟩ := var_facts h64 hlt
      obtain ⟨LL, hL⟩ : ∃ L, varL (vn : Int) (i : Int) = L := ⟨_, rfl⟩
      have htk : (startP vn).take (i + 1) = (startP vn).take i ++ [LL] := by rw [List.take_add_one, startP_get hlt, hL]; rfl
      have HPV := hide (PVar_calls (vn : Int) (i : Int) wr (vn : Int) LL 0 v3 hL v2)
      have HTK := hide htk
      have HL1 := hide hil
      clear v2 v3 v4 v5 hL htk hP3 hil
      obtain ⟨w4, rfl⟩ : ∃ w4 : World, w4 = wr := ⟨_, rfl⟩
      go_wp2_with (first
        | (at_builtin; go_must (have hgd := hT9; refine wpList_push tyPo hown10 ⟨(vn : Int), a9, n9, c9⟩ rfl rfl rfl rfl rfl (by simp) HL1.out hz10 (by omega) ?_; intro a4 c4 w5 hown6 hg6 hcs6))
        | (go_at_call 41; go_must ((with_reducible refine (HPV.out).mono ?_); rintro vv w9 ⟨a9, n9, c9, rfl, hT9, hb9⟩; have hb10 := hb9.trans ((below_box w9 (.cells #[.int .i64 (vn : Int), .slice a9 n9 c9] 42)).mono hb9.size); have hown10 := hown.belowN hb10; have hz10 : w3.heap.size ≤ (w9.alloc (.cells #[.int .i64 (vn : Int), .slice a9 n9 c9] 42)).heap.size := (by have := hb10.size; omega); have hN10 := Blk.new w9 42 #[.int .i64 (vn : Int), .slice a9 n9 c9]; obtain ⟨n0, n1, n2, n3⟩ := hN10.c2)))
      have hb12 := below_push (hb3.trans (hb10.mono hz4)) hown10 hg6 hz10
      have hz9 := hb9.size
      have hP6 := ((hP4.belowN hb10).grown hg6 (fun q hq h => h.1.1 hq)).imp (Q := fun q => a4.map (·.block) ≠ some q ∧ w3.heap.size ≤ q) (fun q hq => ⟨ne_push hcs6 hq.1.1 (by have := hb10.size; omega), hq.1.2⟩)
      have hT10 := ((hT9.bounded.belowN (below_box w9 (.cells #[.int .i64 (vn : Int), .slice a9 n9 c9] 42))).grown hg6 (fun q hq h => by have := (hown.blk q hq).2; omega)).imp (Q := fun q => a4.map (·.block) ≠ some q ∧ w3.heap.size ≤ q) (fun q hq => ⟨ne_push hcs6 (fun e => by have := (hown.blk q e).2; omega) (by rw [World.size_alloc]; omega), by have := hq.1; omega⟩)
      go_roundw
      case rel =>
        refine ⟨i + 1, a4, c4, hs ++ [⟨(vn : Int), a9, n9, c9⟩], by go_num, by go_num, by omega, hown6, by have := HL1.out; simp; omega, ?_, hb12⟩
        rw [HTK.out]
        exact hP6.push rfl hT10
      case measure => simp [intOf] <;> omega
    · have hin : i = vn := by omega
      subst hin
      rw [List.take_of_length_le (by rw [startP_len]; exact Nat.le_refl _)] at hP4
      clear hP3
      have hne : hs ≠ [] := by rintro rfl; have := HVN.out; simp at hil; omega
      obtain ⟨gr, e1, hgB, hgz⟩ := hown.some_ hne
      subst e1
      have hcap := hown.cap
      have k1 : xn ≤ i := by have := HVN.out; omega
      have k2 : i ≤ rc := by omega
      have k3 : rc ≤ 9223372036854775807 := Nat.le_trans hcap.2 (by decide)
      have k4 : xn ≤ rc := by omega
      have hin : i - xn = tn := by have := HVN.out; omega
      have HIN := hide hin
      have HL1 := hide hil
      clear hin hil
      go_wp2
      go_region
      all_goals
        first
          | (have hN5 := ((Blk.new wr 27 #[.slice (some ⟨gr, 0, none⟩) xn xn]).alloc (.cells #[.slice (cutA (some ⟨gr, 0, none⟩) xn rc 2) (i - xn) (rc - xn)] 27)).belowN (Below.drew (Below.refl _ _))
             have hF5 := (Blk.new (wr.alloc (.cells #[.slice (some ⟨gr, 0, none⟩) xn xn] 27)) 27 #[.slice (cutA (some ⟨gr, 0, none⟩) xn rc 2) (i - xn) (rc - xn)]).belowN (Below.drew (Below.refl _ _))
             rw [World.size_alloc] at hF5
             have hb5 : Below wr.heap.size wr ((wr.alloc (.cells #[.slice (some ⟨gr, 0, none⟩) xn xn] 27)).alloc (.cells #[.slice (cutA (some ⟨gr, 0, none⟩) xn rc 2) (i - xn) (rc - xn)] 27)).drew := Below.drew ((below_box wr _).trans ((below_box (wr.alloc _) _).mono (by rw [World.size_alloc]; exact Nat.le_succ _)))
             obtain ⟨w5, hw5⟩ : ∃ W, W = ((wr.alloc (.cells #[.slice (some ⟨gr, 0, none⟩) xn xn] 27)).alloc (.cells #[.slice (cutA (some ⟨gr, 0, none⟩) xn rc 2) (i - xn) (rc - xn)] 27)).drew := ⟨_, rfl⟩
             obtain ⟨gF, hgF⟩ : ∃ g, g = wr.heap.size + 1 := ⟨_, rfl⟩
             obtain ⟨gN, hgN⟩ : ∃ g, g = wr.heap.size := ⟨_, rfl⟩
             rw [← hw5, ← hgF, ← hgN]
             rw [← hw5] at hN5 hF5 hb5
             rw [← hgF] at hF5
             rw [← hgN] at hN5
             have hgN0 : wr.heap.size ≤ gN := by omega
             have hgF0 : wr.heap.size ≤ gF := by omega
             have hNF : gN ≠ gF := by omega
             clear hw5 hgN hgF)
          | (have hF5 := ((Blk.new wr 27 #[.slice (cutA (some ⟨gr, 0, none⟩) xn rc 2) (i - xn) (rc - xn)]).alloc (.cells #[.slice (some ⟨gr, 0, none⟩) xn xn] 27)).belowN (Below.drew (Below.refl _ _))
             have hN5 := (Blk.new (wr.alloc (.cells #[.slice (cutA (some ⟨gr, 0, none⟩) xn rc 2) (i - xn) (rc - xn)] 27)) 27 #[.slice (some ⟨gr, 0, none⟩) xn xn]).belowN (Below.drew (Below.refl _ _))
             rw [World.size_alloc] at hN5
             have hb5 : Below wr.heap.size wr ((wr.alloc (.cells #[.slice (cutA (some ⟨gr, 0, none⟩) xn rc 2) (i - xn) (rc - xn)] 27)).alloc (.cells #[.slice (some ⟨gr, 0, none⟩) xn xn] 27)).drew := Below.drew ((below_box wr _).trans ((below_box (wr.alloc _) _).mono (by rw [World.size_alloc]; exact Nat.le_succ _)))
             obtain ⟨w5, hw5⟩ : ∃ W, W = ((wr.alloc (.cells #[.slice (cutA (some ⟨gr, 0, none⟩) xn rc 2) (i - xn) (rc - xn)] 27)).alloc (.cells #[.slice (some ⟨gr, 0, none⟩) xn xn] 27)).drew := ⟨_, rfl⟩
             obtain ⟨gN, hgN⟩ : ∃ g, g = wr.heap.size + 1 := ⟨_, rfl⟩
             obtain ⟨gF, hgF⟩ : ∃ g, g = wr.heap.size := ⟨_, rfl⟩
             rw [← hw5, ← hgN, ← hgF]
             rw [← hw5] at hN5 hF5 hb5
             rw [← hgN] at hN5
             rw [← hgF] at hF5
             have hgN0 : wr.heap.size ≤ gN := by omega
             have hgF0 : wr.heap.size ≤ gF := by omega
             have hNF : gN ≠ gF := by omega
             clear hw5 hgN hgF)
        rw [HIN.out] at hF5
        have hV5 := (hV3.belowN hb3).belowN hb5
        have hsz5 := hb5.size
        have hlN := hN5.lt
        have hBw5 := (hBw3.trans (hb3.mono hz3)).trans (hb5.mono (by omega))
        have hX5 := (hX3.belowN hb3).belowN hb5
        have hY5 := (hY3.belowN hb3).belowN hb5
        have hR5 := (hR3.belowN hb3).belowN hb5
        have hown5 := hown.belowN hb5
        have hatN := hown5.at_.takeN xn
        have hatF : At w5 (cutA (some ⟨gr, 0, none⟩) xn rc 2) (hs.drop xn) := hown5.at_.cut (by rw [← HL1.out]; exact k2)
        have hP5 := (hP4.belowN hb5).imp (Q := fun q => (q ≠ gN ∧ q ≠ w.heap.size + 1 + 1) ∧ q < w5.heap.size) (fun q hq => ⟨⟨by omega, by omega⟩, by omega⟩)
        have hPN := hP5.take xn
        have hPF := hP5.drop xn
        have hAll := startP_all h64
        have hAN : AllP (i : Int) ((startP i).take xn) := fun M hM => hAll M (List.mem_of_mem_take hM)
        have hAF : AllP (i : Int) ((startP i).drop xn) := fun M hM => hAll M (List.mem_of_mem_drop hM)
        have HF0 := hide (show FullAt (fun q => q ≠ gN ∧ q ≠ w.heap.size + 1 + 1) w5 gN gF w2.heap.size (some ⟨gr, 0, none⟩) (cutA (some ⟨gr, 0, none⟩) xn rc 2) xn tn xn (rc - xn) (hs.take xn) (hs.drop xn) i ((startP i).take xn) ((startP i).drop xn) from ⟨hN5, hF5, hV5, hatN, hatF, hPN, hPF⟩)
        have HNL0 := hide (show xn = (hs.take xn).length by rw [List.length_take, ← HL1.out]; omega)
        have HTL := hide (show tn = (hs.drop xn).length by rw [List.length_drop, ← HL1.out]; exact HIN.out.symm)
        have HFL := hide (show ((startP i).drop xn).length = tn by rw [← hPF.1]; exact HTL.out.symm)
        have hgr5 : gr ≠ gN := by omega
        have hfaN : (cutA (some ⟨gr, 0, none⟩) xn rc 2).map (·.block) ≠ some gN := by rw [cutA_block]; simpa using hgr5
        obtain ⟨w4, rfl⟩ : ∃ w4 : World, w4 = wr := ⟨_, rfl⟩
        have hb45 : Below w4.heap.size w4 w5 := hb5
        obtain ⟨fa, hfa⟩ : ∃ a, a = cutA (some ⟨gr, 0, none⟩) xn rc 2 := ⟨_, rfl⟩
        obtain ⟨fc, hfc⟩ : ∃ a, a = rc - xn := ⟨_, rfl⟩
        obtain ⟨hf, hhf⟩ : ∃ a, a = hs.drop xn := ⟨_, rfl⟩
        obtain ⟨gV, hgV⟩ : ∃ a, a = w2.heap.size := ⟨_, rfl⟩
        rw [← hfa, ← hfc, ← hhf, ← hgV] at HF0
        rw [← hfa] at hfaN
        rw [← hhf] at HTL
        rw [← hgV]
        have hgV4 : gV < w4.heap.size := by omega
        have hb5a : Below w4.heap.size w5 w5 := Below.refl _ _
        have hlF := hF5.lt
        clear hfa hfc hhf hatF hPN hPF hP5 hown5 hV5 hN5 hF5 hatN hP4 hX3 hY3 hR3 hV3 v0 v1 hb3 hown hAll hgV hBw3 hlV HS3 k1 k2 k3 k4 hcap hgB hne
        go_wp2
        go_step3
        go_wp2
        go_loopw [21, 74] (fun ev iv wr => ∃ (t : Nat) (a' : Option Addr) (c' : Nat) (hn : List PoH), ev = .int .i64 0 ∧ iv = .int .i64 t ∧ t ≤ ln ∧ xn = hn.length ∧ FullAt (fun q => q ≠ gN ∧ q ≠ w.heap.size + 1 + 1) wr gN gF gV a' fa xn tn c' fc hn hf i (c.iterC xn i t).2 ((startP i).drop xn) ∧ (c.iterC xn i t).1 = 0 ∧ AllP (i : Int) (c.iterC xn i t).2 ∧ a'.map (·.block) ≠ some gN ∧ Below w4.heap.size w5 wr) (fun _ iv _ => ln - (intOf iv).toNat)
        case atStart => exact ⟨0, _, _, _, rfl, rfl, by omega, HNL0.out, HF0.out, rfl, hAN, by simpa using hgr5, hb5a⟩
        case round =>
          obtain ⟨t, a', c', hn, rfl, rfl, htl, hhn, hFA, hi0, hAs, hne', hb6⟩ := hrel
          have hz6 := hb6.size
          have hB6 : Below w.heap.size w wr := hBw5.trans (hb6.mono (by omega))
          have hX6 := hX5.below hb6 (by omega)
          have hY6 := hY5.below hb6 (by omega)
          have hR6 := hR5.below hb6 (by omega)
          have HNL := hide (show (c.iterC xn i t).2.length = xn by rw [← hFA.pn.1]; exact hhn.symm)
          have HRGo := HRG.out
          by_cases hlt : t < ln
          · obtain ⟨⟨E1, R1⟩, hR1⟩ : ∃ x, runC c.p (i : Int) (t : Int) (c.iterC xn i t).2 ((startP i).drop xn) = x := ⟨_, rfl⟩
            obtain ⟨rg, hrg⟩ : ∃ n : Nat, c.p.regs = (n : Int) := ⟨c.p.regs.toNat, by omega⟩
            obtain ⟨k, hk⟩ : ∃ k : Nat, xn + tn + 1 + k = rg := ⟨rg - (xn + tn + 1), by have := HVN.out; omega⟩
            obtain ⟨w16, w17⟩ := wrap_u64 (t := t) (by omega)
            obtain ⟨tv, htv⟩ : ∃ tv, UInt64.ofNat t = tv := ⟨_, rfl⟩
            rw [htv] at w17
            have hwv : IntKind.u64.wrap (t : Int) = (tv.toNat : Int) := by rw [w16, w17]
            have hAF2 := fullS_all h64 c.p.regs (t : Int) hAs hAF
            have hFE0 : (c.iterC xn i t).2 ++ (startP i).drop xn ++ consS (i : Int) [tv] ++ List.replicate k [] = fullS c.p.regs (i : Int) (t : Int) (c.iterC xn i t).2 ((startP i).drop xn) := by
              rw [hrg, ← moreS_one htv]
              exact fullS_of (by rw [HNL.out, HFL.out, moreS_one htv]; exact hk)
            have hFE := hide hFE0
            clear hFE0
            have HCO := hide (fun (W : World) (a : Option Addr) (hW : At W a [tv]) => Consts_calls i h64 [tv] a 1 1 rfl W hW (by decide))
            have HFU := hide (fun (W : World) (a7 : Option Addr) (c7 : Nat) (h7 : List PoH) (hl7 : 1 = h7.length) (hW : Below wr.heap.size wr W) (hA7 : At W a7 h7) (hP7 : PsAt (fun q => (q ≠ gN ∧ q ≠ w.heap.size + 1 + 1) ∧ q < W.heap.size) W (i : Int) h7 (consS (i : Int) [tv])) =>
              FullM_calls (fun q => q ≠ gN ∧ q ≠ w.heap.size + 1 + 1) gN gF gV a' fa a7 xn tn 1 c' fc c7 hn hf h7 i h64 _ _ (consS (i : Int) [tv]) rg c.p.a c.p.l.length c.p.c hhn HTL.out hl7 k hk (by omega) W (hFA.belowN hW) hA7 hP7)
            rw [← hrg] at HFU
            have HAF := hide (fun (W : World) (a8 : Option Addr) (c8 : Nat) (h8 : List PoH) (hl8 : rg = h8.length) (hW : Below w.heap.size w W) (hA8 : At W a8 h8) (hP8 : PsAt (fun q => (q ≠ gN ∧ q ≠ w.heap.size + 1 + 1) ∧ q < W.heap.size) W (i : Int) h8 (fullS c.p.regs (i : Int) (t : Int) (c.iterC xn i t).2 ((startP i).drop xn))) =>
              MAftQ_calls (fun q => q ≠ gN ∧ q ≠ w.heap.size + 1 + 1) c.p i (t : Int) _ _ a8 rg c8 h8 hl8 W (hp.belowN hW) hpl hA8 hP8 hAF2 (by omega) E1 R1 hR1)
            have hsu := hide (c.iterC_succ xn i t hi0 hR1)
            have hA1 := runC_all h64 hAs hAF (by rw [HNL.out]; omega) hR1
            have HXR := hide (show E1 = 0 → xn ≤ R1.length from fun e0 => by
              subst e0
              rw [runC_len hR1]
              unfold fullS
              simp only [List.length_append]
              have := HNL.out
              omega)
            obtain ⟨S', hS'⟩ : ∃ S' : World → Prop, S' = fun w' => (w'.cell? ⟨w.heap.size, 0, none⟩ = some (.int .i64 c.p.regs) ∧ w'.cell? ⟨w.heap.size, 1, none⟩ = some (.slice c.p.a c.p.l.length c.p.c)) ∧ w'.cell? ⟨gV, 0, none⟩ = some (.int .i64 (i : Int)) := ⟨_, rfl⟩
            have HSE : Hid (∀ w', S' w' → (w'.cell? ⟨w.heap.size, 0, none⟩ = some (.int .i64 c.p.regs) ∧ w'.cell? ⟨w.heap.size, 1, none⟩ = some (.slice c.p.a c.p.l.length c.p.c)) ∧ w'.cell? ⟨gV, 0, none⟩ = some (.int .i64 (i : Int))) := hide (fun w' h => by rw [hS'] at h; exact h)
            have HSI : Hid (∀ w4, Below wr.heap.size wr w4 → S' w4) := hide (fun w4 h4 => by
              rw [hS']
              have a1 := (hX6.belowN h4).c2
              exact ⟨⟨a1.1, a1.2.1⟩, (hFA.v.belowN h4).c1.1⟩)
            clear hS'
            have hd6 : Below wr.heap.size wr wr.drew := Below.drew (Below.refl _ _)
            obtain ⟨r0, r1, r2, r3⟩ := hR6.c2
            clear hR1 hrg w16 w17 htv hAF2
            obtain ⟨w6, rfl⟩ : ∃ w6 : World, w6 = wr := ⟨_, rfl⟩
            have HHN := hide hhn
            have HK := hide hk
            have hzn : w4.heap.size ≤ w6.heap.size := by omega
            clear hhn hk
            go_wp2
            refine wp_region_fan [0, 1, 2, 3, 4, 5] [6, 7, 8, 9, 10] [11, 12] [13, 14] S' (by kernel_rfl) (by kernel_rfl) (HSI.out _ hd6) ?_
            simp only [pickL, List.filterMap_cons, List.filterMap_nil, List.getElem?_cons_succ, List.getElem?_cons_zero]
            iterate 6
              apply headK_step (by rfl)
              · intro w' hw'
                obtain ⟨⟨s0, s1⟩, s2⟩ := HSE.out w' hw'
                go_simp
                rfl
              intro a' ha'
              simp only [Act.put, List.setIfInBounds_toArray, List.set_cons_succ, List.set_cons_zero] at ha'
              subst ha'
            refine headK_nil ?_
            rw [midF]
            intro K0 hK0
            have HK0 := hide hK0
            clear hK0
            go_simp
            have hB7 : Below w6.heap.size w6 (w6.alloc (.cells #[.int .u64 (tv.toNat : Int)] 50)).drew := Below.drew (below_box w6 _)
            have hA7 : At (w6.alloc (.cells #[.int .u64 (tv.toNat : Int)] 50)).drew (some ⟨w6.heap.size, 0, none⟩) [tv] := (At.ofBlk (Blk.new w6 _ #[.int .u64 (tv.toNat : Int)]) _ rfl).belowN (Below.drew (Below.refl _ _))
            refine HK0.out _ _ (HSI.out _ hB7) ?_
            clear HK0
            rw [midF]
            intro K0 hK0
            have HK0 := hide hK0
            clear hK0
            go_simp
            go_at_call 61
            refine (HCO.out _ _ hA7).mono ?_
            rintro e w7 ⟨a7, c7, h7, rfl, hO7, hl7, hP7, hb7⟩
            have hB8 := hB7.trans (hb7.mono hB7.size)
            have hs7 := hB7.size
            have hP7' := hP7.bounded.imp (Q := fun q => (q ≠ gN ∧ q ≠ w.heap.size + 1 + 1) ∧ q < w7.heap.size) (fun q hq => ⟨⟨by have := hq.1; omega, by have := hq.1; omega⟩, hq.2⟩)
            refine HK0.out _ _ (HSI.out _ hB8) ?_
            clear HK0
            rw [midF]
            intro K0 hK0
            have HK0 := hide hK0
            clear hK0
            go_simp
            go_at_call 60
            refine (HFU.out w7 a7 c7 h7 hl7.symm hB8 hO7.at_ hP7').mono ?_
            rintro e w8 ⟨a8, c8, h8, rfl, hO8, hl8, hP8, hb8⟩
            have hB9 := hB8.trans (hb8.mono hB8.size)
            have hs8 := hB8.size
            rw [hFE.out] at hP8
            have hP8' := hP8.bounded.imp (Q := fun q => (q ≠ gN ∧ q ≠ w.heap.size + 1 + 1) ∧ q < w8.heap.size) (fun q hq => ⟨by rcases hq.1 with h | h; exact h; exact ⟨by omega, by omega⟩, hq.2⟩)
            refine HK0.out _ _ (HSI.out _ hB9) ?_
            clear HK0
            rw [midF]
            intro K0 hK0
            have HK0 := hide hK0
            clear hK0
            go_simp
            go_at_call 19
            refine (HAF.out w8 a8 c8 h8 hl8.symm (hB6.trans (hB9.mono hB6.size)) hO8.at_ hP8').mono ?_
            rintro e w9 ⟨a9, n9, c9, h9, rfl, hn9, hO9, hP9, hb9⟩
            have hs9 := hB9.size
            have hBX := hB9.trans (hb9.mono hB9.size)
            refine HK0.out _ _ (HSI.out _ hBX) ?_
            clear HK0
            rw [midF]
            intro K0 hK0
            have HK0 := hide hK0
            clear hK0
            go_simp
            refine HK0.out _ _ (HSI.out _ hBX) ?_
            clear HK0 HSI HSE
            rw [midF]
            iterate 2
              apply headK_step (by rfl)
              · intro w' _
                go_simp
                rfl
              intro a' ha'
              simp only [Act.put, List.setIfInBounds_toArray, List.set_cons_succ, List.set_cons_zero] at ha'
              subst ha'
            refine headK_nil ?_
            clear hB9
            have hB9 := hBX
            clear hBX HCO HFU HAF hP7 hP7' hP8 hP8' hO7 hO8 hA7 hB7 hB8 hb7 hb8
            by_cases hE1 : E1 = 0
            · subst hE1
              have hxR := HXR.out rfl
              rw [if_pos rfl] at hsu
              have HSU := hsu
              have hk9 : xn ≤ c9 := by have h7 := hO9.cap.1; have h8 := hP9.1; omega
              have hkn9 : xn ≤ n9 := by omega
              have hc9 : c9 ≤ 9223372036854775807 := Nat.le_trans hO9.cap.2 (by decide)
              have hN9 := hFA.n.belowN hB9
              obtain ⟨n0, n1⟩ := hN9.c1
              have hg9 := grown_setCell w9 gN 0 (.slice a9 xn c9)
              have hfar : a9.map (·.block) ≠ some gN := fun e => by have := (hO9.blk gN e).1; omega
              have HFA9 := hide (show FullAt (fun q => q ≠ gN ∧ q ≠ w.heap.size + 1 + 1) (w9.setCell ⟨gN, 0, none⟩ (.slice a9 xn c9)) gN gF gV a9 fa xn tn c9 fc (h9.take xn) hf i (R1.take xn) ((startP i).drop xn) from
                ⟨hN9.set_ 0 (.slice a9 xn c9), (hFA.f.belowN hB9).grown hg9 (fun e => by injection e with e; omega), (hFA.v.belowN hB9).grown hg9 (fun e => by injection e with e; omega), (hO9.at_.takeN xn).grown hg9 (fun _ => .inl hfar), (hFA.af.belowN hB9).grown hg9 (fun _ => .inl hfaN),
                 (((hP9.bounded.imp (Q := fun q => (q ≠ gN ∧ q ≠ w.heap.size + 1 + 1) ∧ q < w9.heap.size) (fun q hq => ⟨by rcases hq.1 with h | h; exact h; exact ⟨by omega, by omega⟩, hq.2⟩)).take xn).grown hg9 (fun g e hq => hq.1.1 (by injection e with e; exact e.symm))).imp (fun q hq => ⟨hq.1, Nat.lt_of_lt_of_le hq.2 hg9.size⟩),
                 ((hFA.pf.belowN hB9).grown hg9 (fun g e hq => hq.1.1 (by injection e with e; exact e.symm))).imp (fun q hq => ⟨hq.1, Nat.lt_of_lt_of_le hq.2 (Nat.le_trans hB9.size hg9.size)⟩)⟩)
              have HLX := hide (show xn = (h9.take xn).length by rw [List.length_take]; have h8 := hP9.1; omega)
              have hbF : Below w4.heap.size w5 (w9.setCell ⟨gN, 0, none⟩ (.slice a9 xn c9)) := (hb6.trans (hB9.mono hzn)).setCell (p := ⟨gN, 0, none⟩) hgN0 _
              clear hsu hn9
              go_wp2
              refine NoPanic.normal ?_
              go_wp2
              go_roundw
              case rel =>
                refine ⟨t + 1, a9, c9, h9.take xn, by go_num, by go_num, by omega, HLX.out, ?_, by rw [HSU.out], ?_, hfar, hbF⟩
                · rw [HSU.out]; exact HFA9.out
                · rw [HSU.out]; exact fun M hM => hA1 M (List.mem_of_mem_take hM)
              case measure => simp [intOf] <;> omega
            · rw [if_neg hE1] at hsu
              have hcb := c.compC_bad xn i ln (t + 1) (by omega) hsu.out hE1
              rw [HC.out] at hcb
              injection hcb with e1 e2
              subst e1 e2
              have hV := HV.out
              rw [if_neg hE1] at hV
              subst hV
              have e1 : (E == 0) = false := by simpa using hE1
              have e2 : (E != 0) = true := by simpa using hE1
              obtain ⟨q0, q1, q2, q3⟩ := (hR6.belowN hB9).c2
              clear hsu hE1 HV HC hn9 r0 r1 r2 r3
              go_wp2
              refine NoPanic.normal ?_
              go_wp2
              try rw [Exit.noGoto_ret]
              have hF := (((hR6.belowN hB9)).set_ 0 (.int .i64 0)).set_ 1 (.slice none 0 0)
              refine bodyPost_ret (results_rowP rfl _ _ (w.heap.size + 1 + 1) _ #[.int .i64 0, .slice none 0 0] (0, 0) _ rfl hF Tryz.underlying42 rfl (by kernel_rfl)) rfl ⟨none, 0, 0, rfl, TOut.nil _ _, ?_⟩
              exact ((hB6.trans (hB9.mono hB6.size)).setCell (p := ⟨w.heap.size + 1 + 1, 0, none⟩) hq3 _).setCell (p := ⟨w.heap.size + 1 + 1, 1, none⟩) hq3 _

          · have htl2 : t = ln := by omega
            subst htl2
            obtain ⟨⟨E2, R2⟩, hR2'⟩ : ∃ x, runC c.q (i : Int) (-1) (c.iterC xn i t).2 ((startP i).drop xn) = x := ⟨_, rfl⟩
            obtain ⟨rg, hrg⟩ : ∃ n : Nat, c.q.regs = (n : Int) := ⟨c.q.regs.toNat, by omega⟩
            obtain ⟨k, hk⟩ : ∃ k : Nat, xn + tn + 0 + k = rg := ⟨rg - (xn + tn), by have := HVN.out; omega⟩
            have hAF2 := fullS_all h64 c.q.regs (-1) hAs hAF
            have hFE0 : (c.iterC xn i t).2 ++ (startP i).drop xn ++ [] ++ List.replicate k [] = fullS c.q.regs (i : Int) (-1) (c.iterC xn i t).2 ((startP i).drop xn) := by
              rw [hrg, ← moreS_none (vn := i)]
              exact fullS_of (by rw [HNL.out, HFL.out, moreS_none]; exact hk)
            have hFE := hide hFE0
            clear hFE0
            have HFU := hide (fun (W : World) (hW : Below wr.heap.size wr W) =>
              FullM_calls (fun q => q ≠ gN ∧ q ≠ w.heap.size + 1 + 1) gN gF gV a' fa none xn tn 0 c' fc 0 hn hf [] i h64 _ _ [] rg c.q.a c.q.l.length c.q.c hhn HTL.out rfl k hk (by omega) W (hFA.belowN hW) (At.nil _ _) (PsAt.nil _ _ _))
            rw [← hrg] at HFU
            have HAF := hide (fun (W : World) (a8 : Option Addr) (c8 : Nat) (h8 : List PoH) (hl8 : rg = h8.length) (hW : Below w.heap.size w W) (hA8 : At W a8 h8) (hP8 : PsAt (fun q => (q ≠ gN ∧ q ≠ w.heap.size + 1 + 1) ∧ q < W.heap.size) W (i : Int) h8 (fullS c.q.regs (i : Int) (-1) (c.iterC xn i t).2 ((startP i).drop xn))) =>
              MAftQ_calls (fun q => q ≠ gN ∧ q ≠ w.heap.size + 1 + 1) c.q i (-1) _ _ a8 rg c8 h8 hl8 W (hq.belowN hW) hql hA8 hP8 hAF2 (by omega) E2 R2 hR2')
            have hce := c.compC_end xn i t hi0 hR2'
            rw [HC.out] at hce
            injection hce with e1 e2
            subst e1
            have HXR := hide (show E = 0 → 1 ≤ R2.length from fun e0 => by
              subst e0
              rw [runC_len hR2']
              unfold fullS
              simp only [List.length_append]
              have := HNL.out
              omega)
            have HE2 := hide e2
            obtain ⟨S', hS'⟩ : ∃ S' : World → Prop, S' = fun w' => (w'.cell? ⟨w.heap.size + 1, 0, none⟩ = some (.int .i64 c.q.regs) ∧ w'.cell? ⟨w.heap.size + 1, 1, none⟩ = some (.slice c.q.a c.q.l.length c.q.c)) ∧ w'.cell? ⟨gV, 0, none⟩ = some (.int .i64 (i : Int)) := ⟨_, rfl⟩
            have HSE : Hid (∀ w', S' w' → (w'.cell? ⟨w.heap.size + 1, 0, none⟩ = some (.int .i64 c.q.regs) ∧ w'.cell? ⟨w.heap.size + 1, 1, none⟩ = some (.slice c.q.a c.q.l.length c.q.c)) ∧ w'.cell? ⟨gV, 0, none⟩ = some (.int .i64 (i : Int))) := hide (fun w' h => by rw [hS'] at h; exact h)
            have HSI : Hid (∀ w4, Below wr.heap.size wr w4 → S' w4) := hide (fun w4 h4 => by
              rw [hS']
              have a1 := (hY6.belowN h4).c2
              exact ⟨⟨a1.1, a1.2.1⟩, (hFA.v.belowN h4).c1.1⟩)
            clear hS'
            have hd6 : Below wr.heap.size wr wr.drew := Below.drew (Below.refl _ _)
            clear hR2' hrg hAF2 HC e2
            obtain ⟨w6, rfl⟩ : ∃ w6 : World, w6 = wr := ⟨_, rfl⟩
            have hzn : w4.heap.size ≤ w6.heap.size := by omega
            clear hhn hk hi0
            go_wp2
            refine wp_region_fan [0, 1, 2] [3, 4, 5] [6, 7] [8, 9] S' (by kernel_rfl) (by kernel_rfl) (HSI.out _ hd6) ?_
            simp only [pickL, List.filterMap_cons, List.filterMap_nil, List.getElem?_cons_succ, List.getElem?_cons_zero]
            iterate 3
              apply headK_step (by rfl)
              · intro w' hw'
                obtain ⟨⟨s0, s1⟩, s2⟩ := HSE.out w' hw'
                go_simp
                rfl
              intro a' ha'
              simp only [Act.put, List.setIfInBounds_toArray, List.set_cons_succ, List.set_cons_zero] at ha'
              subst ha'
            refine headK_nil ?_
            rw [midF]
            intro K0 hK0
            have HK0 := hide hK0
            clear hK0
            go_simp
            go_at_call 60
            refine (HFU.out w6.drew hd6).mono ?_
            rintro e w8 ⟨a8, c8, h8, rfl, hO8, hl8, hP8, hb8⟩
            have hB9 := hd6.trans (hb8.mono hd6.size)
            have hs8 := hd6.size
            rw [hFE.out] at hP8
            have hP8' := hP8.bounded.imp (Q := fun q => (q ≠ gN ∧ q ≠ w.heap.size + 1 + 1) ∧ q < w8.heap.size) (fun q hq => ⟨by rcases hq.1 with h | h; exact h; exact ⟨by omega, by omega⟩, hq.2⟩)
            refine HK0.out _ _ (HSI.out _ hB9) ?_
            clear HK0
            rw [midF]
            intro K0 hK0
            have HK0 := hide hK0
            clear hK0
            go_simp
            go_at_call 19
            refine (HAF.out w8 a8 c8 h8 hl8.symm (hB6.trans (hB9.mono hB6.size)) hO8.at_ hP8').mono ?_
            rintro e w9 ⟨a9, n9, c9, h9, rfl, hn9, hO9, hP9, hb9⟩
            have hs9 := hB9.size
            have hBX := hB9.trans (hb9.mono hB9.size)
            refine HK0.out _ _ (HSI.out _ hBX) ?_
            clear HK0
            rw [midF]
            intro K0 hK0
            have HK0 := hide hK0
            clear hK0
            go_simp
            refine HK0.out _ _ (HSI.out _ hBX) ?_
            clear HK0 HSI HSE
            rw [midF]
            iterate 2
              apply headK_step (by rfl)
              · intro w' _
                go_simp
                rfl
              intro a' ha'
              simp only [Act.put, List.setIfInBounds_toArray, List.set_cons_succ, List.set_cons_zero] at ha'
              subst ha'
            refine headK_nil ?_
            clear hB9
            have hB9 := hBX
            clear hBX HFU HAF hP8 hP8' hO8 hb8
            obtain ⟨q0, q1, q2, q3⟩ := (hR6.belowN hB9).c2
            by_cases hE1 : E = 0
            · subst hE1
              have hxR := HXR.out rfl
              have hV := HV.out
              rw [if_pos rfl] at hV
              subst hV
              obtain ⟨b9, off9, y9, rfl, hy9, y0, y1⟩ := hO9.at_.getPo (Below.refl _ _) (k := 0) (by have h8 := hP9.1; omega)
              simp only [Nat.zero_mul, Nat.add_zero] at y0 y1
              have h00 : 0 < n9 := by omega
              obtain ⟨hv9, hT9⟩ := hP9.get hy9.out
              have hnP : ¬ ((w.heap.size + 1 + 1 ≠ gN ∧ w.heap.size + 1 + 1 ≠ w.heap.size + 1 + 1) ∨ w8.heap.size ≤ w.heap.size + 1 + 1) := by omega
              rw [hv9] at y0
              have hF := ((hR6.belowN hB9).set_ 0 (.int .i64 (i : Int))).set_ 1 (.slice y9.a y9.n y9.c)
              have hTf := ((hT9.setCell (g := w.heap.size + 1 + 1) (i := 0) (.int .i64 (i : Int)) hnP).setCell (g := w.heap.size + 1 + 1) (i := 1) (.slice y9.a y9.n y9.c) hnP).imp (Q := fun _ => True) (fun _ _ => trivial)
              clear hn9 hv9
              go_wp2
              refine NoPanic.normal ?_
              go_wp2
              try rw [Exit.noGoto_ret]
              refine bodyPost_ret (results_rowP rfl _ _ (w.heap.size + 1 + 1) _ #[.int .i64 (i : Int), .slice y9.a y9.n y9.c] (0, 0) _ rfl hF Tryz.underlying42 rfl (by kernel_rfl)) rfl ⟨y9.a, y9.n, y9.c, rfl, ?_, ?_⟩
              · rw [HE2.out]; first | rw [if_pos rfl] | rw [if_pos trivial]
                have e9 : R2.headD [] = R2.getD 0 [] := by cases R2 <;> rfl
                rw [e9]
                exact hTf
              · exact ((hB6.trans (hB9.mono hB6.size)).setCell (p := ⟨w.heap.size + 1 + 1, 0, none⟩) hq3 _).setCell (p := ⟨w.heap.size + 1 + 1, 1, none⟩) hq3 _
            · have e2 := HE2.out
              rw [if_neg hE1] at e2
              subst e2
              have hV := HV.out
              rw [if_neg hE1] at hV
              subst hV
              have e1 : (E == 0) = false := by simpa using hE1
              have e2 : (E != 0) = true := by simpa using hE1
              clear hE1 HV hn9 HE2 HXR
              go_wp2
              refine NoPanic.normal ?_
              go_wp2
              try rw [Exit.noGoto_ret]
              have hF := (((hR6.belowN hB9)).set_ 0 (.int .i64 0)).set_ 1 (.slice none 0 0)
              refine bodyPost_ret (results_rowP rfl _ _ (w.heap.size + 1 + 1) _ #[.int .i64 0, .slice none 0 0] (0, 0) _ rfl hF Tryz.underlying42 rfl (by kernel_rfl)) rfl ⟨none, 0, 0, rfl, TOut.nil _ _, ?_⟩
              exact ((hB6.trans (hB9.mono hB6.size)).setCell (p := ⟨w.heap.size + 1 + 1, 0, none⟩) hq3 _).setCell (p := ⟨w.heap.size + 1 + 1, 1, none⟩) hq3 _

end Go.Proofs.YtcamcnahkdiefaaGreat

/- Chapter 24: are chains so small that their polynomials are? -/
namespace Go.Proofs.YtcamcnahkdiefaaGreat
set_option linter.unusedVariables false
set_option linter.unusedSimpArgs false
open Go.RowKit
def lightB (c : ChD) (l : Int) : Bool :=
  if 30 < (c.p.l.length : Int) ∨ 30 < (c.q.l.length : Int) ∨ 3 < (c.th.length : Int) ∨ 3 < c.x then false
  else if sizeE c.p.l ≠ 0 ∨ sizeE c.q.l ≠ 0 ∨ l < 0 ∨ 65536 ≤ l then true
  else decide (l ≤ 6) && decide (sizeW c.p.l * l + sizeW c.q.l ≤ 7)
set_option maxRecDepth 100000 in
set_option maxHeartbeats 3200000 in
theorem Light24_calls (c : ChD) (ta : Option Addr) (tc : Nat) (hta : ta = none → c.th = []) (l : Int) (B : Bool) (hB : lightB c l = B) (w : World) (h : At w c.p.a c.p.l) (h' : At w c.q.a c.q.l) (hl : c.p.l.length ≤ 1000000) (hl' : c.q.l.length ≤ 1000000) (P Q E1 E2 : Int) (hP : sizeW c.p.l = P) (hQ : sizeW c.q.l = Q) (hE1 : sizeE c.p.l = E1) (hE2 : sizeE c.q.l = E2) :
    Calls Tryz.prog 28 #[.agg #[.int .i64 c.p.regs, .slice c.p.a c.p.l.length c.p.c, .int .i64 c.q.regs, .slice c.q.a c.q.l.length c.q.c, .int .i64 c.x, .slice ta c.th.length tc], .int .i64 l] w fun e w' => e = .returned (.bool B) ∧ Below w.heap.size w w' := by
  have hb0 := below_new w (.cells #[.int .i64 c.p.regs, .slice c.p.a c.p.l.length c.p.c, .int .i64 c.q.regs, .slice c.q.a c.q.l.length c.q.c, .int .i64 c.x, .slice ta c.th.length tc] 48)
  have hX := Blk.new w 48 #[.int .i64 c.p.regs, .slice c.p.a c.p.l.length c.p.c, .int .i64 c.q.regs, .slice c.q.a c.q.l.length c.q.c, .int .i64 c.x, .slice ta c.th.length tc]
  have hb1 := sizeW_bd c.p.l
  have hb2 := sizeW_bd c.q.l
  rw [hP] at hb1
  rw [hQ] at hb2
  have H1 := hide (fun (W : World) (k : At W c.p.a c.p.l) => SizeW_calls c.p.a c.p.c c.p.l W k hl)
  have H2 := hide (fun (W : World) (k : At W c.q.a c.q.l) => SizeW_calls c.q.a c.q.c c.q.l W k hl')
  simp only [hP, hE1] at H1
  simp only [hQ, hE2] at H2
  unfold lightB at hB
  rw [hP, hQ, hE1, hE2] at hB
  have HB := hide hB
  have HT2 : Hid (c.th.length = 0 ∨ ta.isSome = true) := hide (by
    cases ta with
    | none => exact .inl (by rw [hta rfl]; rfl)
    | some p => exact .inr rfl)
  have HPL := hide (show 0 ≤ l → l ≤ 6 → 0 ≤ P * l ∧ P * l ≤ 393216 from fun h0 h6 => ⟨Int.mul_nonneg hb1.1 h0, by have := Int.mul_le_mul hb1.2 h6 h0 (by omega : (0 : Int) ≤ 65536); omega⟩)
  clear hP hQ hE1 hE2 hB hta
  obtain ⟨x0, x1, x2, x3, x4, x5, x6, x7, x8, x9, x10, x11⟩ := hX.c6
  have h1 := h.belowN hb0
  have h2 := h'.belowN hb0
  go_enter Tryz.func28, Tryz.ntmps28
  go_wp2_with (go_at_call 58; go_must (first
    | ((with_reducible refine (H2.out _ h21).mono ?_); rintro e w2 ⟨rfl, hb4⟩; have hB2 := hB1.trans (hb4.mono hB1.size); obtain ⟨x0, x1, x2, x3, x4, x5, x6, x7, x8, x9, x10, x11⟩ := (hX1.belowN hb4).c6)
    | ((with_reducible refine (H1.out _ h1).mono ?_); rintro e w1 ⟨rfl, hb3⟩; have hB1 := hb0.trans (hb3.mono hb0.size); have hX1 := hX.belowN hb3; obtain ⟨x0, x1, x2, x3, x4, x5, x6, x7, x8, x9, x10, x11⟩ := hX1.c6; have h21 := h2.belowN hb3)))
  all_goals go_ret
  all_goals refine ⟨?_, hB2⟩
  all_goals rw [← HB.out]
  all_goals clear H1 H2 x0 x1 x2 x3 x4 x5 x6 x7 x8 x9 x10 x11 hX1 hX hB1 hB2 h21 hb3 hb4 hb0
  all_goals refine congrArg Ending.returned (congrArg Value.bool ?_)
  all_goals rcases HT2.out with hz | hz
  all_goals try (exact absurd hz (by assumption))
  all_goals first
    | (rw [if_pos (by omega)]; done)
    | (rw [if_neg (by omega), if_pos (by omega)]; done)
    | (rw [if_neg (by omega), if_neg (by omega), decide_eq_false (show ¬ l < 0 by omega), decide_eq_false (show ¬ 65536 ≤ l by omega), decide_eq_false (show ¬ l ≤ 6 by omega)]; try rfl
       done)
    | (rw [if_neg (by omega), if_neg (by omega), decide_eq_false (show ¬ l < 0 by omega), decide_eq_false (show ¬ 65536 ≤ l by omega), decide_eq_true (show l ≤ 6 by omega)]
       obtain ⟨m1, m2⟩ := HPL.out (by omega) (by omega)
       rw [IntWalk.wrap64_in (P * l) ⟨by omega, by omega⟩, IntWalk.wrap64_in (P * l + Q) ⟨by omega, by omega⟩]
       try rfl
       done)
    | skip
end Go.Proofs.YtcamcnahkdiefaaGreat

/- Chapter 24: model.Composite, whatever the arguments; the page's example, plain. -/
namespace Go.Proofs.YtcamcnahkdiefaaGreat
set_option linter.unusedVariables false
set_option linter.unusedSimpArgs false
open Go.RowKit
theorem dims_wrong {r1 r2 x t : Int} (h : t < 0 ∨ 64 < t) : dimsC r1 r2 x t = 10 := by
  unfold dimsC
  rw [if_pos (by omega)]
theorem bad_wrong (p q : PrD) (x t : Int) (h : t < 0 ∨ 64 < t) : (⟨p, q, x, List.replicate 65 0⟩ : ChD).bad ≠ 0 ∧ ∀ l, compS p q x t l = ((⟨p, q, x, List.replicate 65 0⟩ : ChD).bad, []) := by
  have e : (⟨p, q, x, List.replicate 65 0⟩ : ChD).bad = if pairS p q ≠ 0 then pairS p q else 10 := by
    unfold ChD.bad
    simp only [List.length_replicate]
    rw [dims_wrong (.inr (by decide))]
  rw [e]
  unfold compS
  rw [dims_wrong h]
  by_cases h1 : pairS p q ≠ 0
  · rw [if_pos h1]
    exact ⟨h1, fun l => by rw [if_pos h1]⟩
  · rw [if_neg h1]
    exact ⟨by decide, fun l => by rw [if_neg h1, if_pos (by decide)]⟩
theorem comp_may (p q : PrD) (x : Int) (tn : Nat) (l : Int) : ((mkC p q x (tn : Int)).mayM l ≠ 0 → compS p q x (tn : Int) l = ((mkC p q x (tn : Int)).mayM l, [])) ∧ ((mkC p q x (tn : Int)).mayM l = 0 → compS p q x (tn : Int) l = (mkC p q x (tn : Int)).compC x.toNat (x.toNat + tn) l.toNat) := by
  have eb : (mkC p q x (tn : Int)).bad = if pairS p q ≠ 0 then pairS p q else dimsC p.regs q.regs x (tn : Int) := by
    unfold ChD.bad
    simp [mkC]
  unfold ChD.mayM compS
  rw [eb]
  by_cases h1 : pairS p q ≠ 0
  · simp only [if_pos h1]
    exact ⟨fun _ => by first | rfl | trivial, fun h => absurd h h1⟩
  · simp only [if_neg h1]
    by_cases h2 : dimsC p.regs q.regs x (tn : Int) ≠ 0
    · simp only [if_pos h2]
      exact ⟨fun _ => by first | rfl | trivial, fun h => absurd h h2⟩
    · simp only [if_neg h2]
      by_cases h3 : l < 0 ∨ 65536 ≤ l
      · simp only [if_pos h3]
        exact ⟨fun _ => by first | rfl | trivial, fun h => by cases h⟩
      · simp only [if_neg h3]
        exact ⟨fun h => absurd rfl h, fun _ => by rw [Int.toNat_natCast]⟩
theorem MComp_calls (p q : PrD) (x t l : Int) (w : World) (hp : At w p.a p.l) (hpl : p.l.length ≤ 1000000) (hq : At w q.a q.l) (hql : q.l.length ≤ 1000000) (hx : -9223372036854775808 ≤ x ∧ x ≤ 9223372036854775807) (E : Int) (L : List Tm) (hC : compS p q x t l = (E, L)) (V : Int) (hV : (if E = 0 then x + t else 0) = V) :
    Calls Tryz.prog 29 #[.agg #[.int .i64 p.regs, .slice p.a p.l.length p.c], .agg #[.int .i64 q.regs, .slice q.a q.l.length q.c], .int .i64 x, .int .i64 t, .int .i64 l] w (PolyAll V L E w) := by
  by_cases hw : t < 0 ∨ 64 < t
  · obtain ⟨h0, h1⟩ := bad_wrong p q x t hw
    rw [h1 l] at hC
    injection hC with e1 e2
    subst e2
    rw [if_neg (by rw [← e1]; exact h0)] at hV
    subst hV
    by_cases h2 : t < 0
    · exact MComp_low p q x t l w hp hpl hq hql hx h2 E e1 (by rw [← e1]; exact h0)
    · exact MComp_high p q x t l w hp hpl hq hql hx h2 (by omega) (decide_eq_false h2) E e1 (by rw [← e1]; exact h0)
  · obtain ⟨tn, rfl⟩ : ∃ n : Nat, t = n := ⟨t.toNat, by omega⟩
    obtain ⟨h1, h2⟩ := comp_may p q x tn l
    by_cases hm : (mkC p q x (tn : Int)).mayM l = 0
    · rw [h2 hm] at hC
      obtain ⟨hO, hl0, hl1⟩ := ChD.mayM_ok hm
      have hx1 := hO.x1
      obtain ⟨xn, rfl⟩ : ∃ n : Nat, x = n := ⟨x.toNat, by have : (mkC p q x (tn : Int)).x = x := rfl; omega⟩
      obtain ⟨ln, rfl⟩ : ∃ n : Nat, l = n := ⟨l.toNat, by omega⟩
      simp only [Int.toNat_natCast] at hC
      exact MComp_good (mkC p q (xn : Int) (tn : Int)) hO xn tn ln (xn + tn) rfl rfl (mayC_th p q _ tn) (by omega) hm w hp hpl hq hql E L hC V (by rw [← hV]; simp)
    · rw [h1 hm] at hC
      injection hC with e1 e2
      subst e2
      rw [if_neg (by rw [← e1]; exact hm)] at hV
      subst hV
      exact MComp_bad (mkC p q x (tn : Int)) x tn rfl (mayC_th p q x tn) (by omega) l w hp hpl hq hql hx E e1 (by rw [← e1]; exact hm)
def exMP : Fo := .leaf ⟨3, 0, 0, 1, 0⟩ .nil
theorem exMP_good : Good 3 exMP := good_of_lit (by simp [exMP, Fo.ok]) (by decide)
theorem exMQ_good : Good 2 Fo.nil := good_of_lit (by simp [Fo.ok]) (by decide)
def ex24 (a : Option Addr) : ChD := ⟨⟨3, a, 1, exMP.flat⟩, ⟨2, none, 0, []⟩, 1, [3]⟩
theorem ex24_pair (a : Option Addr) : pairS (ex24 a).p (ex24 a).q = 0 := pairS_of exMP_good.check exMQ_good.check
theorem ex24_bad (a : Option Addr) : (ex24 a).bad = 0 := by
  unfold ChD.bad
  rw [if_neg (by simpa using ex24_pair a)]
  rfl
theorem ex24_may (a : Option Addr) : (ex24 a).mayM 4 = 0 := by
  unfold ChD.mayM
  rw [if_neg (by simpa using ex24_bad a)]
  rfl
theorem ex24_step (a : Option Addr) (t : Nat) (x f : DuD) : (ex24 a).dstep t [x] [f] = [mulD x f] := by
  unfold ChD.dstep
  show (dualR 3 exMP.flat ([x] ++ [f] ++ [(⟨UInt64.ofNat t, 0⟩ : DuD)])).take 1 = _
  rw [dualR_good exMP_good (by simp)]
  rfl
theorem ex24_loss (a : Option Addr) (x f : DuD) : (ex24 a).dloss [x] [f] = x := by
  unfold ChD.dloss
  show (dualR 2 Fo.nil.flat ([x] ++ [f])).getD 0 ⟨0, 0⟩ = _
  rw [dualR_good exMQ_good (by simp)]
  rfl
theorem ex24_pass (a : Option Addr) (x f : DuD) : (ex24 a).dpass [x] [f] 4 = mulD (mulD (mulD (mulD x f) f) f) f := by
  unfold ChD.dpass
  have h : (ex24 a).diter [x] [f] 4 = [mulD (mulD (mulD (mulD x f) f) f) f] := by
    simp only [ChD.diter, ex24_step]
  rw [h, ex24_loss]
theorem ex24_at0 (a : Option Addr) : (ex24 a).passAt [5] 4 0 = ⟨405, 81⟩ := by
  unfold ChD.passAt
  show (ex24 a).dpass [⟨5, 1⟩] [⟨3, 0⟩] 4 = _
  rw [ex24_pass]
  rfl
theorem ex24_at1 (a : Option Addr) : (ex24 a).passAt [5] 4 1 = ⟨405, 540⟩ := by
  unfold ChD.passAt
  show (ex24 a).dpass [⟨5, 0⟩] [⟨3, 1⟩] 4 = _
  rw [ex24_pass]
  rfl
theorem ex24_grad (a : Option Addr) : (ex24 a).gV [5] 4 = 405 ∧ (ex24 a).gX [5] 4 = [81] ∧ (ex24 a).gT [5] 4 = [540] := by
  refine ⟨?_, ?_, ?_⟩
  · unfold ChD.gV
    rw [if_pos (ex24_may a)]
    show ((ex24 a).passAt [5] 4 1).v = 405
    rw [ex24_at1]
  · unfold ChD.gX
    rw [if_pos (ex24_may a)]
    show [((ex24 a).passAt [5] 4 0).d] = _
    rw [ex24_at0]
  · unfold ChD.gT
    rw [if_pos (ex24_may a)]
    show [((ex24 a).passAt [5] 4 1).d] = _
    rw [ex24_at1]
theorem ex24_al (a : Option Addr) : (ex24 a).alD [5] 4 1 = ⟨405, 540⟩ ∧ (ex24 a).alE 1 4 1 = 0 := by
  have h : (ex24 a).alE 1 4 1 = 0 := by
    unfold ChD.alE
    rw [if_neg (by simpa using ex24_may a)]
    rfl
  refine ⟨?_, h⟩
  unfold ChD.alD
  show (if (ex24 a).alE 1 4 1 = 0 then (ex24 a).passAt [5] 4 1 else _) = _
  rw [h, if_pos rfl, ex24_at1]
theorem exC_key (a : Option Addr) (t : Int) (now fixed : List (List Tm)) (F : List (List Tm)) (hF : fullS 3 2 t now fixed = F) : runC ⟨3, a, 1, exMP.flat⟩ 2 t now fixed = if (F.length : Int) ≠ 3 then (10, []) else if okStart (((List.replicate F.length (2 : Int))).headD 0) (List.replicate F.length 2) F = false then (2, []) else runS (((List.replicate F.length (2 : Int))).headD 0) exMP.unroll F := by
  unfold runC
  dsimp only
  rw [hF]
  unfold afterS
  rw [exMP_good.check, unrS_good exMP_good]
  rfl
theorem exC_last (now fixed : List (List Tm)) (F : List (List Tm)) (hF : fullS 2 2 (-1) now fixed = F) : runC ⟨2, none, 0, []⟩ 2 (-1) now fixed = if (F.length : Int) ≠ 2 then (10, []) else if okStart (((List.replicate F.length (2 : Int))).headD 0) (List.replicate F.length 2) F = false then (2, []) else runS (((List.replicate F.length (2 : Int))).headD 0) Fo.nil.unroll F := by
  unfold runC
  dsimp only
  rw [hF]
  unfold afterS
  rw [show checkS 2 ([] : List OpD) = 0 from exMQ_good.check, show unrS 2 ([] : List OpD) = Fo.nil.unroll from unrS_good exMQ_good]
  rfl
theorem exC_comp (a : Option Addr) : compS ⟨3, a, 1, exMP.flat⟩ ⟨2, none, 0, []⟩ 1 1 4 = (0, [(1, [1, 4])]) := by
  have hm := ex24_may a
  have h := (comp_may ⟨3, a, 1, exMP.flat⟩ ⟨2, none, 0, []⟩ 1 1 4).2 (by
    unfold ChD.mayM
    have hb : (mkC ⟨3, a, 1, exMP.flat⟩ ⟨2, none, 0, []⟩ 1 ((1 : Nat) : Int)).bad = 0 := by
      show (if pairS (ex24 a).p (ex24 a).q ≠ 0 then pairS (ex24 a).p (ex24 a).q else _) = _
      rw [if_neg (by simpa using ex24_pair a)]
      rfl
    rw [if_neg (by simpa using hb)]
    rfl)
  rw [show (((1 : Nat) : Int)) = 1 from rfl] at h
  rw [h]
  obtain ⟨c, hc⟩ : ∃ c, mkC ⟨3, a, 1, exMP.flat⟩ ⟨2, none, 0, []⟩ 1 1 = c := ⟨_, rfl⟩
  have hp : c.p = ⟨3, a, 1, exMP.flat⟩ := by rw [← hc]; rfl
  have hq : c.q = ⟨2, none, 0, []⟩ := by rw [← hc]; rfl
  rw [hc]
  have hfx : (startP 2).drop 1 = [[(1, [0, 1])]] := by kernel_rfl
  have i0 : c.iterC 1 2 0 = (0, [[(1, [1, 0])]]) := by
    show (0, (startP 2).take 1) = _
    kernel_rfl
  have step : ∀ (t : Nat) (k : Int), c.iterC 1 2 t = (0, [[(1, [1, k])]]) → ∀ R : List (List Tm), (∀ F, fullS 3 2 (t : Int) [[(1, [1, k])]] [[(1, [0, 1])]] = F → (if (F.length : Int) ≠ 3 then ((10 : Int), ([] : List (List Tm))) else if okStart (((List.replicate F.length (2 : Int))).headD 0) (List.replicate F.length 2) F = false then (2, []) else runS (((List.replicate F.length (2 : Int))).headD 0) exMP.unroll F) = (0, R)) → c.iterC 1 2 (t + 1) = (0, R.take 1) := by
    intro t k hi R hR
    have := c.iterC_succ 1 2 t (E := 0) (R := R) (by rw [hi]) (by
      rw [hp, hi, hfx]
      exact (exC_key a (t : Int) _ _ _ rfl).trans (hR _ rfl))
    rw [this, if_pos rfl]
  have i1 : c.iterC 1 2 1 = (0, [[(1, [1, 1])]]) := step 0 0 i0 [[(1, [1, 1])], [(1, [0, 1])], []] (by rintro F rfl; kernel_rfl)
  have i2 : c.iterC 1 2 2 = (0, [[(1, [1, 2])]]) := step 1 1 i1 [[(1, [1, 2])], [(1, [0, 1])], [(1, [0, 0])]] (by rintro F rfl; kernel_rfl)
  have i3 : c.iterC 1 2 3 = (0, [[(1, [1, 3])]]) := step 2 2 i2 [[(1, [1, 3])], [(1, [0, 1])], [(2, [0, 0])]] (by rintro F rfl; kernel_rfl)
  have i4 : c.iterC 1 2 4 = (0, [[(1, [1, 4])]]) := step 3 3 i3 [[(1, [1, 4])], [(1, [0, 1])], [(3, [0, 0])]] (by rintro F rfl; kernel_rfl)
  show c.compC 1 2 4 = _
  rw [c.compC_end 1 2 4 (E := 0) (R := [[(1, [1, 4])], [(1, [0, 1])]]) (by rw [i4]) (by
    rw [hq, i4, hfx]
    refine (exC_last _ _ _ rfl).trans ?_
    kernel_rfl), if_pos rfl]
  rfl
end Go.Proofs.YtcamcnahkdiefaaGreat

/- Chapter 24: the page's example, walked. -/
namespace Go.Proofs.YtcamcnahkdiefaaGreat
set_option linter.unusedVariables false
set_option linter.unusedSimpArgs false
open Go.RowKit
theorem ex24_MG (a xa ta : Option Addr) (W : World) (h1 : At W a exMP.flat) (h2 : At W xa [(5 : UInt64)]) (h3 : At W ta [(3 : UInt64)]) :
    Calls Tryz.prog 25 #[.agg #[.int .i64 3, .slice a 1 1], .agg #[.int .i64 2, .slice none 0 0], .slice xa 1 1, .slice ta 1 1, .int .i64 4] W fun e w' => ∃ a1 c1 a2 c2, e = .returned (.tuple #[.agg #[.int .u64 405, .slice a1 1 c1, .slice a2 1 c2], .int .i64 0]) ∧ At w' a1 [(81 : UInt64)] ∧ At w' a2 [(540 : UInt64)] ∧ Below W.heap.size W w' := by
  have h := MGrad_calls (ex24 a) [5] 1 1 rfl rfl rfl (by decide) (by decide) 4 xa 1 ta 1 W h2 h3 h1 (by show 1 ≤ 1000000; decide) (At.nil _ _) (by show 0 ≤ 1000000; decide)
  obtain ⟨e1, e2, e3⟩ := ex24_grad a
  rw [e1, e2, e3, ex24_may] at h
  refine h.mono ?_
  rintro e w' ⟨a1, n1, c1, a2, n2, c2, rfl, hn1, hn2, hX, hT, hb⟩
  subst hn1 hn2
  exact ⟨a1, c1, a2, c2, rfl, hX.at_, hT.at_, hb⟩
theorem ex24_MA (a xa ta : Option Addr) (W : World) (h1 : At W a exMP.flat) (h2 : At W xa [(5 : UInt64)]) (h3 : At W ta [(3 : UInt64)]) :
    Calls Tryz.prog 23 #[.agg #[.int .i64 3, .slice a 1 1], .agg #[.int .i64 2, .slice none 0 0], .slice xa 1 1, .slice ta 1 1, .int .i64 4, .int .i64 1] W fun e w' => e = .returned (.tuple #[.int .u64 405, .int .u64 540, .int .i64 0]) ∧ Below W.heap.size W w' :=
  MAlong_calls (ex24 a) [5] 1 1 rfl rfl rfl (by decide) (by decide) 4 1 xa 1 ta 1 W h2 h3 h1 (by show 1 ≤ 1000000; decide) (At.nil _ _) (by show 0 ≤ 1000000; decide) 405 540 0 (ex24_al a).1 (ex24_al a).2
theorem ex24_MC (a : Option Addr) (W : World) (h1 : At W a exMP.flat) :
    Calls Tryz.prog 29 #[.agg #[.int .i64 3, .slice a 1 1], .agg #[.int .i64 2, .slice none 0 0], .int .i64 1, .int .i64 1, .int .i64 4] W fun e w' => ∃ a1 c1, e = .returned (.tuple #[.agg #[.int .i64 2, .slice a1 1 c1], .int .i64 0]) ∧ Below W.heap.size W w' := by
  refine (MComp_calls ⟨3, a, 1, exMP.flat⟩ ⟨2, none, 0, []⟩ 1 1 4 W h1 (by show 1 ≤ 1000000; decide) (At.nil _ _) (by show 0 ≤ 1000000; decide) (by decide) 0 [(1, [1, 4])] (exC_comp a) 2 rfl).mono ?_
  rintro e w' ⟨a1, n1, c1, rfl, hT, hb⟩
  obtain rfl : n1 = 1 := hT.len
  exact ⟨a1, c1, rfl, hb⟩
theorem ex24_same (a1 a2 b1 b2 : Option Addr) (c1 c2 : Nat) (W : World) (h1 : At W a1 [(81 : UInt64)]) (h2 : At W a2 [(540 : UInt64)]) (h3 : At W b1 [(81 : UInt64)]) (h4 : At W b2 [(540 : UInt64)]) :
    Calls Tryz.prog 27 #[.agg #[.int .u64 405, .slice a1 1 c1, .slice a2 1 c2], .agg #[.int .u64 405, .slice b1 1 1, .slice b2 1 1]] W fun e w' => e = .returned (.bool true) ∧ Below W.heap.size W w' :=
  Same24_calls 405 [81] [540] a1 a2 b1 b2 1 1 1 1 c1 c2 1 1 rfl rfl rfl rfl W h1 h2 h3 h4 (by decide) (by decide)
theorem two_words (W : World) (n : Nat) (hn : W.heap.size = n) (u v : UInt64) : At ((W.alloc (.cells #[.int .u64 (u.toNat : Int)] 50)).alloc (.cells #[.int .u64 (v.toNat : Int)] 50)) (some ⟨n, 0, none⟩) [u] ∧ At ((W.alloc (.cells #[.int .u64 (u.toNat : Int)] 50)).alloc (.cells #[.int .u64 (v.toNat : Int)] 50)) (some ⟨n + 1, 0, none⟩) [v] ∧ Below W.heap.size W ((W.alloc (.cells #[.int .u64 (u.toNat : Int)] 50)).alloc (.cells #[.int .u64 (v.toNat : Int)] 50)) := by
  subst hn
  have b1 := (Blk.new W 50 #[.int .u64 (u.toNat : Int)]).alloc (.cells #[.int .u64 (v.toNat : Int)] 50)
  have b2 := Blk.new (W.alloc (.cells #[.int .u64 (u.toNat : Int)] 50)) 50 #[.int .u64 (v.toNat : Int)]
  rw [World.size_alloc] at b2
  exact ⟨At.ofBlk b1 _ rfl, At.ofBlk b2 _ rfl, (below_box W _).alloc (by simp) _⟩
theorem ex24_ws (W : World) (n : Nat) (hn : W.heap.size = n) : At ((W.alloc (.cells #[.int .u64 5] 50)).alloc (.cells #[.int .u64 3] 50)) (some ⟨n, 0, none⟩) [(5 : UInt64)] ∧ At ((W.alloc (.cells #[.int .u64 5] 50)).alloc (.cells #[.int .u64 3] 50)) (some ⟨n + 1, 0, none⟩) [(3 : UInt64)] ∧ Below W.heap.size W ((W.alloc (.cells #[.int .u64 5] 50)).alloc (.cells #[.int .u64 3] 50)) := two_words W n hn 5 3
theorem ex24_us (W : World) (n : Nat) (hn : W.heap.size = n) : At ((W.alloc (.cells #[.int .u64 81] 50)).alloc (.cells #[.int .u64 540] 50)) (some ⟨n, 0, none⟩) [(81 : UInt64)] ∧ At ((W.alloc (.cells #[.int .u64 81] 50)).alloc (.cells #[.int .u64 540] 50)) (some ⟨n + 1, 0, none⟩) [(540 : UInt64)] ∧ Below W.heap.size W ((W.alloc (.cells #[.int .u64 81] 50)).alloc (.cells #[.int .u64 540] 50)) := two_words W n hn 81 540
set_option maxRecDepth 100000 in
set_option maxHeartbeats 6400000 in
theorem goes24_calls (w : World) : Calls Tryz.prog 22 #[] w fun v w' => v = .returned (.bool true) ∧ Below w.heap.size w w' := by
  obtain ⟨hO, hX, hY, hb0, hz0⟩ := three_boxes w 89 24 24 #[.int .i64 3, .int .i64 0, .int .i64 0, .int .i64 1, .int .u64 0] #[.int .i64 3, .slice (some ⟨w.heap.size, 0, none⟩) 1 1] #[.int .i64 2, .slice none 0 0]
  have hat : At (((w.alloc (.cells #[.int .i64 3, .int .i64 0, .int .i64 0, .int .i64 1, .int .u64 0] 89)).alloc (.cells #[.int .i64 3, .slice (some ⟨w.heap.size, 0, none⟩) 1 1] 24)).alloc (.cells #[.int .i64 2, .slice none 0 0] 24)) (some ⟨w.heap.size, 0, none⟩) exMP.flat := At.ofBlk hO _ rfl
  have HA := hide hat
  have HX := hide hX
  have HY := hide hY
  have HB0 := hide hb0
  have HZ := hide hz0
  obtain ⟨p0, p1, p2, p3⟩ := hX.c2
  obtain ⟨p4, p5, p6, p7⟩ := hY.c2
  clear hat hO hX hY hb0 hz0
  go_enter Tryz.func22, Tryz.ntmps22
  go_wp2_with (first
    | (go_at_call 27; go_must ((with_reducible refine (ex24_same a1 a2 _ _ c1 c2 _ ((hg13.belowN (below_box w3 _)).belowN (ex24_us _ _ (World.size_alloc _ _)).2.2) ((hg23.belowN (below_box w3 _)).belowN (ex24_us _ _ (World.size_alloc _ _)).2.2) (ex24_us _ _ (World.size_alloc _ _)).1 (ex24_us _ _ (World.size_alloc _ _)).2.1).mono ?_); rintro e w4 ⟨rfl, hb4⟩; have hN4 := (hN3.belowN (ex24_us _ _ (World.size_alloc _ _)).2.2).belowN hb4; obtain ⟨n4, n5, n6, n7⟩ := hN4.c2))
    | (go_at_call 29; go_must ((with_reducible refine (ex24_MC _ _ (HA.out.belowN hB2)).mono ?_); rintro e w3 ⟨a3, c3, rfl, hb3⟩; have hR3 := (hR2.belowN hb3).alloc (.cells #[.int .i64 2, .slice a3 1 c3] 42); have hN3 := Blk.new w3 42 #[.int .i64 2, .slice a3 1 c3]; obtain ⟨r0, r1, r2, r3, r4, r5⟩ := hR3.c3; obtain ⟨n0, n1, n2, n3⟩ := hN3.c2; have hg13 := hg12.belowN hb3; have hg23 := hg22.belowN hb3; have hB3 := hB2.trans (hb3.mono hB2.size)))
    | (go_at_call 23; go_must ((with_reducible refine (ex24_MA _ _ _ _ (HA.out.belowN (hBr.trans ((ex24_ws _ _ (World.size_alloc _ _)).2.2.mono hBr.size))) (ex24_ws _ _ (World.size_alloc _ _)).1 (ex24_ws _ _ (World.size_alloc _ _)).2.1).mono ?_); rintro e w2 ⟨rfl, hb2⟩; have hBs := hBr.trans ((ex24_ws (w1.alloc (.cells #[.int .u64 405, .slice a1 1 c1, .slice a2 1 c2] 56)) _ (World.size_alloc _ _)).2.2.mono hBr.size); have hB2 := hBs.trans (hb2.mono hBs.size); have hR2 := (hR1.belowN (ex24_ws (w1.alloc (.cells #[.int .u64 405, .slice a1 1 c1, .slice a2 1 c2] 56)) _ (World.size_alloc _ _)).2.2).belowN hb2; have hg12 := ((hg1.belowN (below_box w1 (.cells #[.int .u64 405, .slice a1 1 c1, .slice a2 1 c2] 56))).belowN (ex24_ws (w1.alloc (.cells #[.int .u64 405, .slice a1 1 c1, .slice a2 1 c2] 56)) _ (World.size_alloc _ _)).2.2).belowN hb2; have hg22 := ((hg2.belowN (below_box w1 (.cells #[.int .u64 405, .slice a1 1 c1, .slice a2 1 c2] 56))).belowN (ex24_ws (w1.alloc (.cells #[.int .u64 405, .slice a1 1 c1, .slice a2 1 c2] 56)) _ (World.size_alloc _ _)).2.2).belowN hb2; obtain ⟨q0, q1, q2, q3⟩ := (HX.out.belowN hB2).c2; obtain ⟨q4, q5, q6, q7⟩ := (HY.out.belowN hB2).c2))
    | (go_at_call 25; go_must ((with_reducible refine (ex24_MG _ _ _ _ (HA.out.belowN (ex24_ws _ _ HZ.out).2.2) (ex24_ws _ _ HZ.out).1 (ex24_ws _ _ HZ.out).2.1).mono ?_); rintro e w1 ⟨a1, c1, a2, c2, rfl, hg1, hg2, hb1⟩; have hB1 := (ex24_ws _ _ HZ.out).2.2.trans (hb1.mono (ex24_ws _ _ HZ.out).2.2.size); have hBr := hB1.trans ((below_box w1 (.cells #[.int .u64 405, .slice a1 1 c1, .slice a2 1 c2] 56)).mono hB1.size); have hR1 := Blk.new w1 56 #[.int .u64 405, .slice a1 1 c1, .slice a2 1 c2]; obtain ⟨q0, q1, q2, q3⟩ := (HX.out.belowN hBr).c2; obtain ⟨q4, q5, q6, q7⟩ := (HY.out.belowN hBr).c2)))
  go_ret
  have hBf := hB3.trans ((((below_box w3 (.cells #[.int .i64 2, .slice a3 1 c3] 42)).trans ((ex24_us _ _ (World.size_alloc _ _)).2.2.mono (by simp))).trans (hb4.mono (by have := (ex24_us (w3.alloc (.cells #[.int .i64 2, .slice a3 1 c3] 42)) _ (World.size_alloc _ _)).2.2.size; simp at this ⊢; omega))).mono hB3.size)
  exact ⟨rfl, HB0.out.trans (hBf.mono HB0.out.size)⟩
end Go.Proofs.YtcamcnahkdiefaaGreat

/- Chapter 24: a chain's loss as a polynomial is one that may be; the law ModelComposes, walked. -/
namespace Go.Proofs.YtcamcnahkdiefaaGreat
set_option linter.unusedVariables false
set_option linter.unusedSimpArgs false
open Go.RowKit
theorem At.nil_of {w : World} {a : Option Addr} {l : List UInt64} (h : At w a l) (e : a = none) : l = [] := by
  cases l with
  | nil => rfl
  | cons y r =>
    obtain ⟨b, off, e', _⟩ := h 0 y rfl
    rw [e] at e'
    cases e'
theorem fullS_ge (regs va t : Int) (now fixed : List (List Tm)) : now.length ≤ (fullS regs va t now fixed).length := by
  unfold fullS
  simp only [List.length_append]
  omega
theorem ChD.iterC_fine (c : ChD) (xn tn : Nat) (h64 : xn + tn ≤ 64) (hx : 1 ≤ xn) : ∀ t, (c.iterC xn (xn + tn) t).1 = 0 → (c.iterC xn (xn + tn) t).2.length = xn ∧ AllP ((xn + tn : Nat) : Int) (c.iterC xn (xn + tn) t).2
  | 0, _ => by
    show ((startP (xn + tn)).take xn).length = xn ∧ AllP _ ((startP (xn + tn)).take xn)
    exact ⟨by rw [List.length_take, startP_len]; omega, fun M hM => startP_all h64 M (List.mem_of_mem_take hM)⟩
  | t + 1, h => by
    by_cases h0 : (c.iterC xn (xn + tn) t).1 = 0
    · obtain ⟨h1, h2⟩ := ChD.iterC_fine c xn tn h64 hx t h0
      obtain ⟨⟨E, R⟩, hR⟩ : ∃ s, runC c.p ((xn + tn : Nat) : Int) (t : Int) (c.iterC xn (xn + tn) t).2 ((startP (xn + tn)).drop xn) = s := ⟨_, rfl⟩
      have hs := c.iterC_succ xn (xn + tn) t h0 hR
      rw [hs] at h ⊢
      simp only at h
      subst h
      rw [if_pos rfl]
      have hA := runC_all h64 h2 (fun M hM => startP_all h64 M (List.mem_of_mem_drop hM)) (by omega) hR
      have hl := runC_len hR
      have hg := fullS_ge c.p.regs ((xn + tn : Nat) : Int) (t : Int) (c.iterC xn (xn + tn) t).2 ((startP (xn + tn)).drop xn)
      exact ⟨by simp only [List.length_take]; omega, fun M hM => hA M (List.mem_of_mem_take hM)⟩
    · exfalso
      have := c.iterC_stay xn (xn + tn) t h0 1
      rw [this] at h
      exact h0 h
theorem ChD.compC_fine (c : ChD) (xn tn l : Nat) (h64 : xn + tn ≤ 64) (hx : 1 ≤ xn) {E : Int} {L : List Tm} (h : c.compC xn (xn + tn) l = (E, L)) : (E = 0 → checkP ((xn + tn : Nat) : Int) L = true) ∧ (E ≠ 0 → L = []) := by
  by_cases h0 : (c.iterC xn (xn + tn) l).1 = 0
  · obtain ⟨h1, h2⟩ := c.iterC_fine xn tn h64 hx l h0
    obtain ⟨⟨E', R⟩, hR⟩ : ∃ s, runC c.q ((xn + tn : Nat) : Int) (-1) (c.iterC xn (xn + tn) l).2 ((startP (xn + tn)).drop xn) = s := ⟨_, rfl⟩
    rw [c.compC_end xn (xn + tn) l h0 hR] at h
    injection h with e1 e2
    subst e1
    have hA := runC_all h64 h2 (fun M hM => startP_all h64 M (List.mem_of_mem_drop hM)) (by omega) hR
    refine ⟨fun h3 => ?_, fun h3 => ?_⟩
    · subst h3
      rw [if_pos rfl] at e2
      have hl := runC_len hR
      have hg := fullS_ge c.q.regs ((xn + tn : Nat) : Int) (-1) (c.iterC xn (xn + tn) l).2 ((startP (xn + tn)).drop xn)
      cases R with
      | nil =>
        exfalso
        have hl2 : 0 = _ := hl
        omega
      | cons r R => exact hA L (by rw [← e2]; simp)
    · rw [if_neg h3] at e2
      exact e2.symm
  · unfold ChD.compC at h
    rw [if_pos h0] at h
    injection h with e1 e2
    exact ⟨fun h3 => absurd (e1.trans h3) h0, fun _ => e2.symm⟩
theorem compS_fine {p q : PrD} {x t l E : Int} {L : List Tm} (h : compS p q x t l = (E, L)) : (E = 0 → checkP (x + t) L = true) ∧ (E ≠ 0 → L = []) := by
  unfold compS at h
  split at h
  · rename_i h1
    injection h with e1 e2
    exact ⟨fun h3 => absurd (e1.trans h3) h1, fun _ => e2.symm⟩
  · split at h
    · rename_i h1
      injection h with e1 e2
      exact ⟨fun h3 => absurd (e1.trans h3) h1, fun _ => e2.symm⟩
    · rename_i h1
      split at h
      · injection h with e1 e2
        exact ⟨fun h3 => by rw [← e1] at h3; exact absurd h3 (by decide), fun _ => e2.symm⟩
      · obtain ⟨a1, a2, a3, a4, a5, a6⟩ := dimsC_zero (Decidable.not_not.1 h1)
        rename_i h0 _
        have hO := mkC_ok (x := x) (t := t) (Decidable.not_not.1 h0) (Decidable.not_not.1 h1)
        obtain ⟨f, _, g⟩ := hO.hp
        have g2 : p.regs ≤ 64 := g.r2
        have h2 := (mkC p q x t).compC_fine x.toNat t.toNat l.toNat (by omega) (by omega) h
        rw [show ((x.toNat + t.toNat : Nat) : Int) = x + t by omega] at h2
        exact h2
end Go.Proofs.YtcamcnahkdiefaaGreat

/- Plain: what a chain's polynomial is at numbers, and its derivatives: what a pass of duals tells. -/
namespace Go.Proofs.YtcamcnahkdiefaaGreat
set_option linter.unusedVariables false
set_option linter.unusedSimpArgs false
open Go.RowKit
def duAt (xs : List UInt64) (j : Nat) (A : List Tm) : DuD := ⟨evalT xs A, dvT xs j A⟩
theorem map_duAt (xs : List UInt64) (j : Nat) (r : List (List Tm)) : r.map (duAt xs j) = zipD (r.map (evalT xs)) (r.map (dvT xs j)) := by
  unfold zipD
  rw [List.zipWith_map_left, List.zipWith_map_right, List.zipWith_self]
  rfl
theorem runS_du (xs : List UInt64) {va : Int} {j : Nat} (hj : (j : Int) < va) (l : List OpD) (r R : List (List Tm)) (hx : ∀ x ∈ l, (1 ≤ x.kind ∧ x.kind ≤ 6) ∧ x.a.toNat < r.length ∧ x.b.toNat < r.length) (hA : AllP va r) (h : runS va l r = (0, R)) :
    R.map (duAt xs j) = runD l (r.map (duAt xs j)) := by
  obtain ⟨h1, h2⟩ := runS_lin xs hj l r R hx hA h
  rw [map_duAt, map_duAt, runD_zip l (fun x hl => (hx x hl).1) _ _ (by simp), h1, h2]
theorem duAt_zero (xs : List UInt64) (j : Nat) : duAt xs j [] = ⟨0, 0⟩ := rfl
theorem duAt_const (xs : List UInt64) {n : Nat} (h : n ≤ 64) (j : Nat) (c : UInt64) : duAt xs j (mkL (n : Int) (constT (n : Int) c)) = ⟨c, 0⟩ := by
  have h' := (const_facts h c).1
  have hz : drvF j (monR xs) (List.replicate (n : Int).toNat 0) = 0 := by
    unfold drvF
    rw [if_neg]
    rw [List.getD_eq_getElem?_getD, List.getElem?_replicate]
    split <;> simp
  unfold duAt
  rw [dvT_lin]
  unfold evalT
  rw [lin_mkL _ h', lin_mkL _ h']
  simp only [constT, lin, monR_zero, hz]
  simp
theorem startP_du (xs : List UInt64) (h64 : xs.length ≤ 64) (j : Nat) : (startP xs.length).map (duAt xs j) = numD xs (j : Int) := by
  apply List.ext_getElem?
  intro k
  rw [List.getElem?_map]
  by_cases hk : k < xs.length
  · obtain ⟨v1, v2⟩ := var_lin xs (List.getElem?_eq_getElem hk) j
    rw [startP_get hk, (var_facts h64 hk).2.2.1, numD_get _ _ hk]
    unfold duAt numAt
    rw [Option.map_some, v1, v2, List.getD_eq_getElem?_getD, List.getElem?_eq_getElem hk]
    by_cases e : k = j
    · subst e; simp
    · rw [if_neg e, if_neg (by omega)]; rfl
  · rw [List.getElem?_eq_none (by rw [startP_len]; omega), List.getElem?_eq_none (by rw [numD_len]; omega)]; rfl
theorem fullS_du (xs : List UInt64) {n : Nat} (h : n ≤ 64) (j : Nat) (regs t : Int) (now fixed : List (List Tm)) :
    (fullS regs (n : Int) t now fixed).map (duAt xs j) = startD regs.toNat (now.map (duAt xs j) ++ fixed.map (duAt xs j) ++ (if t < 0 then [] else [(⟨UInt64.ofNat t.toNat, 0⟩ : DuD)])) := by
  have hm : (moreS (n : Int) t).map (duAt xs j) = if t < 0 then [] else [(⟨UInt64.ofNat t.toNat, 0⟩ : DuD)] := by
    unfold moreS
    split
    · rfl
    · rw [List.map_cons, duAt_const xs h]; rfl
  have hl : (now ++ fixed ++ moreS (n : Int) t).length = (now.map (duAt xs j) ++ fixed.map (duAt xs j) ++ (if t < 0 then [] else [(⟨UInt64.ofNat t.toNat, 0⟩ : DuD)])).length := by
    rw [← hm]; simp
  unfold fullS startD
  rw [List.map_append, List.map_append, List.map_append, hm, List.map_replicate, duAt_zero, hl]
theorem runC_du (xs : List UInt64) {n : Nat} (h : n ≤ 64) {j : Nat} (hj : j < n) {p : PrD} {f : Fo} (hp : p.l = f.flat) (g : Good p.regs f) (t : Int) {now fixed R : List (List Tm)} (hN : AllP (n : Int) now) (hF : AllP (n : Int) fixed) (h1 : 1 ≤ now.length)
    (hl : (now.length + fixed.length : Nat) + (if t < 0 then (0 : Int) else 1) ≤ p.regs) (hR : runC p (n : Int) t now fixed = (0, R)) :
    R.map (duAt xs j) = dualR p.regs p.l (now.map (duAt xs j) ++ fixed.map (duAt xs j) ++ (if t < 0 then [] else [(⟨UInt64.ofNat t.toNat, 0⟩ : DuD)])) := by
  have hlen : ((now.map (duAt xs j) ++ fixed.map (duAt xs j) ++ (if t < 0 then [] else [(⟨UInt64.ofNat t.toNat, 0⟩ : DuD)])).length : Int) ≤ p.regs := by
    split <;> rename_i h0
    · rw [if_pos h0] at hl; simp; omega
    · rw [if_neg h0] at hl; simp; omega
  have hA := fullS_all h p.regs t hN hF
  obtain ⟨m, hm⟩ : ∃ m, (fullS p.regs (n : Int) t now fixed).length = m + 1 := ⟨(fullS p.regs (n : Int) t now fixed).length - 1, by have := fullS_ge p.regs (n : Int) t now fixed; omega⟩
  unfold runC afterS at hR
  rw [hp, g.check, if_neg (by simp), unrS_good g] at hR
  rw [hm] at hR
  split at hR
  · cases hR
  · rename_i h2
    split at hR
    · cases hR
    · have h0 : (List.replicate (m + 1) (n : Int)).headD 0 = (n : Int) := rfl
      rw [h0] at hR
      have h3 := runS_du xs (va := (n : Int)) (j := j) (by omega) f.unroll _ R (fun x hx => by
        have k1 := (f.unroll_mem g.ok x hx).2
        have k2 := g.inR x hx
        have k3 : (((m + 1 : Nat)) : Int) = p.regs := Decidable.not_not.1 h2
        rw [hm]
        exact ⟨k1, by have := k2.2.1; omega, by have := k2.2.2; omega⟩) hA hR
      rw [h3, hp, dualR_good g hlen, fullS_du xs h]
theorem ChD.iterC_du (c : ChD) (hc : c.Ok) (xs : List UInt64) (xn tn : Nat) (hxs : xs.length = xn + tn) (hcx : c.x = (xn : Int)) (htn : tn = c.th.length) {j : Nat} (hj : j < xn + tn) (all : List UInt64) (hall : all = xs) : ∀ t, t < 65536 → (c.iterC xn (xn + tn) t).1 = 0 →
    (c.iterC xn (xn + tn) t).2.map (duAt xs j) = c.diter ((numD xs (j : Int)).take xn) ((numD xs (j : Int)).drop xn) t
  | 0, _, _ => by
    have h64 : xs.length ≤ 64 := by obtain ⟨f, _, g⟩ := hc.hp; have := g.r2; have := hc.r1; omega
    show ((startP (xn + tn)).take xn).map (duAt xs j) = (numD xs (j : Int)).take xn
    rw [List.map_take, ← hxs, startP_du xs h64]
  | t + 1, ht, h => by
    have h64 : xn + tn ≤ 64 := by obtain ⟨f, _, g⟩ := hc.hp; have := g.r2; have := hc.r1; omega
    have hx1 : 1 ≤ xn := by have := hc.x1; omega
    by_cases h0 : (c.iterC xn (xn + tn) t).1 = 0
    · obtain ⟨h1, h2⟩ := c.iterC_fine xn tn h64 hx1 t h0
      have ih := ChD.iterC_du c hc xs xn tn hxs hcx htn hj all hall t (by omega) h0
      obtain ⟨⟨E, R⟩, hR⟩ : ∃ s, runC c.p ((xn + tn : Nat) : Int) (t : Int) (c.iterC xn (xn + tn) t).2 ((startP (xn + tn)).drop xn) = s := ⟨_, rfl⟩
      have hs := c.iterC_succ xn (xn + tn) t h0 hR
      rw [hs] at h ⊢
      simp only at h
      subst h
      rw [if_pos rfl]
      obtain ⟨f, hf, g⟩ := hc.hp
      have hr := hc.r1
      have hfx : ((startP (xn + tn)).drop xn).length = tn := by rw [List.length_drop, startP_len]; omega
      have hd := runC_du xs h64 hj hf g (t : Int) h2 (fun M hM => startP_all h64 M (List.mem_of_mem_drop hM)) (by omega) (by rw [if_neg (by omega), h1, hfx]; omega) hR
      rw [if_neg (by omega), Int.toNat_natCast, ih, List.map_drop] at hd
      rw [show (startP (xn + tn)).map (duAt xs j) = numD xs (j : Int) by rw [← hxs]; exact startP_du xs (by omega) j] at hd
      show (R.take xn).map (duAt xs j) = c.dstep t _ _
      unfold ChD.dstep
      rw [List.map_take, hd]
      congr 1
      rw [← ih, List.length_map, h1]
    · exfalso
      have := c.iterC_stay xn (xn + tn) t h0 1
      rw [this] at h
      exact h0 h
theorem ChD.compC_du (c : ChD) (hc : c.Ok) (xs : List UInt64) (xn l : Nat) (hl : l < 65536) (hxn : xs.length = xn) (hcx : c.x = (xn : Int)) {L : List Tm} (h : c.compC xn (xn + c.th.length) l = (0, L)) {j : Nat} (hj : j < xn + c.th.length) :
    duAt (xs ++ c.th) j L = c.passAt xs l (j : Int) := by
  obtain ⟨tn, htn⟩ : ∃ tn, c.th.length = tn := ⟨_, rfl⟩
  rw [htn] at h hj
  have h64 : xn + tn ≤ 64 := by obtain ⟨f, _, g⟩ := hc.hp; have := g.r2; have := hc.r1; omega
  have hx1 : 1 ≤ xn := by have := hc.x1; omega
  have hall : (xs ++ c.th).length = xn + tn := by rw [List.length_append, hxn, htn]
  by_cases h0 : (c.iterC xn (xn + tn) l).1 = 0
  · obtain ⟨h1, h2⟩ := c.iterC_fine xn tn h64 hx1 l h0
    have ih := c.iterC_du hc (xs ++ c.th) xn tn hall hcx htn.symm hj _ rfl l hl h0
    obtain ⟨⟨E, R⟩, hR⟩ : ∃ s, runC c.q ((xn + tn : Nat) : Int) (-1) (c.iterC xn (xn + tn) l).2 ((startP (xn + tn)).drop xn) = s := ⟨_, rfl⟩
    rw [c.compC_end xn (xn + tn) l h0 hR] at h
    injection h with e1 e2
    subst e1
    rw [if_pos rfl] at e2
    obtain ⟨f, hf, g⟩ := hc.hq
    have hr := hc.r2
    have hfx : ((startP (xn + tn)).drop xn).length = tn := by rw [List.length_drop, startP_len]; omega
    have hd := runC_du (xs ++ c.th) h64 hj hf g (-1) h2 (fun M hM => startP_all h64 M (List.mem_of_mem_drop hM)) (by omega) (by rw [if_pos (by decide), h1, hfx]; omega) hR
    rw [if_pos (by decide), List.append_nil, ih, List.map_drop] at hd
    rw [show (startP (xn + tn)).map (duAt (xs ++ c.th) j) = numD (xs ++ c.th) (j : Int) by rw [← hall]; exact startP_du _ (by omega) j] at hd
    have ha := numS_all xs c.th (j : Int)
    have e3 : (numD (xs ++ c.th) (j : Int)).take xn = numS (xs ++ c.th) (j : Int) 0 xs.length := by
      rw [← ha]
      exact List.take_left' (by rw [numS_len, hxn])
    have e4 : (numD (xs ++ c.th) (j : Int)).drop xn = numS (xs ++ c.th) (j : Int) xs.length c.th.length := by
      rw [← ha]
      exact List.drop_left' (by rw [numS_len, hxn])
    unfold ChD.passAt ChD.dpass ChD.dloss
    rw [e3, e4] at hd
    rw [← hd, ← e2]
    cases R with
    | nil =>
      have := runC_len hR
      have := fullS_ge c.q.regs ((xn + tn : Nat) : Int) (-1) (c.iterC xn (xn + tn) l).2 ((startP (xn + tn)).drop xn)
      simp at *
      omega
    | cons r R => rfl
  · unfold ChD.compC at h
    rw [if_pos h0] at h
    injection h with e1 e2
    exact absurd e1 h0
theorem comp_congr (c d : ChD) (h1 : c.p = d.p) (h2 : c.q = d.q) (xn vn : Nat) : ∀ l, c.compC xn vn l = d.compC xn vn l := by
  have hi : ∀ t, c.iterC xn vn t = d.iterC xn vn t := by
    intro t
    induction t with
    | zero => rfl
    | succ t ih => simp only [ChD.iterC, ih, h1]
  intro l
  unfold ChD.compC
  rw [hi, h2]
end Go.Proofs.YtcamcnahkdiefaaGreat

/- Chapter 24: the law ModelFormal, walked. -/
namespace Go.Proofs.YtcamcnahkdiefaaGreat
set_option linter.unusedVariables false
set_option linter.unusedSimpArgs false
open Go.RowKit
theorem mkC_may (c : ChD) (l : Int) : (mkC c.p c.q c.x (c.th.length : Int)).mayM l = c.mayM l := by
  have e : (mkC c.p c.q c.x (c.th.length : Int)).bad = c.bad := by
    unfold ChD.bad
    simp [mkC]
  unfold ChD.mayM
  rw [e]
theorem formal_facts (c : ChD) (xs : List UInt64) (n : Nat) (hn : n = xs.length) (hcx : c.x = (n : Int)) (l : Int) {L : List Tm} (h : compS c.p c.q (n : Int) (c.th.length : Int) l = (0, L)) :
    c.mayM l = 0 ∧ n + c.th.length ≤ 64 ∧ checkP ((n : Int) + (c.th.length : Int)) L = true ∧ evalT (xs ++ c.th) L = c.gV xs l ∧ (c.gX xs l).length = n ∧ (c.gT xs l).length = c.th.length ∧ (∀ i, i < n → (c.gX xs l)[i]? = some (dvT (xs ++ c.th) i L)) ∧ ∀ i, i < c.th.length → (c.gT xs l)[i]? = some (dvT (xs ++ c.th) (n + i) L) := by
  obtain ⟨m1, m2⟩ := comp_may c.p c.q (n : Int) c.th.length l
  have hme := mkC_may c l
  rw [hcx] at hme
  rw [hme] at m1 m2
  have hm : c.mayM l = 0 := by
    by_cases h0 : c.mayM l = 0
    · exact h0
    · have := m1 h0
      rw [h] at this
      injection this with e1 e2
      exact absurd e1.symm h0
  obtain ⟨hO, hl0, hl1⟩ := ChD.mayM_ok hm
  have hC := m2 hm
  rw [h, Int.toNat_natCast] at hC
  have hC' : c.compC n (n + c.th.length) l.toNat = (0, L) := by
    rw [comp_congr c (mkC c.p c.q (n : Int) (c.th.length : Int)) rfl rfl]
    exact hC.symm
  have hck := (compS_fine h).1 rfl
  have hx1 := hO.x1
  have h64 : n + c.th.length ≤ 64 := by obtain ⟨f, _, g⟩ := hO.hp; have := g.r2; have := hO.r1; omega
  have hdu := fun j (hj : j < n + c.th.length) => c.compC_du hO xs n l.toNat (by omega) hn.symm hcx hC' hj
  have hd : ∀ j, j < n + c.th.length → (c.passAt xs l.toNat (j : Int)).d = dvT (xs ++ c.th) j L := fun j hj => by rw [← hdu j hj]; rfl
  refine ⟨hm, h64, hck, ?_, ?_, ?_, ?_, ?_⟩
  · unfold ChD.gV ChD.gradV
    rw [if_pos hm, ← hn, if_neg (by omega), ← hdu _ (by omega)]
    rfl
  · unfold ChD.gX
    rw [if_pos hm, ChD.gradL_len, hn]
  · unfold ChD.gT
    rw [if_pos hm, ChD.gradL_len]
  · intro i hi
    unfold ChD.gX ChD.gradL
    rw [if_pos hm, ← hn, List.getElem?_map, List.getElem?_range hi, Option.map_some, Nat.zero_add, hd i (by omega)]
  · intro i hi
    unfold ChD.gT ChD.gradL
    rw [if_pos hm, ← hn, List.getElem?_map, List.getElem?_range hi, Option.map_some, hd (n + i) (by omega)]
theorem eval_sort (xs : List UInt64) {va : Int} {M : List Tm} (h : rightL va M = true) : evalT xs (sortT M) = evalT xs M := by
  unfold evalT
  exact lin_sort _ _ (lenT_of_right h)
theorem derive_facts {va : Int} {L : List Tm} (h : checkP va L = true) (xs : List UInt64) (hx : (xs.length : Int) = va) {i : Nat} (hi : (i : Int) < va) :
    evalE va (sortT (drvT i L)) xs.length = 0 ∧ evalV va (sortT (drvT i L)) xs = dvT xs i L := by
  obtain ⟨_, _, _, _, d5⟩ := drv_facts h hi
  unfold evalE evalV
  rw [if_pos ⟨d5, hx⟩, if_pos ⟨d5, hx⟩]
  refine ⟨rfl, ?_⟩
  unfold dvT
  exact eval_sort xs (drvT_right (i := i) (checkP_ok h).right)
theorem At.cellU {w : World} {b off : Nat} {l : List UInt64} (h : At w (some ⟨b, off, none⟩) l) {k : Nat} {x : UInt64} (hx : l[k]? = some x) : w.cell? ⟨b, off + k, none⟩ = some (.int .u64 (x.toNat : Int)) := by
  obtain ⟨b', off', y, e, hy, c0⟩ := h.getU (Below.refl _ _) (List.getElem?_eq_some_iff.1 hx).1
  cases e
  obtain rfl : y = x := Option.some.inj (hy.out.symm.trans hx)
  exact c0
set_option maxRecDepth 100000 in
set_option maxHeartbeats 6400000 in
theorem ModelFormal_calls (c : ChD) (ta : Option Addr) (tc : Nat) (hta : ta = none → c.th = []) (a : Option Addr) (n k : Nat) (xs : List UInt64) (l : Int) (w : World) (h : At w c.p.a c.p.l) (h' : At w c.q.a c.q.l) (ht : At w ta c.th) (hat : At w a xs) (hn : n = xs.length) (hl : c.p.l.length ≤ 1000000) (hl' : c.q.l.length ≤ 1000000) (hx : -9223372036854775808 ≤ c.x ∧ c.x ≤ 9223372036854775807) (hnb : n ≤ 9223372036854775807) :
    Calls Tryz.prog 8 #[.agg #[.int .i64 c.p.regs, .slice c.p.a c.p.l.length c.p.c, .int .i64 c.q.regs, .slice c.q.a c.q.l.length c.q.c, .int .i64 c.x, .slice ta c.th.length tc], .slice a n k, .int .i64 l] w fun e w' => e = .returned (.bool true) ∧ Below w.heap.size w w' := by
  have hb0 := below_new w (.cells #[.int .i64 c.p.regs, .slice c.p.a c.p.l.length c.p.c, .int .i64 c.q.regs, .slice c.q.a c.q.l.length c.q.c, .int .i64 c.x, .slice ta c.th.length tc] 48)
  have hX := Blk.new w 48 #[.int .i64 c.p.regs, .slice c.p.a c.p.l.length c.p.c, .int .i64 c.q.regs, .slice c.q.a c.q.l.length c.q.c, .int .i64 c.x, .slice ta c.th.length tc]
  have h1 := h.belowN hb0
  have h2 := h'.belowN hb0
  cases hs : lightB c l with
  | false =>
    · have HS := hide hs
      clear hs hn
      go_enter Tryz.func8, Tryz.ntmps8
      go_wp2_with (first
        | (go_at_call 28; go_must ((with_reducible refine (Light24_calls c ta tc hta l false HS.out _ h1 h2 hl hl' _ _ _ _ rfl rfl rfl rfl).mono ?_); rintro e w1 ⟨rfl, hb1⟩; have hB1 := hb0.trans (hb1.mono hb0.size); have hz1 := hB1.size; obtain ⟨p0, p1, p2, p3, p4, p5, p6, p7, p8, p9, p10, p11⟩ := (hX.belowN hb1).c6))
        | (go_at_call 22; (with_reducible refine (goes24_calls _).mono ?_); rintro e w8 ⟨rfl, hbel8⟩))
      go_ret
      exact ⟨rfl, hB1.trans (hbel8.mono hz1)⟩
  | true =>
    have HTL := hide (show c.th.length ≤ 3 from by
      unfold lightB at hs
      split at hs
      · cases hs
      · rename_i h0; omega)
    have HS := hide hs
    have HN := hide hn
    clear hs hn
    by_cases hnx : ¬ (n : Int) = c.x
    · have u1 : ((n : Int) == c.x) = false := by simpa using hnx
      have u2 : ((n : Int) != c.x) = true := by simpa using hnx
      clear hnx
      go_enter Tryz.func8, Tryz.ntmps8
      go_wp2_with (first
        | (go_at_call 28; go_must ((with_reducible refine (Light24_calls c ta tc hta l true HS.out _ h1 h2 hl hl' _ _ _ _ rfl rfl rfl rfl).mono ?_); rintro e w1 ⟨rfl, hb1⟩; have hB1 := hb0.trans (hb1.mono hb0.size); have hz1 := hB1.size; obtain ⟨p0, p1, p2, p3, p4, p5, p6, p7, p8, p9, p10, p11⟩ := (hX.belowN hb1).c6))
        | (go_at_call 22; (with_reducible refine (goes24_calls _).mono ?_); rintro e w8 ⟨rfl, hbel8⟩))
      go_ret
      exact ⟨rfl, hB1.trans (hbel8.mono hz1)⟩
    have hcx : c.x = (n : Int) := (Decidable.not_not.1 hnx).symm
    clear hnx
    have ux : ((n : Int) != c.x) = false := by rw [hcx]; simp
    have HCX := hide hcx
    obtain ⟨tn, htn⟩ : ∃ tn, c.th.length = tn := ⟨_, rfl⟩
    have HTN := hide htn
    obtain ⟨⟨E, L⟩, hC⟩ : ∃ s, compS c.p c.q (n : Int) (tn : Int) l = s := ⟨_, rfl⟩
    obtain ⟨V, hV⟩ : ∃ V, (if E = 0 then (n : Int) + (tn : Int) else 0) = V := ⟨_, rfl⟩
    have HMC := hide (fun (W : World) (hW : Below w.heap.size w W) => MComp_calls c.p c.q (n : Int) (tn : Int) l W (h.belowN hW) hl (h'.belowN hW) hl' (by omega) E L hC V hV)
    by_cases hE : E ≠ 0
    · have e1 : (E == 0) = false := by simpa using hE
      have e2 : (E != 0) = true := by simpa using hE
      have hL := (compS_fine hC).2 hE
      subst hL
      rw [htn] at hX hb0 h1 h2 ⊢
      have HLI := hide (fun (W : World) (k1 : At W c.p.a c.p.l) (k2 : At W c.q.a c.q.l) => Light24_calls c ta tc hta l true HS.out W k1 k2 hl hl' _ _ _ _ rfl rfl rfl rfl)
      rw [htn] at HLI
      clear hC hV hE hcx htn
      go_enter Tryz.func8, Tryz.ntmps8
      go_wp2_with (first
        | (go_at_call 28; go_must ((with_reducible refine (HLI.out _ h1 h2).mono ?_); rintro e w1 ⟨rfl, hb1⟩; have hB1 := hb0.trans (hb1.mono hb0.size); obtain ⟨p0, p1, p2, p3, p4, p5, p6, p7, p8, p9, p10, p11⟩ := (hX.belowN hb1).c6))
        | (go_at_call 29; go_must ((with_reducible refine (HMC.out _ hB1).mono ?_); rintro e w2 ⟨a1, n1, c1, rfl, hT1, hb2⟩; obtain rfl : n1 = 0 := hT1.len; have hbx := below_box w2 (.cells #[.int .i64 V, .slice a1 0 c1] 42); have hB2 := (hB1.trans (hb2.mono hB1.size)).trans (hbx.mono (hB1.trans (hb2.mono hB1.size)).size); have hR2 := Blk.new w2 42 #[.int .i64 V, .slice a1 0 c1]; obtain ⟨x0, x1, x2, x3⟩ := hR2.c2))
        | (go_at_call 22; (with_reducible refine (goes24_calls _).mono ?_); rintro e w8 ⟨rfl, hbel8⟩))
      go_ret
      exact ⟨rfl, hB2.trans (hbel8.mono hB2.size)⟩
    have hE0 : E = 0 := Decidable.not_not.1 hE
    subst hE0
    rw [if_pos rfl] at hV
    subst hV
    have hC' := hC
    rw [← htn] at hC'
    obtain ⟨hm, h64, hck, hev, hgx, hgt, hGX, hGT⟩ := formal_facts c xs n HN.out hcx l hC'
    rw [htn] at h64 hck hgt hGT
    have hxa : (xs ++ c.th).length = n + tn := by rw [List.length_append, ← HN.out, htn]
    have hxa2 : ((xs ++ c.th).length : Int) = (n : Int) + (tn : Int) := by rw [hxa]; simp
    obtain ⟨k1, k2⟩ := checkP_len hck
    have HMG := hide (fun (W : World) (hW : Below w.heap.size w W) => MGrad_calls c xs n c.th.length HN.out hcx rfl (by omega) (by omega) l a k ta tc W (hat.belowN hW) (ht.belowN hW) (h.belowN hW) hl (h'.belowN hW) hl')
    obtain ⟨all, hall⟩ : ∃ all, xs ++ c.th = all := ⟨_, rfl⟩
    rw [hall] at hev hGX hGT hxa hxa2
    obtain ⟨G, hG⟩ : ∃ G, c.gV xs l = G := ⟨_, rfl⟩
    obtain ⟨GX, hGXe⟩ : ∃ G, c.gX xs l = G := ⟨_, rfl⟩
    obtain ⟨GT, hGTe⟩ : ∃ G, c.gT xs l = G := ⟨_, rfl⟩
    rw [hG, hGXe, hGTe, hm, htn] at HMG
    rw [hG] at hev
    rw [hGXe] at hgx hGX
    rw [hGTe] at hgt hGT
    have HEV := hide (fun (W : World) (a1 xa : Option Addr) (n1 c1 xc : Nat) (hT : TOut (fun _ => True) W a1 n1 c1 L) (hA : At W xa all) => Eval_calls ((n : Int) + (tn : Int)) a1 n1 c1 L hT.len xa (n + tn) xc all hxa.symm W hT.at_.at_ hA (by rw [hT.len]; exact k1) k2 G (by unfold evalV; rw [if_pos ⟨hck, hxa2⟩]; exact hev) 0 (by unfold evalE; rw [if_pos ⟨hck, by simp⟩]))
    have HDV := hide (fun (W : World) (a1 : Option Addr) (n1 c1 : Nat) (i : Nat) (hi : i < n + tn) (hT : TOut (fun _ => True) W a1 n1 c1 L) => PDrv_calls (fun _ => True) ((n : Int) + (tn : Int)) (i : Int) a1 n1 c1 L W hT (by rw [hT.len]; exact k1) k2 ((n : Int) + (tn : Int)) (sortT (drvT i L)) 0 (drv_facts hck (j := i) (by omega)).2.2.1 (drv_facts hck (j := i) (by omega)).2.2.2.1 (drv_facts hck (j := i) (by omega)).2.1)
    have HEW := hide (fun (W : World) (a1 xa : Option Addr) (n1 c1 xc : Nat) (i : Nat) (hi : i < n + tn) (P : Nat → Prop) (hT : TOut P W a1 n1 c1 (sortT (drvT i L))) (hA : At W xa all) (v : UInt64) (hv : dvT all i L = v) =>
      Eval_calls ((n : Int) + (tn : Int)) a1 n1 c1 (sortT (drvT i L)) hT.len xa (n + tn) xc all hxa.symm W hT.at_.at_ hA (by rw [hT.len]; exact (checkP_len (drv_facts hck (j := i) (by omega)).2.2.2.2).1) (checkP_len (drv_facts hck (j := i) (by omega)).2.2.2.2).2 v (by rw [← hv]; exact (derive_facts hck all hxa2 (i := i) (by omega)).2) 0 (by rw [← hxa]; exact (derive_facts hck all hxa2 (i := i) (by omega)).1))
    have HGX := hide hGX
    have HGT := hide hGT
    have HGL := hide (show n = GX.length ∧ tn = GT.length from ⟨hgx.symm, hgt.symm⟩)
    have HALL := hide hall
    have HLI := hide (fun (W : World) (k1 : At W c.p.a c.p.l) (k2 : At W c.q.a c.q.l) => Light24_calls c ta tc hta l true HS.out W k1 k2 hl hl' _ _ _ _ rfl rfl rfl rfl)
    rw [htn] at hX hb0 h1 h2 HLI ⊢
    have rg : ((G.toNat : Int) != (G.toNat : Int)) = false := by simp
    have hn9 : n ≤ 64 := by omega
    have ht9 : tn ≤ 64 := by omega
    clear hC hC' hE hcx hm hck hev hgx hgt hGX hGT hxa hxa2 k1 k2 hG hGXe hGTe hall htn
    go_enter Tryz.func8, Tryz.ntmps8
    go_wp2_with (first
      | (go_at_call 28; go_must ((with_reducible refine (HLI.out _ h1 h2).mono ?_); rintro e w1 ⟨rfl, hb1⟩; have hB1 := hb0.trans (hb1.mono hb0.size); obtain ⟨p0, p1, p2, p3, p4, p5, p6, p7, p8, p9, p10, p11⟩ := (hX.belowN hb1).c6))
      | (go_at_call 29; go_must ((with_reducible refine (HMC.out _ hB1).mono ?_); rintro e w2 ⟨a1, n1, c1, rfl, hT1, hb2⟩; have hC2 := hb1.trans (hb2.mono hb1.size); have hbx := below_box w2 (.cells #[.int .i64 ((n : Int) + (tn : Int)), .slice a1 n1 c1] 42); have hD2 := hC2.trans (hbx.mono hC2.size); have hB2 := hb0.trans (hD2.mono hb0.size); have hT2 := hT1.belowN hbx; have hR2 := Blk.new w2 42 #[.int .i64 ((n : Int) + (tn : Int)), .slice a1 n1 c1]; obtain ⟨x0, x1, x2, x3⟩ := hR2.c2; obtain ⟨q0, q1, q2, q3, q4, q5, q6, q7, q8, q9, q10, q11⟩ := (hX.belowN hD2).c6))
      | (go_at_call 25; go_must ((with_reducible refine (HMG.out _ hB2).mono ?_); rintro e w4 ⟨b1, m1, d1, b2, m2, d2, rfl, hn1, hn2, hg1, hg2, hb4⟩; obtain rfl : n = m1 := HGL.out.1.trans hn1.symm; obtain rfl : tn = m2 := HGL.out.2.trans hn2.symm; clear hn1 hn2; have hC4 := hD2.trans (hb4.mono hD2.size); have hby := below_box w4 (.cells #[.int .u64 (G.toNat : Int), .slice b1 n d1, .slice b2 tn d2] 56); have hD4 := hC4.trans (hby.mono hC4.size); have hB4 := hb0.trans (hD4.mono hb0.size); have hT4 := (hT2.belowN hb4).belowN hby; have hR4 := (hR2.belowN hb4).belowN hby; have hS4 := Blk.new w4 56 #[.int .u64 (G.toNat : Int), .slice b1 n d1, .slice b2 tn d2]; obtain ⟨y0, y1, y2, y3⟩ := hR4.c2; obtain ⟨z0, z1, z2, z3, z4, z5⟩ := hS4.c3; obtain ⟨r0, r1, r2, r3, r4, r5, r6, r7, r8, r9, r10, r11⟩ := (hX.belowN hD4).c6; have hA1 := hg1.at_.belowN hby; have hA2 := hg2.at_.belowN hby)))
    generalize hw5 : w4.alloc (.cells #[.int .u64 (G.toNat : Int), .slice b1 n d1, .slice b2 tn d2] 56) = w5 at *
    clear hw5 hb2 hb4 hb1 hbx hby hC2 hC4 hD2 hT1 hg1 hg2
    have hz5 := hB4.size
    obtain ⟨S', hS'⟩ : ∃ S' : World → Prop, S' = fun w' => w'.cell? ⟨w.heap.size, 5, none⟩ = some (.slice ta tn tc) := ⟨_, rfl⟩
    have HSE : Hid (∀ w', S' w' → w'.cell? ⟨w.heap.size, 5, none⟩ = some (.slice ta tn tc)) := hide (fun w' h => by rw [hS'] at h; exact h)
    have HSI : Hid (∀ w', Below w5.heap.size w5 w' → S' w') := hide (fun w' h4 => by
      rw [hS']
      obtain ⟨_, _, _, _, _, t5, _⟩ := ((hX.belowN hD4).belowN h4).c6
      exact t5)
    clear hS'
    have hdw : Below w5.heap.size w5 w5.drew := Below.drew (Below.refl _ _)
    have HHH := hide (fun (W : World) (hW : Below w5.heap.size w5 W) => (⟨hat.belowN (hB4.trans (hW.mono hz5)), ht.belowN (hB4.trans (hW.mono hz5))⟩ : At W a xs ∧ At W ta c.th))
    refine wp_region_fan [1, 3, 4] [0, 2, 5] [] [6] S' (by kernel_rfl) (by kernel_rfl) (HSI.out _ hdw) ?_
    simp only [pickL, List.filterMap_cons, List.filterMap_nil, List.getElem?_cons_succ, List.getElem?_cons_zero]
    iterate 3
      apply headK_step (by rfl)
      · intro w' hw'
        have s0 := HSE.out w' hw'
        go_simp
        rfl
      intro a' ha'
      simp only [Act.put, List.setIfInBounds_toArray, List.set_cons_succ, List.set_cons_zero] at ha'
      subst ha'
    refine headK_nil ?_
    rw [midF]
    intro K0 hK0
    have HK0 := hide hK0
    clear hK0
    go_simp
    have hB5 : Below w5.heap.size w5 (w5.alloc (.cells #[] 50)).drew := Below.drew (below_box w5 _)
    have hO5 : Own (w5.alloc (.cells #[] 50)).drew w5.heap.size 50 (some ⟨w5.heap.size, 0, none⟩) 0 ([] : List UInt64) := (Own.new w5 (Nat.le_refl _) 50 UInt64).belowN (Below.drew (Below.refl _ _))
    refine HK0.out _ _ (HSI.out _ hB5) ?_
    clear HK0
    rw [midF]
    intro K0 hK0
    have HK0 := hide hK0
    clear hK0
    refine step_pushAll (n := 0) (n2 := n) tyU hO5 (HHH.out _ hB5).1 rfl rfl rfl rfl rfl HN.out hB5.size (by omega) (by omega) ?_
    intro a6 c6 w6 hO6 hg6 hc6
    have hB6 := below_push hB5 hO5 hg6 hB5.size
    refine HK0.out _ _ (HSI.out _ hB6) ?_
    clear HK0
    rw [midF]
    intro K0 hK0
    have HK0 := hide hK0
    clear hK0
    have HL6 : Hid (0 + n = ([] ++ xs).length) := hide (by rw [List.nil_append, ← HN.out, Nat.zero_add])
    refine step_pushAll tyU hO6 (HHH.out _ hB6).2 rfl rfl rfl rfl HL6.out HTN.out.symm hB6.size (by omega) (by omega) ?_
    intro a8 c8 w8 hO8 hg8 hc8
    have hB8 := below_push hB6 hO6 hg8 hB6.size
    rw [show 0 + n + tn = n + tn by omega]
    refine HK0.out _ _ (HSI.out _ hB8) ?_
    clear HK0 HSI HSE
    rw [midF]
    refine headK_nil ?_
    have hA8 := hO8.at_
    rw [List.nil_append, HALL.out] at hA8
    have hz8 := hB8.size
    obtain ⟨y0, y1, y2, y3⟩ := (hR4.belowN hB8).c2
    obtain ⟨z0, z1, z2, z3, z4, z5⟩ := (hS4.belowN hB8).c3
    have hT8 := hT4.belowN hB8
    clear hO5 hO6 hO8 hg6 hg8 hc6 hc8 hB5 hB6 x0 x1 x2 x3 p0 p1 p2 p3 p4 p5 p6 p7 p8 p9 p10 p11 q0 q1 q2 q3 q4 q5 q6 q7 q8 q9 q10 q11 r0 r1 r2 r3 r4 r5 r6 r7 r8 r9 r10 r11 hdw
    go_wp2
    refine NoPanic.normal ?_
    go_wp2_with (go_at_call 34; go_must ((with_reducible refine (HEV.out _ a1 a8 n1 c1 c8 hT8 hA8).mono ?_); rintro e w9 ⟨rfl, hb9⟩; obtain ⟨t0, t1, t2, t3⟩ := ((hR4.belowN hB8).belowN hb9).c2; obtain ⟨u0, u1, u2, u3, u4, u5⟩ := ((hS4.belowN hB8).belowN hb9).c3))
    clear y0 y1 y2 y3 z0 z1 z2 z3 z4 z5 t0 t1 t2 t3 u0 u1 u2 u3 u4 u5
    go_loopw [14] (fun iv wr => ∃ (i : Nat), iv = .int .i64 i ∧ i ≤ n + tn ∧ Below w8.heap.size w8 wr) (fun iv _ => n + tn - (intOf iv).toNat)
    case atStart => exact ⟨0, rfl, by omega, hb9⟩
    case round =>
      obtain ⟨i, rfl, hi, hb69⟩ := hrel
      have hz6 := hb69.size
      obtain ⟨y0, y1, y2, y3⟩ := ((hR4.belowN hB8).belowN hb69).c2
      obtain ⟨z0, z1, z2, z3, z4, z5⟩ := ((hS4.belowN hB8).belowN hb69).c3
      have hT6 := hT8.belowN hb69
      by_cases hlt : i < n + tn
      · obtain ⟨y, hy⟩ : ∃ y, dvT all i L = y := ⟨_, rfl⟩
        have HY := hide hy
        have rgy : ((y.toNat : Int) != (y.toNat : Int)) = false := by simp
        by_cases hin : i < n
        · have hgy := HGX.out i hin
          rw [hy] at hgy
          have HGY := hide hgy
          obtain ⟨bb, off, _, rfl, _, _⟩ := hA1.getU (Below.refl _ _) (k := i) (by rw [← HGL.out.1]; exact hin)
          clear hy hgy
          obtain ⟨w7, rfl⟩ : ∃ w7 : World, w7 = wr := ⟨_, rfl⟩
          go_wp2_with (first
            | (go_at_call 34; go_must ((with_reducible refine (HEW.out _ a9 a8 n9 c9 c8 i hlt _ hT9 hA9 y HY.out).mono ?_); rintro e w10 ⟨rfl, hb10⟩; have hBX := hB9.trans (hb10.mono hB9.size); obtain ⟨t0, t1, t2, t3⟩ := ((hR4.belowN hB8).belowN hBX).c2; obtain ⟨u0, u1, u2, u3, u4, u5⟩ := ((hS4.belowN hB8).belowN hBX).c3; have f0 := ((hA1.belowN hB8).belowN hBX).cellU HGY.out))
            | (go_at_call 35; go_must ((with_reducible refine (HDV.out _ a1 n1 c1 i hlt hT6).mono ?_); rintro e w9 ⟨a9, n9, c9, rfl, hT9', hb9⟩; have hbz := below_box w9 (.cells #[.int .i64 ((n : Int) + (tn : Int)), .slice a9 n9 c9] 42); have hB9 := hb69.trans ((hb9.trans (hbz.mono hb9.size)).mono hz6); have hT9 := hT9'.belowN hbz; have hA9 := (hA8.belowN hb69).belowN (hb9.trans (hbz.mono hb9.size)); have hN9 := Blk.new w9 42 #[.int .i64 ((n : Int) + (tn : Int)), .slice a9 n9 c9]; obtain ⟨n0, n1', n2, n3⟩ := hN9.c2)))
          go_roundw
          case rel => exact ⟨i + 1, by go_num, by omega, hBX⟩
          case measure => simp [intOf] <;> omega
        · obtain ⟨m, hm0⟩ : ∃ m, i = n + m := ⟨i - n, by omega⟩
          have hgy := HGT.out m (by omega)
          rw [← hm0, hy] at hgy
          have HGY := hide hgy
          have hm : m < tn := by omega
          have hsub : (i : Int) - (n : Int) = (m : Int) := by omega
          obtain ⟨bb, off, _, rfl, _, _⟩ := hA2.getU (Below.refl _ _) (k := m) (by rw [← HGL.out.2]; exact hm)
          clear hy hgy hm0
          obtain ⟨w7, rfl⟩ : ∃ w7 : World, w7 = wr := ⟨_, rfl⟩
          go_wp2_with (first
            | (go_at_call 34; go_must ((with_reducible refine (HEW.out _ a9 a8 n9 c9 c8 i hlt _ hT9 hA9 y HY.out).mono ?_); rintro e w10 ⟨rfl, hb10⟩; have hBX := hB9.trans (hb10.mono hB9.size); obtain ⟨t0, t1, t2, t3⟩ := ((hR4.belowN hB8).belowN hBX).c2; obtain ⟨u0, u1, u2, u3, u4, u5⟩ := ((hS4.belowN hB8).belowN hBX).c3; have f0 := ((hA2.belowN hB8).belowN hBX).cellU HGY.out))
            | (go_at_call 35; go_must ((with_reducible refine (HDV.out _ a1 n1 c1 i hlt hT6).mono ?_); rintro e w9 ⟨a9, n9, c9, rfl, hT9', hb9⟩; have hbz := below_box w9 (.cells #[.int .i64 ((n : Int) + (tn : Int)), .slice a9 n9 c9] 42); have hB9 := hb69.trans ((hb9.trans (hbz.mono hb9.size)).mono hz6); have hT9 := hT9'.belowN hbz; have hA9 := (hA8.belowN hb69).belowN (hb9.trans (hbz.mono hb9.size)); have hN9 := Blk.new w9 42 #[.int .i64 ((n : Int) + (tn : Int)), .slice a9 n9 c9]; obtain ⟨n0, n1', n2, n3⟩ := hN9.c2)))
          go_roundw
          case rel => exact ⟨i + 1, by go_num, by omega, hBX⟩
          case measure => simp [intOf] <;> omega
      · have hin : i = n + tn := by omega
        subst hin
        obtain ⟨w7, rfl⟩ : ∃ w7 : World, w7 = wr := ⟨_, rfl⟩
        go_wp2_with (go_at_call 22; (with_reducible refine (goes24_calls _).mono ?_); rintro e w8 ⟨rfl, hbel8⟩)
        go_ret
        have hBf := (hB4.trans (hB8.mono hz5)).trans (hb69.mono (by omega))
        exact ⟨rfl, hBf.trans (hbel8.mono hBf.size)⟩
end Go.Proofs.YtcamcnahkdiefaaGreat
