/- Several texts of mine in one file. -/
import Derived.Test.YtcamcnahkdiefaaGreatYMNap
import Derived.Test.YtcamcnahkdiefaaGreatYMNag
/- symbol.After and the document's answer: of which blocks the results are. -/
namespace Go.Proofs.YtcamcnahkdiefaaGreat
set_option linter.unusedVariables false
set_option linter.unusedSimpArgs false
open Go.RowKit
set_option maxRecDepth 100000 in
set_option maxHeartbeats 6400000 in
theorem AfterQ_bad (regs : Int) (a : Option Addr) (c : Nat) (l : List OpD) (sa : Option Addr) (sn sc : Nat) (QP : Nat → Prop) (w : World) (h : At w a l) (hl : l.length ≤ 1000000) (hc : checkS regs l ≠ 0) (E va : Int) (hE : checkS regs l = E) :
    Calls Tryz.prog 19 #[.agg #[.int .i64 regs, .slice a l.length c], .slice sa sn sc] w (PolysOutQ QP va [] E w) := by
  have hb0 := below_box w (.cells #[.int .i64 regs, .slice a l.length c] 24)
  obtain ⟨p0, p1, p2, p3⟩ := (Blk.new w 24 #[.int .i64 regs, .slice a l.length c]).c2
  have HU := hide (UnrollR regs a c l _ [] E (unrS_bad hc) hE (h.belowN hb0) hl)
  have e1 : (E == 0) = false := by rw [← hE]; simpa using hc
  have e2 : (E != 0) = true := by rw [← hE]; simpa using hc
  clear hE hc
  go_enter Tryz.func19, Tryz.ntmps19
  go_wp2_with (go_at_call 17; go_must ((with_reducible refine (HU.out).mono ?_); rintro e w1 ⟨a1, c1, rfl, hown1, hb1⟩))
  go_ret2
  exact ⟨none, 0, 0, [], rfl, rfl, Own.none _ _ _, PsAt.nil _ _ _, hb0.trans (hb1.mono hb0.size)⟩
set_option maxRecDepth 100000 in
set_option maxHeartbeats 6400000 in
theorem AfterQ_dims (nr : Nat) (a : Option Addr) (c n : Nat) (f : Fo) (hn : n = f.flat.length) (g : Good (nr : Int) f) (sa : Option Addr) (sn sc : Nat) (hsn : sn ≠ nr) (QP : Nat → Prop) (w : World) (h : At w a f.flat) (va : Int) :
    Calls Tryz.prog 19 #[.agg #[.int .i64 (nr : Int), .slice a n c], .slice sa sn sc] w (PolysOutQ QP va [] 10 w) := by
  have hl : f.flat.length ≤ 4096 := g.len
  have hb0 := below_box w (.cells #[.int .i64 (nr : Int), .slice a n c] 24)
  have hX := Blk.new w 24 #[.int .i64 (nr : Int), .slice a n c]
  obtain ⟨p0, p1, p2, p3⟩ := hX.c2
  have HU := hide (UnrollR (nr : Int) a c f.flat _ f.unroll 0 (unrS_good g) g.check (h.belowN hb0) (by omega))
  rw [← hn] at HU
  obtain ⟨U, hU⟩ : ∃ U, f.unroll = U := ⟨_, rfl⟩
  rw [hU] at HU
  have d1 : ((sn : Int) != (nr : Int)) = true := by simp; omega
  have d2 : ((sn : Int) == (nr : Int)) = false := by simp; omega
  clear g hn hl hU h hsn
  go_enter Tryz.func19, Tryz.ntmps19
  go_wp2_with (go_at_call 17; go_must ((with_reducible refine (HU.out).mono ?_); rintro e w1 ⟨a1, c1, rfl, hown1, hb1⟩; obtain ⟨r0, r1, r2, r3⟩ := (hX.belowN hb1).c2))
  go_ret2
  exact ⟨none, 0, 0, [], rfl, rfl, Own.none _ _ _, PsAt.nil _ _ _, hb0.trans (hb1.mono hb0.size)⟩
set_option maxRecDepth 100000 in
set_option maxHeartbeats 6400000 in
theorem AfterQ_good (nr : Nat) (a : Option Addr) (c n : Nat) (f : Fo) (hn : n = f.flat.length) (g : Good (nr : Int) f) (sa : Option Addr) (sc : Nat) (hs : List PoH) (r : List (List Tm)) (hsn : nr = hs.length) (QP : Nat → Prop) (w : World) (h : At w a f.flat) (hst : At w sa hs) (hP : PsV (fun q => QP q ∧ q < w.heap.size) w hs r)
    (v0 : Int) (hv0 : (hs.map (·.v)).headD 0 = v0) (EE : Int) (RR : List (List Tm)) (hR : (if okStart v0 (hs.map (·.v)) r = false then (2, []) else runS v0 f.unroll r) = (EE, RR)) :
    Calls Tryz.prog 19 #[.agg #[.int .i64 (nr : Int), .slice a n c], .slice sa nr sc] w (PolysOutQ QP v0 RR EE w) := by
  have hl : f.flat.length ≤ 4096 := g.len
  have h1 : 1 ≤ nr := by have := g.r1; omega
  have h64 : nr ≤ 64 := by have := g.r2; omega
  have hb0 := below_box w (.cells #[.int .i64 (nr : Int), .slice a n c] 24)
  have hX := Blk.new w 24 #[.int .i64 (nr : Int), .slice a n c]
  obtain ⟨p0, p1, p2, p3⟩ := hX.c2
  have HU := hide (UnrollR (nr : Int) a c f.flat _ f.unroll 0 (unrS_good g) g.check (h.belowN hb0) (by omega))
  rw [← hn] at HU
  have HIN := hide (fun x hx => (⟨(f.unroll_mem g.ok x hx).2, g.inR x hx⟩ : (1 ≤ x.kind ∧ x.kind ≤ 6) ∧ InR (nr : Int) x))
  have hul := g.unroll_le
  obtain ⟨U, hU⟩ : ∃ U, f.unroll = U := ⟨_, rfl⟩
  rw [hU] at HU HIN hR hul
  obtain ⟨Bs, hBs⟩ : ∃ B, okStart v0 (hs.map (·.v)) r = B := ⟨_, rfl⟩
  rw [hBs] at hR
  have HR := hide hR
  have HSN := hide hsn
  have HP := hide hP
  have HBS := hide hBs
  have hlr : r.length = nr := by rw [← hP.1, hsn]
  obtain ⟨y0, hy0⟩ : ∃ y, hs[0]? = some y := ⟨hs[0]'(by omega), List.getElem?_eq_getElem _⟩
  have hyv : y0.v = v0 := by
    rw [← hv0]
    cases hs with
    | nil => simp at hy0
    | cons x t => simp at hy0; subst hy0; rfl
  have HLR := hide hlr
  have HY0 := hide hy0
  clear hR g hn hl hU h hsn hP hv0 hBs hlr hy0
  go_enter Tryz.func19, Tryz.ntmps19
  go_wp2_with (go_at_call 17; go_must ((with_reducible refine (HU.out).mono ?_); rintro e w1 ⟨a1, c1, rfl, hown1, hb1⟩; obtain ⟨r0, r1, r2, r3⟩ := (hX.belowN hb1).c2))
  have hB1 := hb0.trans (hb1.mono hb0.size)
  have hz1 := hB1.size
  go_loopw [27] (fun iv wr => ∃ (k : Nat), iv = .int .i64 k ∧ k ≤ nr ∧ Below w1.heap.size w1 wr ∧ okStart v0 ((hs.map (·.v)).drop k) (r.drop k) = Bs) (fun iv _ => nr - (intOf iv).toNat)
  case atStart => exact ⟨0, rfl, by omega, Below.refl _ _, by rw [List.drop_zero, List.drop_zero]; exact HBS.out⟩
  case round =>
    obtain ⟨k, rfl, hk, hb3, hok⟩ := hrel
    have hz3 := hb3.size
    have hBw := hB1.trans (hb3.mono hz1)
    by_cases hlt : k < nr
    · obtain ⟨b1, off1, y, rfl, hy, c0, c1⟩ := (hst.belowN hBw).getPo (Below.refl _ _) (k := k) (by rw [← HSN.out]; exact hlt)
      obtain ⟨bz, offz, yz, hez, hyz, c2, c3⟩ := (hst.belowN hBw).getPo (Below.refl _ _) (k := 0) (by rw [← HSN.out]; exact h1)
      cases hez
      obtain rfl : yz = y0 := Option.some.inj (hyz.out.symm.trans HY0.out)
      rw [hyv, Nat.zero_mul, Nat.add_zero] at c2
      obtain ⟨L, hL⟩ : ∃ L, r[k]? = some L := ⟨r[k]'(by have := HLR.out; omega), List.getElem?_eq_getElem _⟩
      obtain ⟨hTx, hn6, hl6⟩ := (HP.out).2 k y L hy.out hL
      rw [okStart_drop hy.out hL] at hok
      obtain ⟨C, hC⟩ : ∃ C, checkP y.v L = C := ⟨_, rfl⟩
      rw [hC] at hok
      have hbx : b1 < wr.heap.size := World.block_lt_of_cell? wr _ c0
      have HCK := hide (fun (W : World) (hW : Below w.heap.size w W) => Check_calls y.v y.a y.n y.c L hTx.len W (hTx.at_.at_.belowN hW) hn6 hl6 C hC)
      have HBW := hide hBw
      have HY := hide hy
      have HOK := hide hok
      have HL := hide hL
      clear hTx hn6 hl6 hL hC hyz hy hok
      obtain ⟨gx, hgx⟩ : ∃ gx, wr.heap.size = gx := ⟨_, rfl⟩
      have hXb := Blk.new wr 42 #[.int .i64 y.v, .slice y.a y.n y.c]
      have hdq : Below wr.heap.size wr (wr.alloc (.cells #[.int .i64 y.v, .slice y.a y.n y.c] 42)).drew := Below.drew (below_box wr _)
      rw [hgx] at hXb
      have hbq := hXb.lt
      have c9 := (cell_later (below_box wr (.cells #[.int .i64 y.v, .slice y.a y.n y.c] 42)) c2)
      have HSI : Hid (∀ w4, Below (wr.alloc (.cells #[.int .i64 y.v, .slice y.a y.n y.c] 42)).heap.size (wr.alloc (.cells #[.int .i64 y.v, .slice y.a y.n y.c] 42)) w4 → w4.cell? ⟨gx, 0, none⟩ = some (.int .i64 y.v) ∧ w4.cell? ⟨gx, 1, none⟩ = some (.slice y.a y.n y.c) ∧ w4.cell? ⟨b1, off1, none⟩ = some (.int .i64 v0)) := hide (fun w4 hb4 => by
        obtain ⟨y0, _⟩ := bcell hb4
        obtain ⟨n0, n1, n2, n3⟩ := hXb.c2
        exact ⟨(y0 _ _ hbq).trans n0, (y0 _ _ hbq).trans n1, (y0 _ _ (by have := World.size_alloc wr (.cells #[.int .i64 y.v, .slice y.a y.n y.c] 42); omega)).trans c9⟩)
      obtain ⟨n0, n1, n2, n3⟩ := hXb.c2
      have h00 : 0 < nr := h1
      have h01 : (0 : Int) < (nr : Int) := by omega
      have hfq := HBW.out.trans (hdq.mono HBW.out.size)
      have hid : Below (wr.alloc (.cells #[.int .i64 y.v, .slice y.a y.n y.c] 42)).heap.size (wr.alloc (.cells #[.int .i64 y.v, .slice y.a y.n y.c] 42)) (wr.alloc (.cells #[.int .i64 y.v, .slice y.a y.n y.c] 42)).drew := Below.drew (Below.refl _ _)
      have hend : ∀ w4, Below (wr.alloc (.cells #[.int .i64 y.v, .slice y.a y.n y.c] 42)).drew.heap.size (wr.alloc (.cells #[.int .i64 y.v, .slice y.a y.n y.c] 42)).drew w4 → Below w1.heap.size w1 w4 := fun w4 h4 => (hb3.trans (hdq.mono hz3)).trans (h4.mono (by have := hdq.size; omega))
      have HEND := hide hend
      clear hend
      by_cases hC0 : C = false
      · subst hC0
        have hC : (false && decide (y.v = v0) && okStart v0 ((hs.map (·.v)).drop (k + 1)) (r.drop (k + 1))) = false := rfl
        have HC := hide hC
        clear hC
        obtain ⟨S', hS'⟩ : ∃ S' : World → Prop, S' = fun w' => w'.cell? ⟨gx, 0, none⟩ = some (.int .i64 y.v) ∧ w'.cell? ⟨gx, 1, none⟩ = some (.slice y.a y.n y.c) := ⟨_, rfl⟩
        have HSE : Hid (∀ w', S' w' → w'.cell? ⟨gx, 0, none⟩ = some (.int .i64 y.v) ∧ w'.cell? ⟨gx, 1, none⟩ = some (.slice y.a y.n y.c)) := hide (fun w' h => by rw [hS'] at h; exact h)
        have HSJ : Hid (∀ w4, Below (wr.alloc (.cells #[.int .i64 y.v, .slice y.a y.n y.c] 42)).heap.size (wr.alloc (.cells #[.int .i64 y.v, .slice y.a y.n y.c] 42)) w4 → S' w4) := hide (fun w4 h4 => by rw [hS']; exact ⟨(HSI.out w4 h4).1, (HSI.out w4 h4).2.1⟩)
        clear hS'
        go_wp2
        refine wp_region_fan [0] [1, 2, 3] [4, 5, 6, 7, 8, 9, 10] [11] S' (by kernel_rfl) (by kernel_rfl) (HSJ.out _ hid) ?_
        simp only [pickL, List.filterMap_cons, List.filterMap_nil, List.getElem?_cons_succ, List.getElem?_cons_zero]
        iterate 1
          apply headK_step (by rfl)
          · intro w' hw'
            obtain ⟨s0, s1⟩ := HSE.out w' hw'
            go_simp
            rfl
          intro a' ha'
          simp only [Act.put, List.setIfInBounds_toArray, List.set_cons_succ, List.set_cons_zero] at ha'
          subst ha'
        refine headK_nil ?_
        rw [midF]
        intro K0 hK0
        have HK0 := hide hK0
        clear hK0
        go_simp
        go_at_call 49
        refine (HCK.out _ hfq).mono ?_
        rintro vv w4 ⟨rfl, hb4⟩
        have hB4 := hid.trans (hb4.mono hid.size)
        refine HK0.out _ _ (HSJ.out w4 hB4) ?_
        clear HK0
        iterate 2
          rw [midF]
          intro K0 hK0
          have HK0 := hide hK0
          clear hK0
          go_simp
          refine HK0.out _ _ (HSJ.out w4 hB4) ?_
          clear HK0
        rw [midF]
        iterate 7
          apply headK_skip (by rfl)
          intro a' ha'
          simp only [Act.put, List.setIfInBounds_toArray, List.set_cons_succ, List.set_cons_zero] at ha'
          subst ha'
        refine headK_nil ?_
        go_wp2
        refine NoPanic.normal ?_
        have hC := HC.out
        go_wp2
        go_ret2
        have hBs : Bs = false := by rw [← HOK.out, hC]
        have hRr := HR.out
        rw [hBs, if_pos rfl] at hRr
        simp only [Prod.mk.injEq] at hRr
        exact ⟨none, 0, 0, [], by rw [← hRr.1]; rfl, by rw [← hRr.2]; rfl, Own.none _ _ _, by rw [← hRr.2]; exact PsAt.nil _ _ _, hB1.trans ((HEND.out w4 hb4).mono hz1)⟩
      have hC1 : C = true := by cases C with | true => rfl | false => exact absurd rfl hC0
      subst hC1
      clear hC0
      by_cases hvv : y.v = v0
      · have v1 : (y.v == v0) = true := by simpa using hvv
        have v2 : (y.v != v0) = false := by simpa using hvv
        have hok' : okStart v0 ((hs.map (·.v)).drop (k + 1)) (r.drop (k + 1)) = Bs := by rw [← HOK.out, decide_eq_true hvv]; rfl
        have HOK2 := hide hok'
        clear hok' hvv
        go_wp2
        go_region_held3 (fun w' => w'.cell? ⟨gx, 0, none⟩ = some (.int .i64 y.v) ∧ w'.cell? ⟨gx, 1, none⟩ = some (.slice y.a y.n y.c) ∧ w'.cell? ⟨b1, off1, none⟩ = some (.int .i64 v0)) (go_keep)
          ((go_at_call 49; go_must ((with_reducible refine (HCK.out _ hfq).mono ?_); rintro vv w4 ⟨rfl, hb4⟩; obtain ⟨t0, t1, t2⟩ := HSI.out w4 (hid.trans (hb4.mono hid.size)))))
        go_wp2
        go_roundw
        case rel => exact ⟨k + 1, by go_num, by omega, HEND.out w4 hb4, HOK2.out⟩
        case measure => simp [intOf] <;> omega
      · have v1 : (y.v == v0) = false := by simpa using hvv
        have v2 : (y.v != v0) = true := by simpa using hvv
        have hC : (true && decide (y.v = v0) && okStart v0 ((hs.map (·.v)).drop (k + 1)) (r.drop (k + 1))) = false := by rw [decide_eq_false hvv]; rfl
        have HC := hide hC
        clear hC hvv
        go_wp2
        go_region_held3 (fun w' => w'.cell? ⟨gx, 0, none⟩ = some (.int .i64 y.v) ∧ w'.cell? ⟨gx, 1, none⟩ = some (.slice y.a y.n y.c) ∧ w'.cell? ⟨b1, off1, none⟩ = some (.int .i64 v0)) (go_keep)
          ((go_at_call 49; go_must ((with_reducible refine (HCK.out _ hfq).mono ?_); rintro vv w4 ⟨rfl, hb4⟩; obtain ⟨t0, t1, t2⟩ := HSI.out w4 (hid.trans (hb4.mono hid.size)))))
        have hC := HC.out
        go_wp2
        go_ret2
        have hBs : Bs = false := by rw [← HOK.out, hC]
        have hRr := HR.out
        rw [hBs, if_pos rfl] at hRr
        simp only [Prod.mk.injEq] at hRr
        exact ⟨none, 0, 0, [], by rw [← hRr.1]; rfl, by rw [← hRr.2]; rfl, Own.none _ _ _, by rw [← hRr.2]; exact PsAt.nil _ _ _, hB1.trans ((HEND.out w4 hb4).mono hz1)⟩
    · have hkn : k = nr := by omega
      subst hkn
      have hBt : Bs = true := by
        rw [← hok, List.drop_of_length_le (by rw [List.length_map, ← HSN.out]; exact Nat.le_refl _)]
        rfl
      have hall := HBS.out
      rw [hBt] at hall
      have hAll := okStart_all hall
      have hPs : PsAt (fun q => QP q ∧ q < w.heap.size) w v0 hs r := ⟨(HP.out).1, fun i y L e1 e2 => ⟨(hAll i y L e1 e2).1, ((HP.out).2 i y L e1 e2).1⟩⟩
      have hAP : AllP v0 r := fun L hL => by
        obtain ⟨i, hi⟩ := List.getElem?_of_mem hL
        have hlt' := (List.getElem?_eq_some_iff.1 hi).1
        exact (hAll i (hs[i]'(by rw [(HP.out).1]; exact hlt')) L (List.getElem?_eq_getElem _) hi).2
      have hRr := HR.out
      rw [hBt, if_neg (by simp)] at hRr
      have HRUN := hide (RunSymQ_calls QP v0 a1 U.length c1 U rfl sa k sc hs r HSN.out h1 wr (hown1.at_.belowN hb3) (hst.belowN hBw) ((hPs.belowN hBw).imp (fun q hq => Nat.lt_of_lt_of_le hq.2 hBw.size)) hAP HIN.out (by omega) (by omega) EE RR hRr)
      clear hall hAll hPs hAP hRr hBt hok
      go_wp2_with (go_at_call 42; go_must ((with_reducible refine (HRUN.out).mono ?_); rintro vv w9 ⟨a9, n9, c9, hs9, rfl, hn9, hown9, hP9, hb9⟩; have HN9 := hide hn9; clear hn9))
      go_ret2
      exact ⟨a9, n9, c9, hs9, rfl, HN9.out, hown9.mono hBw.size, hP9.imp (fun q hq => hq.imp id (fun h => Nat.le_trans hBw.size h)), hBw.trans (hb9.mono hBw.size)⟩
theorem AfterQ_calls (regs : Int) (a : Option Addr) (c : Nat) (l : List OpD) (sa : Option Addr) (sn sc : Nat) (hs : List PoH) (r : List (List Tm)) (hsn : sn = hs.length) (QP : Nat → Prop) (w : World) (h : At w a l) (hl : l.length ≤ 1000000) (hst : At w sa hs) (hP : PsV (fun q => QP q ∧ q < w.heap.size) w hs r) (EE : Int) (RR : List (List Tm)) (hR : afterS regs l (hs.map (·.v)) r = (EE, RR)) :
    Calls Tryz.prog 19 #[.agg #[.int .i64 regs, .slice a l.length c], .slice sa sn sc] w (PolysOutQ QP ((hs.map (·.v)).headD 0) RR EE w) := by
  unfold afterS at hR
  by_cases hc : checkS regs l = 0
  · rw [if_neg (by simpa using hc)] at hR
    obtain ⟨f, rfl, g⟩ := good_of_check hc
    obtain ⟨nr, rfl⟩ : ∃ n : Nat, regs = n := ⟨regs.toNat, by have := g.r1; omega⟩
    rw [unrS_good g] at hR
    have hrl : r.length = sn := by rw [← hP.1, hsn]
    rw [hrl] at hR
    by_cases hd : (sn : Int) ≠ (nr : Int)
    · rw [if_pos hd] at hR
      simp only [Prod.mk.injEq] at hR
      rw [← hR.1, ← hR.2]
      exact AfterQ_dims nr a c _ f rfl g sa sn sc (by omega) QP w h _
    · rw [if_neg hd] at hR
      obtain rfl : sn = nr := by omega
      exact AfterQ_good sn a c _ f rfl g sa sc hs r hsn QP w h hst hP _ rfl EE RR hR
  · rw [if_pos hc] at hR
    simp only [Prod.mk.injEq] at hR
    rw [← hR.2]
    exact AfterQ_bad regs a c l sa sn sc QP w h hl hc EE _ hR.1
end Go.Proofs.YtcamcnahkdiefaaGreat

/- Chapter 24: numbers as polynomials (model.consts). -/
namespace Go.Proofs.YtcamcnahkdiefaaGreat
set_option linter.unusedVariables false
set_option linter.unusedSimpArgs false
open Go.RowKit
theorem const_zero {n : Nat} (h : n ≤ 64) : mkL (n : Int) (constT (n : Int) 0) = [] := by
  unfold mkL
  rw [if_pos (const_facts h 0).1, sortT]
  simp [constT, nzT]
def consS (va : Int) (cs : List UInt64) : List (List Tm) := cs.map fun c => mkL va (constT va c)
theorem consS_zero {n : Nat} (h : n ≤ 64) (k : Nat) : consS (n : Int) (List.replicate k 0) = List.replicate k [] := by
  unfold consS
  rw [List.map_replicate, const_zero h]
set_option maxRecDepth 100000 in
set_option maxHeartbeats 3200000 in
theorem Consts_calls (vn : Nat) (h64 : vn ≤ 64) (cs : List UInt64) (a : Option Addr) (n c : Nat) (hn : n = cs.length) (w : World) (h : At w a cs) (hl : n ≤ 1000000) :
    Calls Tryz.prog 61 #[.int .i64 (vn : Int), .slice a n c] w fun e w' => ∃ a' c' hs, e = .returned (.slice a' n c') ∧ Own w' w.heap.size 42 a' c' hs ∧ hs.length = n ∧ PsAt (fun q => w.heap.size ≤ q) w' (vn : Int) hs (consS (vn : Int) cs) ∧ Below w.heap.size w w' := by
  have HN := hide hn
  clear hn
  go_enter Tryz.func61, Tryz.ntmps61
  go_wp2
  go_loopw [5, 12] (fun rv iv wr => ∃ (k : Nat) (a' : Option Addr) (c' : Nat) (hs : List PoH), rv = .slice a' k c' ∧ iv = .int .i64 k ∧ k ≤ n ∧ Own wr w.heap.size 42 a' c' hs ∧ k = hs.length ∧ PsAt (fun q => a'.map (·.block) ≠ some q ∧ w.heap.size ≤ q) wr (vn : Int) hs (consS (vn : Int) (cs.take k)) ∧ Below w.heap.size w wr) (fun _ iv _ => n - (intOf iv).toNat)
  case atStart => exact ⟨0, none, 0, [], rfl, rfl, by omega, Own.none _ _ _, rfl, PsAt.nil _ _ _, Below.refl _ _⟩
  case round =>
    obtain ⟨k, a', c', hs, rfl, rfl, hk, hown, hkl, hP, hb⟩ := hrel
    have hz := hb.size
    have hP4 := hP.bounded
    by_cases hlt : k < n
    · obtain ⟨b1, off1, x, rfl, hx, x0⟩ := h.getU hb (k := k) (by have := HN.out; omega)
      obtain ⟨k1, k2, k3⟩ := const_facts h64 x
      obtain ⟨L, hL⟩ : ∃ L, mkL (vn : Int) (constT (vn : Int) x) = L := ⟨_, rfl⟩
      have HTK := hide (show consS (vn : Int) (cs.take (k + 1)) = consS (vn : Int) (cs.take k) ++ [L] by rw [List.take_add_one, hx.out]; unfold consS; rw [List.map_append, ← hL]; rfl)
      have HC := hide (PConst_calls (vn : Int) x wr (vn : Int) L 0 k2 hL k1)
      have HKL := hide hkl
      clear k1 k2 k3 hL hkl hP hx
      obtain ⟨w3, rfl⟩ : ∃ w3 : World, w3 = wr := ⟨_, rfl⟩
      go_wp2_with (first
        | (at_builtin; go_must (have hgd := hT9; refine wpList_push tyPo hown10 ⟨(vn : Int), a9, n9, c9⟩ rfl rfl rfl rfl rfl (by simp) HKL.out hz10 (by omega) ?_; intro a4 c4 w4 hown6 hg6 hcs6))
        | (go_at_call 111; go_must ((with_reducible refine (HC.out).mono ?_); rintro vv w9 ⟨a9, n9, c9, rfl, hT9, hb9⟩; have hb10 := hb9.trans ((below_box w9 (.cells #[.int .i64 (vn : Int), .slice a9 n9 c9] 42)).mono hb9.size); have hown10 := hown.belowN hb10; have hz10 : w.heap.size ≤ (w9.alloc (.cells #[.int .i64 (vn : Int), .slice a9 n9 c9] 42)).heap.size := (by have := hb10.size; omega); have hN10 := Blk.new w9 42 #[.int .i64 (vn : Int), .slice a9 n9 c9]; obtain ⟨n0, n1, n2, n3⟩ := hN10.c2)))
      have hb12 := below_push (hb.trans (hb10.mono hz)) hown10 hg6 hz10
      have hz9 := hb9.size
      have hP6 := ((hP4.belowN hb10).grown hg6 (fun q hq h => h.1.1 hq)).imp (Q := fun q => a4.map (·.block) ≠ some q ∧ w.heap.size ≤ q) (fun q hq => ⟨ne_push hcs6 hq.1.1 (by have := hb10.size; omega), hq.1.2⟩)
      have hT10 := ((hT9.bounded.belowN (below_box w9 (.cells #[.int .i64 (vn : Int), .slice a9 n9 c9] 42))).grown hg6 (fun q hq h => by have := (hown.blk q hq).2; omega)).imp (Q := fun q => a4.map (·.block) ≠ some q ∧ w.heap.size ≤ q) (fun q hq => ⟨ne_push hcs6 (fun e => by have := (hown.blk q e).2; omega) (by rw [World.size_alloc]; omega), by have := hq.1; omega⟩)
      go_roundw
      case rel =>
        refine ⟨k + 1, a4, c4, hs ++ [⟨(vn : Int), a9, n9, c9⟩], by go_num, by go_num, by omega, hown6, by have := HKL.out; simp; omega, ?_, hb12⟩
        rw [HTK.out]
        exact hP6.push rfl hT10
      case measure => simp [intOf] <;> omega
    · have hkn : k = n := by omega
      subst hkn
      rw [List.take_of_length_le (by have := HN.out; omega)] at hP
      go_wp2
      go_ret
      exact ⟨a', c', hs, rfl, hown, hkl.symm, hP.imp (fun q hq => hq.2), hb⟩
end Go.Proofs.YtcamcnahkdiefaaGreat

/- Chapter 24: all registers of a program, as polynomials (model.Composite's closure), and what is wrong with programs (model.check). -/
namespace Go.Proofs.YtcamcnahkdiefaaGreat
set_option linter.unusedVariables false
set_option linter.unusedSimpArgs false
open Go.RowKit
structure FullAt (QP : Nat → Prop) (w : World) (g2 g3 g4 : Nat) (na fa : Option Addr) (nn fn nc fc : Nat) (hn hf : List PoH) (vn : Nat) (now fixed : List (List Tm)) : Prop where
  n : Blk w g2 27 #[.slice na nn nc]
  f : Blk w g3 27 #[.slice fa fn fc]
  v : Blk w g4 3 #[.int .i64 (vn : Int)]
  an : At w na hn
  af : At w fa hf
  pn : PsAt (fun q => QP q ∧ q < w.heap.size) w (vn : Int) hn now
  pf : PsAt (fun q => QP q ∧ q < w.heap.size) w (vn : Int) hf fixed
theorem FullAt.belowN {QP : Nat → Prop} {w w' : World} {g2 g3 g4 : Nat} {na fa : Option Addr} {nn fn nc fc : Nat} {hn hf : List PoH} {vn : Nat} {now fixed : List (List Tm)} (h : FullAt QP w g2 g3 g4 na fa nn fn nc fc hn hf vn now fixed) (hb : Below w.heap.size w w') : FullAt QP w' g2 g3 g4 na fa nn fn nc fc hn hf vn now fixed :=
  ⟨h.n.belowN hb, h.f.belowN hb, h.v.belowN hb, h.an.belowN hb, h.af.belowN hb, (h.pn.belowN hb).imp (fun q hq => ⟨hq.1, Nat.lt_of_lt_of_le hq.2 hb.size⟩), (h.pf.belowN hb).imp (fun q hq => ⟨hq.1, Nat.lt_of_lt_of_le hq.2 hb.size⟩)⟩
theorem wrap_id64 {k : Int} (h1 : 0 ≤ k) (h2 : k ≤ 1000000) : IntKind.i64.wrap k = k := by
  simp only [IntKind.wrap, IntKind.bits, IntKind.signed]
  simp
  omega
set_option maxRecDepth 100000 in
set_option maxHeartbeats 6400000 in
theorem FullM_calls (QP : Nat → Prop) (g2 g3 g4 : Nat) (na fa ma : Option Addr) (nn fn mn nc fc mc : Nat) (hn hf hm : List PoH) (vn : Nat) (h64 : vn ≤ 64) (now fixed more : List (List Tm)) (rg : Nat) (pa : Option Addr) (pn pc : Nat) (hnn : nn = hn.length) (hfn : fn = hf.length) (hmn : mn = hm.length) (k : Nat) (hk : nn + fn + mn + k = rg) (h164 : rg ≤ 64)
    (w : World) (h : FullAt QP w g2 g3 g4 na fa nn fn nc fc hn hf vn now fixed) (hM : At w ma hm) (hPM : PsAt (fun q => QP q ∧ q < w.heap.size) w (vn : Int) hm more) :
    Calls Tryz.prog 60 #[.agg #[.int .i64 (rg : Int), .slice pa pn pc], .slice ma mn mc, .pointer (some ⟨g2, 0, none⟩), .pointer (some ⟨g3, 0, none⟩), .pointer (some ⟨g4, 0, none⟩)] w
      fun e w' => ∃ a' c' hs, e = .returned (.slice a' rg c') ∧ Own w' w.heap.size 42 a' c' hs ∧ hs.length = rg ∧ PsAt (fun q => QP q ∨ w.heap.size ≤ q) w' (vn : Int) hs (now ++ fixed ++ more ++ List.replicate k []) ∧ Below w.heap.size w w' := by
  have hb0 := below_box w (.cells #[.int .i64 (rg : Int), .slice pa pn pc] 24)
  have hX := Blk.new w 24 #[.int .i64 (rg : Int), .slice pa pn pc]
  obtain ⟨p0, p1, p2, p3⟩ := hX.c2
  obtain ⟨S', hS'⟩ : ∃ S' : World → Prop, S' = fun w' => w'.cell? ⟨g2, 0, none⟩ = some (.slice na nn nc) ∧ w'.cell? ⟨g3, 0, none⟩ = some (.slice fa fn fc) ∧ w'.cell? ⟨g4, 0, none⟩ = some (.int .i64 (vn : Int)) ∧ w'.cell? ⟨w.heap.size, 0, none⟩ = some (.int .i64 (rg : Int)) := ⟨_, rfl⟩
  have HSE : Hid (∀ w', S' w' → w'.cell? ⟨g2, 0, none⟩ = some (.slice na nn nc) ∧ w'.cell? ⟨g3, 0, none⟩ = some (.slice fa fn fc) ∧ w'.cell? ⟨g4, 0, none⟩ = some (.int .i64 (vn : Int)) ∧ w'.cell? ⟨w.heap.size, 0, none⟩ = some (.int .i64 (rg : Int))) := hide (fun w' h => by rw [hS'] at h; exact h)
  obtain ⟨w1, hw1⟩ : ∃ w1, w1 = w.alloc (.cells #[.int .i64 (rg : Int), .slice pa pn pc] 24) := ⟨_, rfl⟩
  rw [← hw1] at hb0 hX
  have HSI : Hid (∀ w4, Below w1.heap.size w1 w4 → S' w4) := hide (fun w4 h4 => by
    rw [hS']
    have h1 := (h.belowN hb0).belowN h4
    exact ⟨h1.n.c1.1, h1.f.c1.1, h1.v.c1.1, (hX.belowN h4).c2.1⟩)
  have H := hide h
  have HM := hide hM
  have HPM := hide hPM
  have HN := hide hnn
  have HF := hide hfn
  have HMN := hide hmn
  have HK := hide hk
  obtain ⟨NN, hNN⟩ : ∃ NN, 0 + nn + fn + mn = NN := ⟨_, rfl⟩
  have HNN := hide hNN
  have hNk : (rg : Int) - (NN : Int) = (k : Int) := by omega
  have hNr : NN ≤ rg := by omega
  have hnl : nn ≤ 64 ∧ fn ≤ 64 ∧ mn ≤ 64 := by omega
  clear hS' h hM hPM hnn hfn hmn hk hNN
  have hdw : Below w1.heap.size w1 w1.drew := Below.drew (Below.refl _ _)
  go_enter Tryz.func60, Tryz.ntmps60
  go_wp2
  rw [← hw1]
  clear hw1
  refine wp_region_fan [1, 3, 5] [0, 2, 4, 6] [] [7] S' (by kernel_rfl) (by kernel_rfl) (HSI.out _ hdw) ?_
  simp only [pickL, List.filterMap_cons, List.filterMap_nil, List.getElem?_cons_succ, List.getElem?_cons_zero]
  iterate 3
    apply headK_step (by rfl)
    · intro w' hw'
      obtain ⟨s0, s1, s2, s3⟩ := HSE.out w' hw'
      go_simp
      rfl
    intro a' ha'
    simp only [Act.put, List.setIfInBounds_toArray, List.set_cons_succ, List.set_cons_zero] at ha'
    subst ha'
  refine headK_nil ?_
  rw [midF]
  intro K0 hK0
  have HK0 := hide hK0
  clear hK0
  go_simp
  have hB2 : Below w1.heap.size w1 (w1.alloc (.cells #[] 42)).drew := Below.drew (below_box w1 _)
  have hO2 : Own (w1.alloc (.cells #[] 42)).drew w1.heap.size 42 (some ⟨w1.heap.size, 0, none⟩) 0 ([] : List PoH) := (Own.new w1 (Nat.le_refl _) 42 PoH).belowN (Below.drew (Below.refl _ _))
  refine HK0.out _ _ (HSI.out _ hB2) ?_
  clear HK0
  rw [midF]
  intro K0 hK0
  have HK0 := hide hK0
  clear hK0
  refine step_pushAll (n := 0) (n2 := nn) tyPo hO2 (H.out.an.belowN (hb0.trans (hB2.mono hb0.size))) rfl rfl rfl rfl rfl HN.out hB2.size (by omega) (by omega) ?_
  intro a3 c3 w3 hO3 hg3 hc3
  have hB3 := below_push hB2 hO2 hg3 hB2.size
  refine HK0.out _ _ (HSI.out _ hB3) ?_
  clear HK0
  rw [midF]
  intro K0 hK0
  have HK0 := hide hK0
  clear hK0
  have HL3 : Hid (0 + nn = ([] ++ hn).length) := hide (by rw [List.nil_append, ← HN.out, Nat.zero_add])
  refine step_pushAll tyPo hO3 (H.out.af.belowN (hb0.trans (hB3.mono hb0.size))) rfl rfl rfl rfl HL3.out HF.out hB3.size (by omega) (by omega) ?_
  intro a4 c4 w4 hO4 hg4 hc4
  have hB4 := below_push hB3 hO3 hg4 hB3.size
  refine HK0.out _ _ (HSI.out _ hB4) ?_
  clear HK0
  rw [midF]
  intro K0 hK0
  have HK0 := hide hK0
  clear hK0
  have HL4 : Hid (0 + nn + fn = ([] ++ hn ++ hf).length) := hide (by rw [List.length_append, ← HL3.out, ← HF.out])
  refine step_pushAll tyPo hO4 (HM.out.belowN (hb0.trans (hB4.mono hb0.size))) rfl rfl rfl rfl HL4.out HMN.out hB4.size (by omega) (by omega) ?_
  intro a5 c5 w5 hO5 hg5 hc5
  have hB5 := below_push hB4 hO4 hg5 hB4.size
  rw [HNN.out]
  refine HK0.out _ _ (HSI.out _ hB5) ?_
  clear HK0
  rw [midF]
  refine headK_nil ?_
  have hz5 := hB5.size
  have HL5 : Hid (NN = ([] ++ hn ++ hf ++ hm).length) := hide (by rw [List.length_append, ← HL4.out, ← HMN.out, HNN.out])
  have hdr : Below w5.heap.size w5 w5.drew := Below.drew (Below.refl _ _)
  have hB6 := hB5.trans (hdr.mono hz5)
  have hmk := mkU k (k : Int) rfl (by omega)
  have hwk : IntKind.i64.wrap (k : Int) = (k : Int) := wrap_id64 (by omega) (by omega)
  have HCO := hide (fun (W : World) (g : Nat) (hW : At W (some ⟨g, 0, none⟩) (List.replicate k (0 : UInt64))) => Consts_calls vn h64 (List.replicate k 0) (some ⟨g, 0, none⟩) k k (by simp) W hW (by omega))
  have hO6 := hO5.belowN hdr
  clear hc3 hc4 hc5 hg3 hg4 hg5 hO3 hO4 hO2 hB2 hB3 hB4
  go_wp2
  refine NoPanic.normal ?_
  go_wp2
  refine wp_region_fan [0, 1, 2, 3, 4, 5, 6] [7, 8, 9] [] [10] S' (by kernel_rfl) (by kernel_rfl) (HSI.out _ hB6) ?_
  simp only [pickL, List.filterMap_cons, List.filterMap_nil, List.getElem?_cons_succ, List.getElem?_cons_zero]
  iterate 7
    apply headK_step (by rfl)
    · intro w' hw'
      obtain ⟨s0, s1, s2, s3⟩ := HSE.out w' hw'
      go_simp
      rfl
    intro a' ha'
    simp only [Act.put, List.setIfInBounds_toArray, List.set_cons_succ, List.set_cons_zero] at ha'
    subst ha'
  refine headK_nil ?_
  rw [midF]
  intro K0 hK0
  have HK0 := hide hK0
  clear hK0
  go_simp
  have hbx : Below w5.heap.size w5 (w5.alloc (.cells (zerosU k) 50)).drew := Below.drew (below_box w5 _)
  have hB7 := hB5.trans (hbx.mono hz5)
  have hO7 := hO5.belowN hbx
  have hZ7 := ((ownZ (B := w5.heap.size) w5 (Nat.le_refl _) k (by omega)).belowN (Below.drew (Below.refl _ _))).at_
  refine HK0.out _ _ (HSI.out _ hB7) ?_
  clear HK0
  rw [midF]
  intro K0 hK0
  have HK0 := hide hK0
  clear hK0
  go_simp
  go_at_call 61
  refine (HCO.out _ _ hZ7).mono ?_
  rintro e w8 ⟨a8, c8, h8, rfl, hO8, hl8, hP8, hb8⟩
  have hB8 := hB7.trans (hb8.mono hB7.size)
  refine HK0.out _ _ (HSI.out _ hB8) ?_
  clear HK0
  rw [midF]
  intro K0 hK0
  have HK0 := hide hK0
  clear hK0
  have HL8 := hide hl8.symm
  refine step_pushAll tyPo (hO7.belowN hb8) hO8.at_ rfl rfl rfl rfl HL5.out HL8.out hB8.size (by omega) (by omega) ?_
  intro a9 c9 w9 hO9 hg9 hc9
  have hB9 := below_push hB8 (hO7.belowN hb8) hg9 hB8.size
  refine HK0.out _ _ (HSI.out _ hB9) ?_
  clear HK0
  rw [midF]
  refine headK_nil ?_
  go_wp2
  refine NoPanic.normal ?_
  go_wp2
  go_ret
  have hbF := hb0.trans (hB9.mono hb0.size)
  have hP9 := hP8.grown hg9 (fun g hg hq => by
    have h1 := (hO5.blk g hg).2
    have h2 := hbx.size
    omega)
  rw [consS_zero h64] at hP9
  have e1 := (H.out.pn.belowN hbF).imp (Q := fun q => QP q ∨ w.heap.size ≤ q) (fun q hq => .inl hq.1)
  have e2 := (H.out.pf.belowN hbF).imp (Q := fun q => QP q ∨ w.heap.size ≤ q) (fun q hq => .inl hq.1)
  have e3 := (HPM.out.belowN hbF).imp (Q := fun q => QP q ∨ w.heap.size ≤ q) (fun q hq => .inl hq.1)
  have e4 := hP9.imp (Q := fun q => QP q ∨ w.heap.size ≤ q) (fun q hq => .inr (by have h1 := hb0.size; have h2 := hB6.size; have h3 := hbx.size; omega))
  refine ⟨a9, c9, [] ++ hn ++ hf ++ hm ++ h8, by rw [show rg = NN + k by omega]; rfl, hO9.mono hb0.size, ?_, ?_, hbF⟩
  · rw [List.length_append, ← HL5.out, hl8]; omega
  · rw [List.nil_append]; exact ((e1.app e2).app e3).app e4
set_option maxRecDepth 100000 in
set_option maxHeartbeats 3200000 in
theorem Check24_calls (p q : PrD) (x : Int) (w : World) (h : At w p.a p.l) (hl : p.l.length ≤ 1000000) (h' : At w q.a q.l) (hl' : q.l.length ≤ 1000000) (hx : -9223372036854775808 ≤ x ∧ x ≤ 9223372036854775807) (E : Int) (hE : (⟨p, q, x, List.replicate 65 0⟩ : ChD).bad = E) (h0 : E ≠ 0) :
    Calls Tryz.prog 59 #[.agg #[.int .i64 p.regs, .slice p.a p.l.length p.c], .agg #[.int .i64 q.regs, .slice q.a q.l.length q.c], .int .i64 x] w fun e w' => e = .returned (.int .i64 E) ∧ Below w.heap.size w w' := by
  obtain ⟨hX, hY, hb0, hz0⟩ := two_boxes w 24 24 #[.int .i64 p.regs, .slice p.a p.l.length p.c] #[.int .i64 q.regs, .slice q.a q.l.length q.c]
  have HN := hide (fun (W : World) (g : Nat) (hW : Below w.heap.size w W) => NewBad_calls ⟨p, q, x, List.replicate 65 0⟩ (some ⟨g, 0, none⟩) 65 W (h.belowN hW) hl (h'.belowN hW) hl' hx (by show (List.replicate 65 (0 : UInt64)).length ≤ _; rw [List.length_replicate]; decide) E hE h0)
  have e65 : (List.replicate 65 (0 : UInt64)).length = 65 := List.length_replicate
  rw [e65] at HN
  obtain ⟨w1, hw1⟩ : ∃ w1, w1 = (w.alloc (.cells #[.int .i64 p.regs, .slice p.a p.l.length p.c] 24)).alloc (.cells #[.int .i64 q.regs, .slice q.a q.l.length q.c] 24) := ⟨_, rfl⟩
  rw [← hw1] at hX hY hb0
  obtain ⟨p0, p1, p2, p3⟩ := hX.c2
  obtain ⟨p4, p5, p6, p7⟩ := hY.c2
  obtain ⟨S', hS'⟩ : ∃ S' : World → Prop, S' = fun w' => (w'.cell? ⟨w.heap.size, 0, none⟩ = some (.int .i64 p.regs) ∧ w'.cell? ⟨w.heap.size, 1, none⟩ = some (.slice p.a p.l.length p.c)) ∧ w'.cell? ⟨w.heap.size + 1, 0, none⟩ = some (.int .i64 q.regs) ∧ w'.cell? ⟨w.heap.size + 1, 1, none⟩ = some (.slice q.a q.l.length q.c) := ⟨_, rfl⟩
  have HSE : Hid (∀ w', S' w' → (w'.cell? ⟨w.heap.size, 0, none⟩ = some (.int .i64 p.regs) ∧ w'.cell? ⟨w.heap.size, 1, none⟩ = some (.slice p.a p.l.length p.c)) ∧ w'.cell? ⟨w.heap.size + 1, 0, none⟩ = some (.int .i64 q.regs) ∧ w'.cell? ⟨w.heap.size + 1, 1, none⟩ = some (.slice q.a q.l.length q.c)) := hide (fun w' h => by rw [hS'] at h; exact h)
  have HSI : Hid (∀ w4, Below w1.heap.size w1 w4 → S' w4) := hide (fun w4 h4 => by
    rw [hS']
    have a1 := (hX.belowN h4).c2
    have a2 := (hY.belowN h4).c2
    exact ⟨⟨a1.1, a1.2.1⟩, a2.1, a2.2.1⟩)
  have hdw : Below w1.heap.size w1 w1.drew := Below.drew (Below.refl _ _)
  have hmk := mkU 65 65 rfl (by decide)
  have hz1 := hb0.size
  clear hS' hE e65
  go_enter Tryz.func59, Tryz.ntmps59
  go_wp2
  rw [← hw1]
  clear hw1
  refine wp_region_fan [0, 1, 2] [3, 4, 5] [6, 7] [8, 9] S' (by kernel_rfl) (by kernel_rfl) (HSI.out _ hdw) ?_
  simp only [pickL, List.filterMap_cons, List.filterMap_nil, List.getElem?_cons_succ, List.getElem?_cons_zero]
  iterate 3
    apply headK_step (by rfl)
    · intro w' hw'
      obtain ⟨⟨s0, s1⟩, s2, s3⟩ := HSE.out w' hw'
      go_simp
      rfl
    intro a' ha'
    simp only [Act.put, List.setIfInBounds_toArray, List.set_cons_succ, List.set_cons_zero] at ha'
    subst ha'
  refine headK_nil ?_
  rw [midF]
  intro K0 hK0
  have HK0 := hide hK0
  clear hK0
  go_simp
  have hB2 : Below w1.heap.size w1 (w1.alloc (.cells (zerosU 65) 50)).drew := Below.drew (below_box w1 _)
  refine HK0.out _ _ (HSI.out _ hB2) ?_
  clear HK0
  rw [midF]
  intro K0 hK0
  have HK0 := hide hK0
  clear hK0
  go_simp
  go_at_call 36
  refine (HN.out _ _ (hb0.trans (hB2.mono hz1))).mono ?_
  rintro e w2 ⟨rfl, hb2⟩
  have hB3 := hB2.trans (hb2.mono hB2.size)
  refine HK0.out _ _ (HSI.out _ hB3) ?_
  clear HK0
  rw [midF]
  intro K0 hK0
  have HK0 := hide hK0
  clear hK0
  go_simp
  refine HK0.out _ _ (HSI.out _ hB3) ?_
  clear HK0 HSI HSE
  rw [midF]
  iterate 2
    apply headK_step (by rfl)
    · intro w' _
      go_simp
      rfl
    intro a' ha'
    simp only [Act.put, List.setIfInBounds_toArray, List.set_cons_succ, List.set_cons_zero] at ha'
    subst ha'
  refine headK_nil ?_
  go_wp2
  refine NoPanic.normal ?_
  go_wp2
  go_ret
  exact ⟨rfl, hb0.trans (hB3.mono hz1)⟩
end Go.Proofs.YtcamcnahkdiefaaGreat

/- Chapter 15: the law SymbolAfter, walked. -/
namespace Go.Proofs.YtcamcnahkdiefaaGreat
set_option linter.unusedVariables false
set_option linter.unusedSimpArgs false
open Go.RowKit
theorem afterS_all {regs : Int} {l : List OpD} {hs : List PoH} {r : List (List Tm)} (hlen : hs.length = r.length) {E : Int} {R : List (List Tm)} (h : afterS regs l (hs.map (·.v)) r = (E, R)) : AllP ((hs.map (·.v)).headD 0) R ∧ R.length ≤ r.length := by
  unfold afterS at h
  split at h
  · simp only [Prod.mk.injEq] at h
    rw [← h.2]; exact ⟨fun L hL => (by cases hL), by simp⟩
  rename_i hc
  split at h
  · simp only [Prod.mk.injEq] at h
    rw [← h.2]; exact ⟨fun L hL => (by cases hL), by simp⟩
  rename_i hd
  split at h
  · simp only [Prod.mk.injEq] at h
    rw [← h.2]; exact ⟨fun L hL => (by cases hL), by simp⟩
  rename_i hok
  have hok' : okStart ((hs.map (·.v)).headD 0) (hs.map (·.v)) r = true := by simpa using hok
  have hAll := okStart_all hok'
  have hA : AllP ((hs.map (·.v)).headD 0) r := fun L hL => by
    obtain ⟨i, hi⟩ := List.getElem?_of_mem hL
    have hlt' := (List.getElem?_eq_some_iff.1 hi).1
    exact (hAll i (hs[i]'(by rw [hlen]; exact hlt')) L (List.getElem?_eq_getElem _) hi).2
  obtain ⟨f, rfl, g⟩ := good_of_check (Decidable.not_not.1 hc)
  rw [unrS_good g] at h
  have hr := runS_len _ _ _ _ h
  refine ⟨runS_all _ _ _ _ (fun x hx => ?_) hA h, ?_⟩
  · have := (g.inR x hx).2.1
    have : (r.length : Int) = regs := Decidable.not_not.1 hd
    omega
  · by_cases hE : E = 0
    · rw [hr.1 hE]; exact Nat.le_refl _
    · rw [hr.2 hE]; exact Nat.zero_le _
end Go.Proofs.YtcamcnahkdiefaaGreat

/- Chapter 24: the document's Composite. -/
namespace Go.Proofs.YtcamcnahkdiefaaGreat
set_option linter.unusedVariables false
set_option linter.unusedSimpArgs false
open Go.RowKit
noncomputable def ChD.iterC (c : ChD) (xn vn : Nat) : Nat → Int × List (List Tm)
  | 0 => (0, (startP vn).take xn)
  | t + 1 => if (c.iterC xn vn t).1 ≠ 0 then c.iterC xn vn t else
      let s := runC c.p (vn : Int) (t : Int) (c.iterC xn vn t).2 ((startP vn).drop xn)
      (s.1, if s.1 = 0 then s.2.take xn else [])
noncomputable def ChD.compC (c : ChD) (xn vn l : Nat) : Int × List Tm :=
  if (c.iterC xn vn l).1 ≠ 0 then ((c.iterC xn vn l).1, []) else
    let s := runC c.q (vn : Int) (-1) (c.iterC xn vn l).2 ((startP vn).drop xn)
    (s.1, if s.1 = 0 then s.2.headD [] else [])
theorem PsAt.take {P : Nat → Prop} {w : World} {va : Int} {hs : List PoH} {r : List (List Tm)} (h : PsAt P w va hs r) (k : Nat) : PsAt P w va (hs.take k) (r.take k) := by
  refine ⟨by simp [h.1], fun i z M e1 e2 => ?_⟩
  rw [List.getElem?_take] at e1 e2
  split at e1
  · rw [if_pos (by assumption)] at e2
    exact h.2 i z M e1 e2
  · cases e1
theorem runC_len {p : PrD} {va t : Int} {now fixed R : List (List Tm)} (h : runC p va t now fixed = (0, R)) : R.length = (fullS p.regs va t now fixed).length := by
  unfold runC afterS at h
  split at h
  · rename_i h1
    injection h with h2 h3
    exact absurd h2 h1
  · split at h
    · cases h
    · split at h
      · cases h
      · exact (runS_len _ _ _ _ h).1 rfl
theorem PsAt.drop {P : Nat → Prop} {w : World} {va : Int} {hs : List PoH} {r : List (List Tm)} (h : PsAt P w va hs r) (k : Nat) : PsAt P w va (hs.drop k) (r.drop k) := by
  refine ⟨by simp [h.1], fun i z M e1 e2 => ?_⟩
  rw [List.getElem?_drop] at e1 e2
  exact h.2 _ z M e1 e2
theorem ChD.iterC_stay (c : ChD) (xn vn t : Nat) (h : (c.iterC xn vn t).1 ≠ 0) : ∀ k, c.iterC xn vn (t + k) = c.iterC xn vn t
  | 0 => rfl
  | k + 1 => by
    have ih := ChD.iterC_stay c xn vn t h k
    show (if (c.iterC xn vn (t + k)).1 ≠ 0 then c.iterC xn vn (t + k) else _) = _
    rw [ih, if_pos h]
theorem ChD.iterC_succ (c : ChD) (xn vn t : Nat) {E : Int} {R : List (List Tm)} (h : (c.iterC xn vn t).1 = 0) (hR : runC c.p (vn : Int) (t : Int) (c.iterC xn vn t).2 ((startP vn).drop xn) = (E, R)) : c.iterC xn vn (t + 1) = (E, if E = 0 then R.take xn else []) := by
  show (if (c.iterC xn vn t).1 ≠ 0 then c.iterC xn vn t else _) = _
  rw [if_neg (by simpa using h), hR]
theorem ChD.compC_bad (c : ChD) (xn vn l t : Nat) {E : Int} (ht : t ≤ l) (h : c.iterC xn vn t = (E, [])) (h0 : E ≠ 0) : c.compC xn vn l = (E, []) := by
  have h1 : (c.iterC xn vn t).1 ≠ 0 := by rw [h]; exact h0
  have e : c.iterC xn vn l = (E, []) := by
    rw [show l = t + (l - t) by omega, ChD.iterC_stay c xn vn t h1, h]
  unfold ChD.compC
  rw [e, if_pos h0]
theorem ChD.compC_end (c : ChD) (xn vn l : Nat) {E : Int} {R : List (List Tm)} (h : (c.iterC xn vn l).1 = 0) (hR : runC c.q (vn : Int) (-1) (c.iterC xn vn l).2 ((startP vn).drop xn) = (E, R)) : c.compC xn vn l = (E, if E = 0 then R.headD [] else []) := by
  unfold ChD.compC
  rw [if_neg (by simpa using h), hR]
theorem runC_all {n : Nat} (h64 : n ≤ 64) {p : PrD} {t : Int} {now fixed : List (List Tm)} (h1 : AllP (n : Int) now) (h2 : AllP (n : Int) fixed) (hl : 1 ≤ now.length) {E : Int} {R : List (List Tm)} (h : runC p (n : Int) t now fixed = (E, R)) : AllP (n : Int) R := by
  unfold runC at h
  obtain ⟨m, hm⟩ : ∃ m, (fullS p.regs (n : Int) t now fixed).length = m + 1 := ⟨(fullS p.regs (n : Int) t now fixed).length - 1, by unfold fullS; simp; omega⟩
  have h0 : afterS p.regs p.l ((List.replicate (fullS p.regs (n : Int) t now fixed).length (⟨(n : Int), none, 0, 0⟩ : PoH)).map (·.v)) (fullS p.regs (n : Int) t now fixed) = (E, R) := by
    rw [List.map_replicate]
    exact h
  have hh := afterS_all (List.length_replicate ..) h0
  rw [List.map_replicate, hm] at hh
  exact hh.1
def PolyAll (V : Int) (L : List Tm) (E : Int) (w : World) (e : Ending) (w' : World) : Prop :=
  ∃ a n c, e = .returned (.tuple #[.agg #[.int .i64 V, .slice a n c], .int .i64 E]) ∧ TOut (fun _ => True) w' a n c L ∧ Below w.heap.size w w'
end Go.Proofs.YtcamcnahkdiefaaGreat

/- Chapter 24: the document's Composite, whatever the arguments. -/
namespace Go.Proofs.YtcamcnahkdiefaaGreat
set_option linter.unusedVariables false
set_option linter.unusedSimpArgs false
open Go.RowKit
def mkC (p q : PrD) (x t : Int) : ChD := ⟨p, q, x, List.replicate t.toNat 0⟩
noncomputable def compS (p q : PrD) (x t l : Int) : Int × List Tm :=
  if pairS p q ≠ 0 then (pairS p q, []) else if dimsC p.regs q.regs x t ≠ 0 then (dimsC p.regs q.regs x t, []) else if l < 0 ∨ 65536 ≤ l then (2, []) else
  (mkC p q x t).compC x.toNat (x.toNat + t.toNat) l.toNat
end Go.Proofs.YtcamcnahkdiefaaGreat

/- Chapter 24: model.Composite where there is no polynomial. -/
namespace Go.Proofs.YtcamcnahkdiefaaGreat
set_option linter.unusedVariables false
set_option linter.unusedSimpArgs false
open Go.RowKit
theorem mayC_th (p q : PrD) (x : Int) (tn : Nat) : (mkC p q x (tn : Int)).th = List.replicate tn 0 := by simp [mkC]
theorem MayN_calls (c : ChD) (tn : Nat) (hth : c.th = List.replicate tn 0) (htn : tn ≤ 64) (a : Option Addr) (l : Int) (w : World) (hp : At w c.p.a c.p.l) (hpl : c.p.l.length ≤ 1000000) (hq : At w c.q.a c.q.l) (hql : c.q.l.length ≤ 1000000) (hA : At w a (List.replicate tn (0 : UInt64))) (hx : -9223372036854775808 ≤ c.x ∧ c.x ≤ 9223372036854775807) (E : Int) (hE : c.mayM l = E) :
    Calls Tryz.prog 52 #[.agg #[.int .i64 c.p.regs, .slice c.p.a c.p.l.length c.p.c], .agg #[.int .i64 c.q.regs, .slice c.q.a c.q.l.length c.q.c], .int .i64 c.x, .slice a tn tn, .int .i64 l] w fun e w' => e = .returned (.int .i64 E) ∧ Below w.heap.size w w' := by
  have h := May24M_calls c a tn l w hp hpl hq hql (by rw [hth]; exact hA) hx (by rw [hth, List.length_replicate]; omega) E hE
  rw [hth, List.length_replicate] at h
  exact h
set_option maxRecDepth 100000 in
set_option maxHeartbeats 3200000 in
theorem MComp_bad (c : ChD) (xn : Int) (tn : Nat) (hxn : c.x = xn) (hth : c.th = List.replicate tn 0) (htn : tn ≤ 64) (l : Int) (w : World) (hp : At w c.p.a c.p.l) (hpl : c.p.l.length ≤ 1000000) (hq : At w c.q.a c.q.l) (hql : c.q.l.length ≤ 1000000) (hx : -9223372036854775808 ≤ xn ∧ xn ≤ 9223372036854775807) (E : Int) (hE : c.mayM l = E) (h0 : E ≠ 0) :
    Calls Tryz.prog 29 #[.agg #[.int .i64 c.p.regs, .slice c.p.a c.p.l.length c.p.c], .agg #[.int .i64 c.q.regs, .slice c.q.a c.q.l.length c.q.c], .int .i64 xn, .int .i64 (tn : Int), .int .i64 l] w (PolyAll 0 [] E w) := by
  obtain ⟨hX, hY, hR, hb0, hz0⟩ := three_boxes w 24 24 42 #[.int .i64 c.p.regs, .slice c.p.a c.p.l.length c.p.c] #[.int .i64 c.q.regs, .slice c.q.a c.q.l.length c.q.c] #[.int .i64 0, .slice none 0 0]
  have HMY := hide (fun (W : World) (a : Option Addr) (hW : Below w.heap.size w W) (hA : At W a (List.replicate tn (0 : UInt64))) => MayN_calls c tn hth htn a l W (hp.belowN hW) hpl (hq.belowN hW) hql hA (by rw [hxn]; exact hx) E hE)
  rw [hxn] at HMY
  obtain ⟨w1, hw1⟩ : ∃ w1, w1 = ((w.alloc (.cells #[.int .i64 c.p.regs, .slice c.p.a c.p.l.length c.p.c] 24)).alloc (.cells #[.int .i64 c.q.regs, .slice c.q.a c.q.l.length c.q.c] 24)).alloc (.cells #[.int .i64 0, .slice none 0 0] 42) := ⟨_, rfl⟩
  rw [← hw1] at hX hY hR hb0
  obtain ⟨p0, p1, p2, p3⟩ := hX.c2
  obtain ⟨p4, p5, p6, p7⟩ := hY.c2
  obtain ⟨S', hS'⟩ : ∃ S' : World → Prop, S' = fun w' => (w'.cell? ⟨w.heap.size, 0, none⟩ = some (.int .i64 c.p.regs) ∧ w'.cell? ⟨w.heap.size, 1, none⟩ = some (.slice c.p.a c.p.l.length c.p.c)) ∧ w'.cell? ⟨w.heap.size + 1, 0, none⟩ = some (.int .i64 c.q.regs) ∧ w'.cell? ⟨w.heap.size + 1, 1, none⟩ = some (.slice c.q.a c.q.l.length c.q.c) := ⟨_, rfl⟩
  have HSE : Hid (∀ w', S' w' → (w'.cell? ⟨w.heap.size, 0, none⟩ = some (.int .i64 c.p.regs) ∧ w'.cell? ⟨w.heap.size, 1, none⟩ = some (.slice c.p.a c.p.l.length c.p.c)) ∧ w'.cell? ⟨w.heap.size + 1, 0, none⟩ = some (.int .i64 c.q.regs) ∧ w'.cell? ⟨w.heap.size + 1, 1, none⟩ = some (.slice c.q.a c.q.l.length c.q.c)) := hide (fun w' h => by rw [hS'] at h; exact h)
  have HSI : Hid (∀ w4, Below w1.heap.size w1 w4 → S' w4) := hide (fun w4 h4 => by
    rw [hS']
    have a1 := (hX.belowN h4).c2
    have a2 := (hY.belowN h4).c2
    exact ⟨⟨a1.1, a1.2.1⟩, a2.1, a2.2.1⟩)
  have hdw : Below w1.heap.size w1 w1.drew := Below.drew (Below.refl _ _)
  have hmk := mkU tn (tn : Int) rfl (by omega)
  have hz1 := hb0.size
  have hq3 : w.heap.size ≤ w.heap.size + 1 + 1 := by omega
  have e1 : (E == 0) = false := by simpa using h0
  have e2 : (E != 0) = true := by simpa using h0
  have d1 : ¬ (tn : Int) < 0 := by omega
  have d2 : ¬ 64 < (tn : Int) := by omega
  clear hS' hE h0 hth hxn hz0
  go_enter Tryz.func29, Tryz.ntmps29
  go_wp2
  refine wp_scope_straight ?_
  go_wp2
  rw [← hw1]
  clear hw1
  refine wp_region_fan [0, 1, 2, 3, 5] [4, 6] [] [7] S' (by kernel_rfl) (by kernel_rfl) (HSI.out _ hdw) ?_
  simp only [pickL, List.filterMap_cons, List.filterMap_nil, List.getElem?_cons_succ, List.getElem?_cons_zero]
  iterate 5
    apply headK_step (by rfl)
    · intro w' hw'
      obtain ⟨⟨s0, s1⟩, s2, s3⟩ := HSE.out w' hw'
      go_simp
      rfl
    intro a' ha'
    simp only [Act.put, List.setIfInBounds_toArray, List.set_cons_succ, List.set_cons_zero] at ha'
    subst ha'
  refine headK_nil ?_
  rw [midF]
  intro K0 hK0
  have HK0 := hide hK0
  clear hK0
  go_simp
  have hB2 : Below w1.heap.size w1 (w1.alloc (.cells (zerosU tn) 50)).drew := Below.drew (below_box w1 _)
  have hZ2 := ((ownZ (B := w1.heap.size) w1 (Nat.le_refl _) tn (by omega)).belowN (Below.drew (Below.refl _ _))).at_
  refine HK0.out _ _ (HSI.out _ hB2) ?_
  clear HK0
  rw [midF]
  intro K0 hK0
  have HK0 := hide hK0
  clear hK0
  go_simp
  go_at_call 52
  refine (HMY.out _ _ (hb0.trans (hB2.mono hz1)) hZ2).mono ?_
  rintro e w2 ⟨rfl, hb2⟩
  have hB3 := hB2.trans (hb2.mono hB2.size)
  refine HK0.out _ _ (HSI.out _ hB3) ?_
  clear HK0 HSI HSE hZ2
  rw [midF]
  refine headK_nil ?_
  go_wp2
  refine NoPanic.normal ?_
  obtain ⟨r0, r1, r2, r3⟩ := (hR.belowN hB3).c2
  go_wp2
  have hF := ((hR.belowN hB3).set_ 0 (.int .i64 0)).set_ 1 (.slice none 0 0)
  try rw [Exit.noGoto_ret]
  refine bodyPost_ret (results_rowP rfl _ _ (w.heap.size + 1 + 1) _ #[.int .i64 0, .slice none 0 0] (0, 0) _ rfl hF Tryz.underlying42 rfl (by kernel_rfl)) rfl ⟨none, 0, 0, rfl, TOut.nil _ _, ?_⟩
  exact ((hb0.trans (hB3.mono hz1)).setCell (p := ⟨w.heap.size + 1 + 1, 0, none⟩) hq3 _).setCell (p := ⟨w.heap.size + 1 + 1, 1, none⟩) hq3 _
set_option maxRecDepth 100000 in
set_option maxHeartbeats 3200000 in
theorem MComp_low (p q : PrD) (x t l : Int) (w : World) (hp : At w p.a p.l) (hpl : p.l.length ≤ 1000000) (hq : At w q.a q.l) (hql : q.l.length ≤ 1000000) (hx : -9223372036854775808 ≤ x ∧ x ≤ 9223372036854775807) (h1 : t < 0) (E : Int) (hE : (⟨p, q, x, List.replicate 65 0⟩ : ChD).bad = E) (h0 : E ≠ 0) :
    Calls Tryz.prog 29 #[.agg #[.int .i64 p.regs, .slice p.a p.l.length p.c], .agg #[.int .i64 q.regs, .slice q.a q.l.length q.c], .int .i64 x, .int .i64 t, .int .i64 l] w (PolyAll 0 [] E w) := by
  obtain ⟨hX, hY, hR, hb0, hz0⟩ := three_boxes w 24 24 42 #[.int .i64 p.regs, .slice p.a p.l.length p.c] #[.int .i64 q.regs, .slice q.a q.l.length q.c] #[.int .i64 0, .slice none 0 0]
  obtain ⟨p0, p1, p2, p3⟩ := hX.c2
  obtain ⟨p4, p5, p6, p7⟩ := hY.c2
  have hq3 : w.heap.size ≤ w.heap.size + 1 + 1 := by omega
  have HCH := hide (Check24_calls p q x _ (hp.belowN hb0) hpl (hq.belowN hb0) hql hx E hE h0)
  clear hE h0
  go_enter Tryz.func29, Tryz.ntmps29
  go_wp2
  refine wp_scope_straight ?_
  go_wp2_with (go_at_call 59; go_must ((with_reducible refine (HCH.out).mono ?_); rintro e w1 ⟨rfl, hb1⟩; obtain ⟨r0, r1, r2, r3⟩ := (hR.belowN hb1).c2))
  have hF := ((hR.belowN hb1).set_ 0 (.int .i64 0)).set_ 1 (.slice none 0 0)
  try rw [Exit.noGoto_ret]
  refine bodyPost_ret (results_rowP rfl _ _ (w.heap.size + 1 + 1) _ #[.int .i64 0, .slice none 0 0] (0, 0) _ rfl hF Tryz.underlying42 rfl (by kernel_rfl)) rfl ⟨none, 0, 0, rfl, TOut.nil _ _, ?_⟩
  exact ((hb0.trans (hb1.mono hb0.size)).setCell (p := ⟨w.heap.size + 1 + 1, 0, none⟩) hq3 _).setCell (p := ⟨w.heap.size + 1 + 1, 1, none⟩) hq3 _
set_option maxRecDepth 100000 in
set_option maxHeartbeats 3200000 in
theorem MComp_high (p q : PrD) (x t l : Int) (w : World) (hp : At w p.a p.l) (hpl : p.l.length ≤ 1000000) (hq : At w q.a q.l) (hql : q.l.length ≤ 1000000) (hx : -9223372036854775808 ≤ x ∧ x ≤ 9223372036854775807) (h1 : ¬ t < 0) (h2 : 64 < t) (d1 : decide (t < 0) = false) (E : Int) (hE : (⟨p, q, x, List.replicate 65 0⟩ : ChD).bad = E) (h0 : E ≠ 0) :
    Calls Tryz.prog 29 #[.agg #[.int .i64 p.regs, .slice p.a p.l.length p.c], .agg #[.int .i64 q.regs, .slice q.a q.l.length q.c], .int .i64 x, .int .i64 t, .int .i64 l] w (PolyAll 0 [] E w) := by
  obtain ⟨hX, hY, hR, hb0, hz0⟩ := three_boxes w 24 24 42 #[.int .i64 p.regs, .slice p.a p.l.length p.c] #[.int .i64 q.regs, .slice q.a q.l.length q.c] #[.int .i64 0, .slice none 0 0]
  obtain ⟨p0, p1, p2, p3⟩ := hX.c2
  obtain ⟨p4, p5, p6, p7⟩ := hY.c2
  have hq3 : w.heap.size ≤ w.heap.size + 1 + 1 := by omega
  have HCH := hide (Check24_calls p q x _ (hp.belowN hb0) hpl (hq.belowN hb0) hql hx E hE h0)
  clear hE h0
  go_enter Tryz.func29, Tryz.ntmps29
  go_wp2
  refine wp_scope_straight ?_
  go_wp2_with (go_at_call 59; go_must ((with_reducible refine (HCH.out).mono ?_); rintro e w1 ⟨rfl, hb1⟩; obtain ⟨r0, r1, r2, r3⟩ := (hR.belowN hb1).c2))
  have hF := ((hR.belowN hb1).set_ 0 (.int .i64 0)).set_ 1 (.slice none 0 0)
  try rw [Exit.noGoto_ret]
  refine bodyPost_ret (results_rowP rfl _ _ (w.heap.size + 1 + 1) _ #[.int .i64 0, .slice none 0 0] (0, 0) _ rfl hF Tryz.underlying42 rfl (by kernel_rfl)) rfl ⟨none, 0, 0, rfl, TOut.nil _ _, ?_⟩
  exact ((hb0.trans (hb1.mono hb0.size)).setCell (p := ⟨w.heap.size + 1 + 1, 0, none⟩) hq3 _).setCell (p := ⟨w.heap.size + 1 + 1, 1, none⟩) hq3 _
end Go.Proofs.YtcamcnahkdiefaaGreat

/- Chapter 24: symbol.After of a program's registers, of which blocks the results are. -/
namespace Go.Proofs.YtcamcnahkdiefaaGreat
set_option linter.unusedVariables false
set_option linter.unusedSimpArgs false
open Go.RowKit
theorem MAftQ_calls (QP : Nat → Prop) (p : PrD) (vn : Nat) (t : Int) (now fixed : List (List Tm)) (sa : Option Addr) (sn sc : Nat) (hs : List PoH) (hsn : sn = hs.length) (w : World) (hp : At w p.a p.l) (hpl : p.l.length ≤ 1000000) (hst : At w sa hs)
    (hP : PsAt (fun q => QP q ∧ q < w.heap.size) w (vn : Int) hs (fullS p.regs (vn : Int) t now fixed)) (hA : AllP (vn : Int) (fullS p.regs (vn : Int) t now fixed)) (h1 : 1 ≤ sn) (E : Int) (R : List (List Tm)) (hR : runC p (vn : Int) t now fixed = (E, R)) :
    Calls Tryz.prog 19 #[.agg #[.int .i64 p.regs, .slice p.a p.l.length p.c], .slice sa sn sc] w (PolysOutQ QP (vn : Int) R E w) := by
  have hvs := hP.vs
  have hR' : afterS p.regs p.l (hs.map (fun y : PoH => y.v)) (fullS p.regs (vn : Int) t now fixed) = (E, R) := by
    rw [hvs]
    exact hR
  have h := AfterQ_calls p.regs p.a p.c p.l sa sn sc hs _ hsn QP w hp hpl hst (hP.toV hA) E R hR'
  have hhd : (hs.map (fun y : PoH => y.v)).headD 0 = (vn : Int) := by
    rw [hvs]
    obtain ⟨m, hm⟩ : ∃ m, (fullS p.regs (vn : Int) t now fixed).length = m + 1 := ⟨(fullS p.regs (vn : Int) t now fixed).length - 1, by rw [← hP.1]; omega⟩
    rw [hm]
    rfl
  rw [hhd] at h
  exact h
theorem fullS_of {vn : Nat} {rg : Nat} {t : Int} {now fixed : List (List Tm)} {k : Nat} (hk : now.length + fixed.length + (moreS (vn : Int) t).length + k = rg) : now ++ fixed ++ moreS (vn : Int) t ++ List.replicate k [] = fullS (rg : Int) (vn : Int) t now fixed := by
  unfold fullS
  rw [show (rg : Int).toNat - (now ++ fixed ++ moreS (vn : Int) t).length = k by simp; omega]
theorem moreS_one {vn t : Nat} {tv : UInt64} (h : UInt64.ofNat t = tv) : moreS (vn : Int) (t : Int) = consS (vn : Int) [tv] := by
  unfold moreS consS
  rw [if_neg (by omega), Int.toNat_natCast, h]
  rfl
theorem moreS_none {vn : Nat} : moreS (vn : Int) (-1) = [] := by
  unfold moreS
  rw [if_pos (by decide)]
end Go.Proofs.YtcamcnahkdiefaaGreat

/- Chapter 24: model.Composite. -/
namespace Go.Proofs.YtcamcnahkdiefaaGreat
set_option linter.unusedVariables false
set_option linter.unusedSimpArgs false
open Go.RowKit
set_option maxRecDepth 100000 in
set_option maxHeartbeats 12800000 in
theorem MComp_good (c : ChD) (hc : c.Ok) (xn tn ln vn : Nat) (hvn : xn + tn = vn) (hcx : c.x = (xn : Int)) (hth : c.th = List.replicate tn 0) (hln : ln < 65536) (hmay : c.mayM (ln : Int) = 0) (w : World)
    (hp : At w c.p.a c.p.l) (hpl : c.p.l.length ≤ 1000000) (hq : At w c.q.a c.q.l) (hql : c.q.l.length ≤ 1000000) (E : Int) (L : List Tm) (hC : c.compC xn vn ln = (E, L)) (V : Int) (hV : (if E = 0 then (vn : Int) else 0) = V) :
    Calls Tryz.prog 29 #[.agg #[.int .i64 c.p.regs, .slice c.p.a c.p.l.length c.p.c], .agg #[.int .i64 c.q.regs, .slice c.q.a c.q.l.length c.q.c], .int .i64 (xn : Int), .int .i64 (tn : Int), .int .i64 (ln : Int)] w (PolyAll V L E w) := by
  have hx1 := hc.x1
  have hx2 := hc.x2
  have ht2 := hc.t2
  have hr1 := hc.r1
  have hr2 := hc.r2
  rw [hcx] at hx1 hx2 hr1 hr2
  have htl : c.th.length = tn := by rw [hth, List.length_replicate]
  rw [htl] at ht2 hr1 hr2
  obtain ⟨f, hfl, hgf⟩ := hc.hp
  obtain ⟨g, hgl, hgg⟩ := hc.hq
  clear hfl hgl
  obtain ⟨hX, hY, hR, hb0, hz0⟩ := three_boxes w 24 24 42 #[.int .i64 c.p.regs, .slice c.p.a c.p.l.length c.p.c] #[.int .i64 c.q.regs, .slice c.q.a c.q.l.length c.q.c] #[.int .i64 0, .slice none 0 0]
  have HMY := hide (fun (W : World) (a : Option Addr) (hW : Below w.heap.size w W) (hA : At W a (List.replicate tn (0 : UInt64))) => MayN_calls c tn hth ht2 a (ln : Int) W (hp.belowN hW) hpl (hq.belowN hW) hql hA (by omega) 0 hmay)
  rw [hcx] at HMY
  obtain ⟨w1, hw1⟩ : ∃ w1, w1 = ((w.alloc (.cells #[.int .i64 c.p.regs, .slice c.p.a c.p.l.length c.p.c] 24)).alloc (.cells #[.int .i64 c.q.regs, .slice c.q.a c.q.l.length c.q.c] 24)).alloc (.cells #[.int .i64 0, .slice none 0 0] 42) := ⟨_, rfl⟩
  rw [← hw1] at hX hY hR hb0
  obtain ⟨p0, p1, p2, p3⟩ := hX.c2
  obtain ⟨p4, p5, p6, p7⟩ := hY.c2
  obtain ⟨S', hS'⟩ : ∃ S' : World → Prop, S' = fun w' => (w'.cell? ⟨w.heap.size, 0, none⟩ = some (.int .i64 c.p.regs) ∧ w'.cell? ⟨w.heap.size, 1, none⟩ = some (.slice c.p.a c.p.l.length c.p.c)) ∧ w'.cell? ⟨w.heap.size + 1, 0, none⟩ = some (.int .i64 c.q.regs) ∧ w'.cell? ⟨w.heap.size + 1, 1, none⟩ = some (.slice c.q.a c.q.l.length c.q.c) := ⟨_, rfl⟩
  have HSE : Hid (∀ w', S' w' → (w'.cell? ⟨w.heap.size, 0, none⟩ = some (.int .i64 c.p.regs) ∧ w'.cell? ⟨w.heap.size, 1, none⟩ = some (.slice c.p.a c.p.l.length c.p.c)) ∧ w'.cell? ⟨w.heap.size + 1, 0, none⟩ = some (.int .i64 c.q.regs) ∧ w'.cell? ⟨w.heap.size + 1, 1, none⟩ = some (.slice c.q.a c.q.l.length c.q.c)) := hide (fun w' h => by rw [hS'] at h; exact h)
  have HSI : Hid (∀ w4, Below w1.heap.size w1 w4 → S' w4) := hide (fun w4 h4 => by
    rw [hS']
    have a1 := (hX.belowN h4).c2
    have a2 := (hY.belowN h4).c2
    exact ⟨⟨a1.1, a1.2.1⟩, a2.1, a2.2.1⟩)
  have hdw : Below w1.heap.size w1 w1.drew := Below.drew (Below.refl _ _)
  have hmk := mkU tn (tn : Int) rfl (by omega)
  have hz1 := hb0.size
  have hq3 : w.heap.size ≤ w.heap.size + 1 + 1 := by omega
  have d1 : ¬ (tn : Int) < 0 := by omega
  have d2 : ¬ 64 < (tn : Int) := by omega
  have h64 : vn ≤ 64 := by have := hgf.r2; omega
  have HVN := hide hvn
  have HV := hide hV
  have HC := hide hC
  have HRG := hide (show (vn : Int) + 1 ≤ c.p.regs ∧ c.p.regs ≤ 64 ∧ (vn : Int) ≤ c.q.regs ∧ c.q.regs ≤ 64 from ⟨by omega, hgf.r2, by omega, hgg.r2⟩)
  have hvI : (xn : Int) + (tn : Int) = (vn : Int) := by omega
  clear hS' hth hcx hz0 hvn hV hC hr1 hr2 htl hmay
  go_enter Tryz.func29, Tryz.ntmps29
  go_wp2
  refine wp_scope_straight ?_
  go_wp2
  rw [← hw1]
  clear hw1
  refine wp_region_fan [0, 1, 2, 3, 5] [4, 6] [] [7] S' (by kernel_rfl) (by kernel_rfl) (HSI.out _ hdw) ?_
  simp only [pickL, List.filterMap_cons, List.filterMap_nil, List.getElem?_cons_succ, List.getElem?_cons_zero]
  iterate 5
    apply headK_step (by rfl)
    · intro w' hw'
      obtain ⟨⟨s0, s1⟩, s2, s3⟩ := HSE.out w' hw'
      go_simp
      rfl
    intro a' ha'
    simp only [Act.put, List.setIfInBounds_toArray, List.set_cons_succ, List.set_cons_zero] at ha'
    subst ha'
  refine headK_nil ?_
  rw [midF]
  intro K0 hK0
  have HK0 := hide hK0
  clear hK0
  go_simp
  have hB2 : Below w1.heap.size w1 (w1.alloc (.cells (zerosU tn) 50)).drew := Below.drew (below_box w1 _)
  have hZ2 := ((ownZ (B := w1.heap.size) w1 (Nat.le_refl _) tn (by omega)).belowN (Below.drew (Below.refl _ _))).at_
  refine HK0.out _ _ (HSI.out _ hB2) ?_
  clear HK0
  rw [midF]
  intro K0 hK0
  have HK0 := hide hK0
  clear hK0
  go_simp
  go_at_call 52
  refine (HMY.out _ _ (hb0.trans (hB2.mono hz1)) hZ2).mono ?_
  rintro e w2 ⟨rfl, hb2⟩
  have hB3 := hB2.trans (hb2.mono hB2.size)
  refine HK0.out _ _ (HSI.out _ hB3) ?_
  clear HK0 HSI HSE hZ2
  rw [midF]
  refine headK_nil ?_
  go_wp2
  refine NoPanic.normal ?_
  have hX2 := hX.belowN hB3
  have hY2 := hY.belowN hB3
  have hR2 := hR.belowN hB3
  have hBw2 := hb0.trans (hB3.mono hz1)
  have hz2 := hBw2.size
  have hlR := hR2.lt
  clear hmk hX hY hR hB2 hB3 hb2 hb0 HMY p0 p1 p2 p3 p4 p5 p6 p7 hdw hz1
  have hV3 := Blk.new w2 3 #[.int .i64 (vn : Int)]
  obtain ⟨v0, v1⟩ := hV3.c1
  have hbV := below_box w2 (.cells #[.int .i64 (vn : Int)] 3)
  go_wp2
  clear hvI v0 v1
  obtain ⟨w3, hw3⟩ : ∃ w3, w3 = w2.alloc (.cells #[.int .i64 (vn : Int)] 3) := ⟨_, rfl⟩
  have hs3 : w3.heap.size = w2.heap.size + 1 := by rw [hw3, World.size_alloc]
  have HS3 := hide hs3
  rw [← hw3] at hV3 hbV ⊢
  clear hw3 hs3
  have hX3 := hX2.belowN hbV
  have hY3 := hY2.belowN hbV
  have hR3 := hR2.belowN hbV
  have hBw3 := hBw2.trans (hbV.mono hz2)
  have hz3 := hBw3.size
  have hlR3 := hR3.lt
  have hlV := hV3.lt
  clear hX2 hY2 hR2 hBw2 hbV hlR
  go_loopw [14, 51] (fun rv iv wr => ∃ (i : Nat) (ra : Option Addr) (rc : Nat) (hs : List PoH), rv = .slice ra i rc ∧ iv = .int .i64 i ∧ i ≤ vn ∧ Own wr w3.heap.size 42 ra rc hs ∧ i = hs.length ∧ PsAt (fun q => ra.map (·.block) ≠ some q ∧ w3.heap.size ≤ q) wr (vn : Int) hs ((startP vn).take i) ∧ Below w3.heap.size w3 wr) (fun _ iv _ => vn - (intOf iv).toNat)
  case atStart =>
    refine ⟨0, none, 0, [], rfl, rfl, by omega, Own.none _ _ _, rfl, ?_, Below.refl _ _⟩
    rw [List.take_zero]
    exact PsAt.nil _ _ _
  case round =>
    obtain ⟨i, ra, rc, hs, rfl, rfl, hi, hown, hil, hP3, hb3⟩ := hrel
    have hz4 := hb3.size
    have hP4 := hP3.bounded
    obtain ⟨v0, v1⟩ := (hV3.belowN hb3).c1
    by_cases hlt : i < vn
    · obtain ⟨v2, v3, v4, v5⟩ := var_facts h64 hlt
      obtain ⟨LL, hL⟩ : ∃ L, varL (vn : Int) (i : Int) = L := ⟨_, rfl⟩
      have htk : (startP vn).take (i + 1) = (startP vn).take i ++ [LL] := by rw [List.take_add_one, startP_get hlt, hL]; rfl
      have HPV := hide (PVar_calls (vn : Int) (i : Int) wr (vn : Int) LL 0 v3 hL v2)
      have HTK := hide htk
      have HL1 := hide hil
      clear v2 v3 v4 v5 hL htk hP3 hil
      obtain ⟨w4, rfl⟩ : ∃ w4 : World, w4 = wr := ⟨_, rfl⟩
      go_wp2_with (first
        | (at_builtin; go_must (have hgd := hT9; refine wpList_push tyPo hown10 ⟨(vn : Int), a9, n9, c9⟩ rfl rfl rfl rfl rfl (by simp) HL1.out hz10 (by omega) ?_; intro a4 c4 w5 hown6 hg6 hcs6))
        | (go_at_call 41; go_must ((with_reducible refine (HPV.out).mono ?_); rintro vv w9 ⟨a9, n9, c9, rfl, hT9, hb9⟩; have hb10 := hb9.trans ((below_box w9 (.cells #[.int .i64 (vn : Int), .slice a9 n9 c9] 42)).mono hb9.size); have hown10 := hown.belowN hb10; have hz10 : w3.heap.size ≤ (w9.alloc (.cells #[.int .i64 (vn : Int), .slice a9 n9 c9] 42)).heap.size := (by have := hb10.size; omega); have hN10 := Blk.new w9 42 #[.int .i64 (vn : Int), .slice a9 n9 c9]; obtain ⟨n0, n1, n2, n3⟩ := hN10.c2)))
      have hb12 := below_push (hb3.trans (hb10.mono hz4)) hown10 hg6 hz10
      have hz9 := hb9.size
      have hP6 := ((hP4.belowN hb10).grown hg6 (fun q hq h => h.1.1 hq)).imp (Q := fun q => a4.map (·.block) ≠ some q ∧ w3.heap.size ≤ q) (fun q hq => ⟨ne_push hcs6 hq.1.1 (by have := hb10.size; omega), hq.1.2⟩)
      have hT10 := ((hT9.bounded.belowN (below_box w9 (.cells #[.int .i64 (vn : Int), .slice a9 n9 c9] 42))).grown hg6 (fun q hq h => by have := (hown.blk q hq).2; omega)).imp (Q := fun q => a4.map (·.block) ≠ some q ∧ w3.heap.size ≤ q) (fun q hq => ⟨ne_push hcs6 (fun e => by have := (hown.blk q e).2; omega) (by rw [World.size_alloc]; omega), by have := hq.1; omega⟩)
      go_roundw
      case rel =>
        refine ⟨i + 1, a4, c4, hs ++ [⟨(vn : Int), a9, n9, c9⟩], by go_num, by go_num, by omega, hown6, by have := HL1.out; simp; omega, ?_, hb12⟩
        rw [HTK.out]
        exact hP6.push rfl hT10
      case measure => simp [intOf] <;> omega
    · have hin : i = vn := by omega
      subst hin
      rw [List.take_of_length_le (by rw [startP_len]; exact Nat.le_refl _)] at hP4
      clear hP3
      have hne : hs ≠ [] := by rintro rfl; have := HVN.out; simp at hil; omega
      obtain ⟨gr, e1, hgB, hgz⟩ := hown.some_ hne
      subst e1
      have hcap := hown.cap
      have k1 : xn ≤ i := by have := HVN.out; omega
      have k2 : i ≤ rc := by omega
      have k3 : rc ≤ 9223372036854775807 := Nat.le_trans hcap.2 (by decide)
      have k4 : xn ≤ rc := by omega
      have hin : i - xn = tn := by have := HVN.out; omega
      have HIN := hide hin
      have HL1 := hide hil
      clear hin hil
      go_wp2
      go_region
      all_goals
        first
          | (have hN5 := ((Blk.new wr 27 #[.slice (some ⟨gr, 0, none⟩) xn xn]).alloc (.cells #[.slice (cutA (some ⟨gr, 0, none⟩) xn rc 2) (i - xn) (rc - xn)] 27)).belowN (Below.drew (Below.refl _ _))
             have hF5 := (Blk.new (wr.alloc (.cells #[.slice (some ⟨gr, 0, none⟩) xn xn] 27)) 27 #[.slice (cutA (some ⟨gr, 0, none⟩) xn rc 2) (i - xn) (rc - xn)]).belowN (Below.drew (Below.refl _ _))
             rw [World.size_alloc] at hF5
             have hb5 : Below wr.heap.size wr ((wr.alloc (.cells #[.slice (some ⟨gr, 0, none⟩) xn xn] 27)).alloc (.cells #[.slice (cutA (some ⟨gr, 0, none⟩) xn rc 2) (i - xn) (rc - xn)] 27)).drew := Below.drew ((below_box wr _).trans ((below_box (wr.alloc _) _).mono (by rw [World.size_alloc]; exact Nat.le_succ _)))
             obtain ⟨w5, hw5⟩ : ∃ W, W = ((wr.alloc (.cells #[.slice (some ⟨gr, 0, none⟩) xn xn] 27)).alloc (.cells #[.slice (cutA (some ⟨gr, 0, none⟩) xn rc 2) (i - xn) (rc - xn)] 27)).drew := ⟨_, rfl⟩
             obtain ⟨gF, hgF⟩ : ∃ g, g = wr.heap.size + 1 := ⟨_, rfl⟩
             obtain ⟨gN, hgN⟩ : ∃ g, g = wr.heap.size := ⟨_, rfl⟩
             rw [← hw5, ← hgF, ← hgN]
             rw [← hw5] at hN5 hF5 hb5
             rw [← hgF] at hF5
             rw [← hgN] at hN5
             have hgN0 : wr.heap.size ≤ gN := by omega
             have hgF0 : wr.heap.size ≤ gF := by omega
             have hNF : gN ≠ gF := by omega
             clear hw5 hgN hgF)
          | (have hF5 := ((Blk.new wr 27 #[.slice (cutA (some ⟨gr, 0, none⟩) xn rc 2) (i - xn) (rc - xn)]).alloc (.cells #[.slice (some ⟨gr, 0, none⟩) xn xn] 27)).belowN (Below.drew (Below.refl _ _))
             have hN5 := (Blk.new (wr.alloc (.cells #[.slice (cutA (some ⟨gr, 0, none⟩) xn rc 2) (i - xn) (rc - xn)] 27)) 27 #[.slice (some ⟨gr, 0, none⟩) xn xn]).belowN (Below.drew (Below.refl _ _))
             rw [World.size_alloc] at hN5
             have hb5 : Below wr.heap.size wr ((wr.alloc (.cells #[.slice (cutA (some ⟨gr, 0, none⟩) xn rc 2) (i - xn) (rc - xn)] 27)).alloc (.cells #[.slice (some ⟨gr, 0, none⟩) xn xn] 27)).drew := Below.drew ((below_box wr _).trans ((below_box (wr.alloc _) _).mono (by rw [World.size_alloc]; exact Nat.le_succ _)))
             obtain ⟨w5, hw5⟩ : ∃ W, W = ((wr.alloc (.cells #[.slice (cutA (some ⟨gr, 0, none⟩) xn rc 2) (i - xn) (rc - xn)] 27)).alloc (.cells #[.slice (some ⟨gr, 0, none⟩) xn xn] 27)).drew := ⟨_, rfl⟩
             obtain ⟨gN, hgN⟩ : ∃ g, g = wr.heap.size + 1 := ⟨_, rfl⟩
             obtain ⟨gF, hgF⟩ : ∃ g, g = wr.heap.size := ⟨_, rfl⟩
             rw [← hw5, ← hgN, ← hgF]
             rw [← hw5] at hN5 hF5 hb5
             rw [← hgN] at hN5
             rw [← hgF] at hF5
             have hgN0 : wr.heap.size ≤ gN := by omega
             have hgF0 : wr.heap.size ≤ gF := by omega
             have hNF : gN ≠ gF := by omega
             clear hw5 hgN hgF)
        rw [HIN.out] at hF5
        have hV5 := (hV3.belowN hb3).belowN hb5
        have hsz5 := hb5.size
        have hlN := hN5.lt
        have hBw5 := (hBw3.trans (hb3.mono hz3)).trans (hb5.mono (by omega))
        have hX5 := (hX3.belowN hb3).belowN hb5
        have hY5 := (hY3.belowN hb3).belowN hb5
        have hR5 := (hR3.belowN hb3).belowN hb5
        have hown5 := hown.belowN hb5
        have hatN := hown5.at_.takeN xn
        have hatF : At w5 (cutA (some ⟨gr, 0, none⟩) xn rc 2) (hs.drop xn) := hown5.at_.cut (by rw [← HL1.out]; exact k2)
        have hP5 := (hP4.belowN hb5).imp (Q := fun q => (q ≠ gN ∧ q ≠ w.heap.size + 1 + 1) ∧ q < w5.heap.size) (fun q hq => ⟨⟨by omega, by omega⟩, by omega⟩)
        have hPN := hP5.take xn
        have hPF := hP5.drop xn
        have hAll := startP_all h64
        have hAN : AllP (i : Int) ((startP i).take xn) := fun M hM => hAll M (List.mem_of_mem_take hM)
        have hAF : AllP (i : Int) ((startP i).drop xn) := fun M hM => hAll M (List.mem_of_mem_drop hM)
        have HF0 := hide (show FullAt (fun q => q ≠ gN ∧ q ≠ w.heap.size + 1 + 1) w5 gN gF w2.heap.size (some ⟨gr, 0, none⟩) (cutA (some ⟨gr, 0, none⟩) xn rc 2) xn tn xn (rc - xn) (hs.take xn) (hs.drop xn) i ((startP i).take xn) ((startP i).drop xn) from ⟨hN5, hF5, hV5, hatN, hatF, hPN, hPF⟩)
        have HNL0 := hide (show xn = (hs.take xn).length by rw [List.length_take, ← HL1.out]; omega)
        have HTL := hide (show tn = (hs.drop xn).length by rw [List.length_drop, ← HL1.out]; exact HIN.out.symm)
        have HFL := hide (show ((startP i).drop xn).length = tn by rw [← hPF.1]; exact HTL.out.symm)
        have hgr5 : gr ≠ gN := by omega
        have hfaN : (cutA (some ⟨gr, 0, none⟩) xn rc 2).map (·.block) ≠ some gN := by rw [cutA_block]; simpa using hgr5
        obtain ⟨w4, rfl⟩ : ∃ w4 : World, w4 = wr := ⟨_, rfl⟩
        have hb45 : Below w4.heap.size w4 w5 := hb5
        obtain ⟨fa, hfa⟩ : ∃ a, a = cutA (some ⟨gr, 0, none⟩) xn rc 2 := ⟨_, rfl⟩
        obtain ⟨fc, hfc⟩ : ∃ a, a = rc - xn := ⟨_, rfl⟩
        obtain ⟨hf, hhf⟩ : ∃ a, a = hs.drop xn := ⟨_, rfl⟩
        obtain ⟨gV, hgV⟩ : ∃ a, a = w2.heap.size := ⟨_, rfl⟩
        rw [← hfa, ← hfc, ← hhf, ← hgV] at HF0
        rw [← hfa] at hfaN
        rw [← hhf] at HTL
        rw [← hgV]
        have hgV4 : gV < w4.heap.size := by omega
        have hb5a : Below w4.heap.size w5 w5 := Below.refl _ _
        have hlF := hF5.lt
        clear hfa hfc hhf hatF hPN hPF hP5 hown5 hV5 hN5 hF5 hatN hP4 hX3 hY3 hR3 hV3 v0 v1 hb3 hown hAll hgV hBw3 hlV HS3 k1 k2 k3 k4 hcap hgB hne
        go_wp2
        go_step3
        go_wp2
        go_loopw [21, 74] (fun ev iv wr => ∃ (t : Nat) (a' : Option Addr) (c' : Nat) (hn : List PoH), ev = .int .i64 0 ∧ iv = .int .i64 t ∧ t ≤ ln ∧ xn = hn.length ∧ FullAt (fun q => q ≠ gN ∧ q ≠ w.heap.size + 1 + 1) wr gN gF gV a' fa xn tn c' fc hn hf i (c.iterC xn i t).2 ((startP i).drop xn) ∧ (c.iterC xn i t).1 = 0 ∧ AllP (i : Int) (c.iterC xn i t).2 ∧ a'.map (·.block) ≠ some gN ∧ Below w4.heap.size w5 wr) (fun _ iv _ => ln - (intOf iv).toNat)
        case atStart => exact ⟨0, _, _, _, rfl, rfl, by omega, HNL0.out, HF0.out, rfl, hAN, by simpa using hgr5, hb5a⟩
        case round =>
          obtain ⟨t, a', c', hn, rfl, rfl, htl, hhn, hFA, hi0, hAs, hne', hb6⟩ := hrel
          have hz6 := hb6.size
          have hB6 : Below w.heap.size w wr := hBw5.trans (hb6.mono (by omega))
          have hX6 := hX5.below hb6 (by omega)
          have hY6 := hY5.below hb6 (by omega)
          have hR6 := hR5.below hb6 (by omega)
          have HNL := hide (show (c.iterC xn i t).2.length = xn by rw [← hFA.pn.1]; exact hhn.symm)
          have HRGo := HRG.out
          by_cases hlt : t < ln
          · obtain ⟨⟨E1, R1⟩, hR1⟩ : ∃ x, runC c.p (i : Int) (t : Int) (c.iterC xn i t).2 ((startP i).drop xn) = x := ⟨_, rfl⟩
            obtain ⟨rg, hrg⟩ : ∃ n : Nat, c.p.regs = (n : Int) := ⟨c.p.regs.toNat, by omega⟩
            obtain ⟨k, hk⟩ : ∃ k : Nat, xn + tn + 1 + k = rg := ⟨rg - (xn + tn + 1), by have := HVN.out; omega⟩
            obtain ⟨w16, w17⟩ := wrap_u64 (t := t) (by omega)
            obtain ⟨tv, htv⟩ : ∃ tv, UInt64.ofNat t = tv := ⟨_, rfl⟩
            rw [htv] at w17
            have hwv : IntKind.u64.wrap (t : Int) = (tv.toNat : Int) := by rw [w16, w17]
            have hAF2 := fullS_all h64 c.p.regs (t : Int) hAs hAF
            have hFE0 : (c.iterC xn i t).2 ++ (startP i).drop xn ++ consS (i : Int) [tv] ++ List.replicate k [] = fullS c.p.regs (i : Int) (t : Int) (c.iterC xn i t).2 ((startP i).drop xn) := by
              rw [hrg, ← moreS_one htv]
              exact fullS_of (by rw [HNL.out, HFL.out, moreS_one htv]; exact hk)
            have hFE := hide hFE0
            clear hFE0
            have HCO := hide (fun (W : World) (a : Option Addr) (hW : At W a [tv]) => Consts_calls i h64 [tv] a 1 1 rfl W hW (by decide))
            have HFU := hide (fun (W : World) (a7 : Option Addr) (c7 : Nat) (h7 : List PoH) (hl7 : 1 = h7.length) (hW : Below wr.heap.size wr W) (hA7 : At W a7 h7) (hP7 : PsAt (fun q => (q ≠ gN ∧ q ≠ w.heap.size + 1 + 1) ∧ q < W.heap.size) W (i : Int) h7 (consS (i : Int) [tv])) =>
              FullM_calls (fun q => q ≠ gN ∧ q ≠ w.heap.size + 1 + 1) gN gF gV a' fa a7 xn tn 1 c' fc c7 hn hf h7 i h64 _ _ (consS (i : Int) [tv]) rg c.p.a c.p.l.length c.p.c hhn HTL.out hl7 k hk (by omega) W (hFA.belowN hW) hA7 hP7)
            rw [← hrg] at HFU
            have HAF := hide (fun (W : World) (a8 : Option Addr) (c8 : Nat) (h8 : List PoH) (hl8 : rg = h8.length) (hW : Below w.heap.size w W) (hA8 : At W a8 h8) (hP8 : PsAt (fun q => (q ≠ gN ∧ q ≠ w.heap.size + 1 + 1) ∧ q < W.heap.size) W (i : Int) h8 (fullS c.p.regs (i : Int) (t : Int) (c.iterC xn i t).2 ((startP i).drop xn))) =>
              MAftQ_calls (fun q => q ≠ gN ∧ q ≠ w.heap.size + 1 + 1) c.p i (t : Int) _ _ a8 rg c8 h8 hl8 W (hp.belowN hW) hpl hA8 hP8 hAF2 (by omega) E1 R1 hR1)
            have hsu := hide (c.iterC_succ xn i t hi0 hR1)
            have hA1 := runC_all h64 hAs hAF (by rw [HNL.out]; omega) hR1
            have HXR := hide (show E1 = 0 → xn ≤ R1.length from fun e0 => by
              subst e0
              rw [runC_len hR1]
              unfold fullS
              simp only [List.length_append]
              have := HNL.out
              omega)
            obtain ⟨S', hS'⟩ : ∃ S' : World → Prop, S' = fun w' => (w'.cell? ⟨w.heap.size, 0, none⟩ = some (.int .i64 c.p.regs) ∧ w'.cell? ⟨w.heap.size, 1, none⟩ = some (.slice c.p.a c.p.l.length c.p.c)) ∧ w'.cell? ⟨gV, 0, none⟩ = some (.int .i64 (i : Int)) := ⟨_, rfl⟩
            have HSE : Hid (∀ w', S' w' → (w'.cell? ⟨w.heap.size, 0, none⟩ = some (.int .i64 c.p.regs) ∧ w'.cell? ⟨w.heap.size, 1, none⟩ = some (.slice c.p.a c.p.l.length c.p.c)) ∧ w'.cell? ⟨gV, 0, none⟩ = some (.int .i64 (i : Int))) := hide (fun w' h => by rw [hS'] at h; exact h)
            have HSI : Hid (∀ w4, Below wr.heap.size wr w4 → S' w4) := hide (fun w4 h4 => by
              rw [hS']
              have a1 := (hX6.belowN h4).c2
              exact ⟨⟨a1.1, a1.2.1⟩, (hFA.v.belowN h4).c1.1⟩)
            clear hS'
            have hd6 : Below wr.heap.size wr wr.drew := Below.drew (Below.refl _ _)
            obtain ⟨r0, r1, r2, r3⟩ := hR6.c2
            clear hR1 hrg w16 w17 htv hAF2
            obtain ⟨w6, rfl⟩ : ∃ w6 : World, w6 = wr := ⟨_, rfl⟩
            have HHN := hide hhn
            have HK := hide hk
            have hzn : w4.heap.size ≤ w6.heap.size := by omega
            clear hhn hk
            go_wp2
            refine wp_region_fan [0, 1, 2, 3, 4, 5] [6, 7, 8, 9, 10] [11, 12] [13, 14] S' (by kernel_rfl) (by kernel_rfl) (HSI.out _ hd6) ?_
            simp only [pickL, List.filterMap_cons, List.filterMap_nil, List.getElem?_cons_succ, List.getElem?_cons_zero]
            iterate 6
              apply headK_step (by rfl)
              · intro w' hw'
                obtain ⟨⟨s0, s1⟩, s2⟩ := HSE.out w' hw'
                go_simp
                rfl
              intro a' ha'
              simp only [Act.put, List.setIfInBounds_toArray, List.set_cons_succ, List.set_cons_zero] at ha'
              subst ha'
            refine headK_nil ?_
            rw [midF]
            intro K0 hK0
            have HK0 := hide hK0
            clear hK0
            go_simp
            have hB7 : Below w6.heap.size w6 (w6.alloc (.cells #[.int .u64 (tv.toNat : Int)] 50)).drew := Below.drew (below_box w6 _)
            have hA7 : At (w6.alloc (.cells #[.int .u64 (tv.toNat : Int)] 50)).drew (some ⟨w6.heap.size, 0, none⟩) [tv] := (At.ofBlk (Blk.new w6 _ #[.int .u64 (tv.toNat : Int)]) _ rfl).belowN (Below.drew (Below.refl _ _))
            refine HK0.out _ _ (HSI.out _ hB7) ?_
            clear HK0
            rw [midF]
            intro K0 hK0
            have HK0 := hide hK0
            clear hK0
            go_simp
            go_at_call 61
            refine (HCO.out _ _ hA7).mono ?_
            rintro e w7 ⟨a7, c7, h7, rfl, hO7, hl7, hP7, hb7⟩
            have hB8 := hB7.trans (hb7.mono hB7.size)
            have hs7 := hB7.size
            have hP7' := hP7.bounded.imp (Q := fun q => (q ≠ gN ∧ q ≠ w.heap.size + 1 + 1) ∧ q < w7.heap.size) (fun q hq => ⟨⟨by have := hq.1; omega, by have := hq.1; omega⟩, hq.2⟩)
            refine HK0.out _ _ (HSI.out _ hB8) ?_
            clear HK0
            rw [midF]
            intro K0 hK0
            have HK0 := hide hK0
            clear hK0
            go_simp
            go_at_call 60
            refine (HFU.out w7 a7 c7 h7 hl7.symm hB8 hO7.at_ hP7').mono ?_
            rintro e w8 ⟨a8, c8, h8, rfl, hO8, hl8, hP8, hb8⟩
            have hB9 := hB8.trans (hb8.mono hB8.size)
            have hs8 := hB8.size
            rw [hFE.out] at hP8
            have hP8' := hP8.bounded.imp (Q := fun q => (q ≠ gN ∧ q ≠ w.heap.size + 1 + 1) ∧ q < w8.heap.size) (fun q hq => ⟨by rcases hq.1 with h | h; exact h; exact ⟨by omega, by omega⟩, hq.2⟩)
            refine HK0.out _ _ (HSI.out _ hB9) ?_
            clear HK0
            rw [midF]
            intro K0 hK0
            have HK0 := hide hK0
            clear hK0
            go_simp
            go_at_call 19
            refine (HAF.out w8 a8 c8 h8 hl8.symm (hB6.trans (hB9.mono hB6.size)) hO8.at_ hP8').mono ?_
            rintro e w9 ⟨a9, n9, c9, h9, rfl, hn9, hO9, hP9, hb9⟩
            have hs9 := hB9.size
            have hBX := hB9.trans (hb9.mono hB9.size)
            refine HK0.out _ _ (HSI.out _ hBX) ?_
            clear HK0
            rw [midF]
            intro K0 hK0
            have HK0 := hide hK0
            clear hK0
            go_simp
            refine HK0.out _ _ (HSI.out _ hBX) ?_
            clear HK0 HSI HSE
            rw [midF]
            iterate 2
              apply headK_step (by rfl)
              · intro w' _
                go_simp
                rfl
              intro a' ha'
              simp only [Act.put, List.setIfInBounds_toArray, List.set_cons_succ, List.set_cons_zero] at ha'
              subst ha'
            refine headK_nil ?_
            clear hB9
            have hB9 := hBX
            clear hBX HCO HFU HAF hP7 hP7' hP8 hP8' hO7 hO8 hA7 hB7 hB8 hb7 hb8
            by_cases hE1 : E1 = 0
            · subst hE1
              have hxR := HXR.out rfl
              rw [if_pos rfl] at hsu
              have HSU := hsu
              have hk9 : xn ≤ c9 := by have h7 := hO9.cap.1; have h8 := hP9.1; omega
              have hkn9 : xn ≤ n9 := by omega
              have hc9 : c9 ≤ 9223372036854775807 := Nat.le_trans hO9.cap.2 (by decide)
              have hN9 := hFA.n.belowN hB9
              obtain ⟨n0, n1⟩ := hN9.c1
              have hg9 := grown_setCell w9 gN 0 (.slice a9 xn c9)
              have hfar : a9.map (·.block) ≠ some gN := fun e => by have := (hO9.blk gN e).1; omega
              have HFA9 := hide (show FullAt (fun q => q ≠ gN ∧ q ≠ w.heap.size + 1 + 1) (w9.setCell ⟨gN, 0, none⟩ (.slice a9 xn c9)) gN gF gV a9 fa xn tn c9 fc (h9.take xn) hf i (R1.take xn) ((startP i).drop xn) from
                ⟨hN9.set_ 0 (.slice a9 xn c9), (hFA.f.belowN hB9).grown hg9 (fun e => by injection e with e; omega), (hFA.v.belowN hB9).grown hg9 (fun e => by injection e with e; omega), (hO9.at_.takeN xn).grown hg9 (fun _ => .inl hfar), (hFA.af.belowN hB9).grown hg9 (fun _ => .inl hfaN),
                 (((hP9.bounded.imp (Q := fun q => (q ≠ gN ∧ q ≠ w.heap.size + 1 + 1) ∧ q < w9.heap.size) (fun q hq => ⟨by rcases hq.1 with h | h; exact h; exact ⟨by omega, by omega⟩, hq.2⟩)).take xn).grown hg9 (fun g e hq => hq.1.1 (by injection e with e; exact e.symm))).imp (fun q hq => ⟨hq.1, Nat.lt_of_lt_of_le hq.2 hg9.size⟩),
                 ((hFA.pf.belowN hB9).grown hg9 (fun g e hq => hq.1.1 (by injection e with e; exact e.symm))).imp (fun q hq => ⟨hq.1, Nat.lt_of_lt_of_le hq.2 (Nat.le_trans hB9.size hg9.size)⟩)⟩)
              have HLX := hide (show xn = (h9.take xn).length by rw [List.length_take]; have h8 := hP9.1; omega)
              have hbF : Below w4.heap.size w5 (w9.setCell ⟨gN, 0, none⟩ (.slice a9 xn c9)) := (hb6.trans (hB9.mono hzn)).setCell (p := ⟨gN, 0, none⟩) hgN0 _
              clear hsu hn9
              go_wp2
              refine NoPanic.normal ?_
              go_wp2
              go_roundw
              case rel =>
                refine ⟨t + 1, a9, c9, h9.take xn, by go_num, by go_num, by omega, HLX.out, ?_, by rw [HSU.out], ?_, hfar, hbF⟩
                · rw [HSU.out]; exact HFA9.out
                · rw [HSU.out]; exact fun M hM => hA1 M (List.mem_of_mem_take hM)
              case measure => simp [intOf] <;> omega
            · rw [if_neg hE1] at hsu
              have hcb := c.compC_bad xn i ln (t + 1) (by omega) hsu.out hE1
              rw [HC.out] at hcb
              injection hcb with e1 e2
              subst e1 e2
              have hV := HV.out
              rw [if_neg hE1] at hV
              subst hV
              have e1 : (E == 0) = false := by simpa using hE1
              have e2 : (E != 0) = true := by simpa using hE1
              obtain ⟨q0, q1, q2, q3⟩ := (hR6.belowN hB9).c2
              clear hsu hE1 HV HC hn9 r0 r1 r2 r3
              go_wp2
              refine NoPanic.normal ?_
              go_wp2
              try rw [Exit.noGoto_ret]
              have hF := (((hR6.belowN hB9)).set_ 0 (.int .i64 0)).set_ 1 (.slice none 0 0)
              refine bodyPost_ret (results_rowP rfl _ _ (w.heap.size + 1 + 1) _ #[.int .i64 0, .slice none 0 0] (0, 0) _ rfl hF Tryz.underlying42 rfl (by kernel_rfl)) rfl ⟨none, 0, 0, rfl, TOut.nil _ _, ?_⟩
              exact ((hB6.trans (hB9.mono hB6.size)).setCell (p := ⟨w.heap.size + 1 + 1, 0, none⟩) hq3 _).setCell (p := ⟨w.heap.size + 1 + 1, 1, none⟩) hq3 _

          · have htl2 : t = ln := by omega
            subst htl2
            obtain ⟨⟨E2, R2⟩, hR2'⟩ : ∃ x, runC c.q (i : Int) (-1) (c.iterC xn i t).2 ((startP i).drop xn) = x := ⟨_, rfl⟩
            obtain ⟨rg, hrg⟩ : ∃ n : Nat, c.q.regs = (n : Int) := ⟨c.q.regs.toNat, by omega⟩
            obtain ⟨k, hk⟩ : ∃ k : Nat, xn + tn + 0 + k = rg := ⟨rg - (xn + tn), by have := HVN.out; omega⟩
            have hAF2 := fullS_all h64 c.q.regs (-1) hAs hAF
            have hFE0 : (c.iterC xn i t).2 ++ (startP i).drop xn ++ [] ++ List.replicate k [] = fullS c.q.regs (i : Int) (-1) (c.iterC xn i t).2 ((startP i).drop xn) := by
              rw [hrg, ← moreS_none (vn := i)]
              exact fullS_of (by rw [HNL.out, HFL.out, moreS_none]; exact hk)
            have hFE := hide hFE0
            clear hFE0
            have HFU := hide (fun (W : World) (hW : Below wr.heap.size wr W) =>
              FullM_calls (fun q => q ≠ gN ∧ q ≠ w.heap.size + 1 + 1) gN gF gV a' fa none xn tn 0 c' fc 0 hn hf [] i h64 _ _ [] rg c.q.a c.q.l.length c.q.c hhn HTL.out rfl k hk (by omega) W (hFA.belowN hW) (At.nil _ _) (PsAt.nil _ _ _))
            rw [← hrg] at HFU
            have HAF := hide (fun (W : World) (a8 : Option Addr) (c8 : Nat) (h8 : List PoH) (hl8 : rg = h8.length) (hW : Below w.heap.size w W) (hA8 : At W a8 h8) (hP8 : PsAt (fun q => (q ≠ gN ∧ q ≠ w.heap.size + 1 + 1) ∧ q < W.heap.size) W (i : Int) h8 (fullS c.q.regs (i : Int) (-1) (c.iterC xn i t).2 ((startP i).drop xn))) =>
              MAftQ_calls (fun q => q ≠ gN ∧ q ≠ w.heap.size + 1 + 1) c.q i (-1) _ _ a8 rg c8 h8 hl8 W (hq.belowN hW) hql hA8 hP8 hAF2 (by omega) E2 R2 hR2')
            have hce := c.compC_end xn i t hi0 hR2'
            rw [HC.out] at hce
            injection hce with e1 e2
            subst e1
            have HXR := hide (show E = 0 → 1 ≤ R2.length from fun e0 => by
              subst e0
              rw [runC_len hR2']
              unfold fullS
              simp only [List.length_append]
              have := HNL.out
              omega)
            have HE2 := hide e2
            obtain ⟨S', hS'⟩ : ∃ S' : World → Prop, S' = fun w' => (w'.cell? ⟨w.heap.size + 1, 0, none⟩ = some (.int .i64 c.q.regs) ∧ w'.cell? ⟨w.heap.size + 1, 1, none⟩ = some (.slice c.q.a c.q.l.length c.q.c)) ∧ w'.cell? ⟨gV, 0, none⟩ = some (.int .i64 (i : Int)) := ⟨_, rfl⟩
            have HSE : Hid (∀ w', S' w' → (w'.cell? ⟨w.heap.size + 1, 0, none⟩ = some (.int .i64 c.q.regs) ∧ w'.cell? ⟨w.heap.size + 1, 1, none⟩ = some (.slice c.q.a c.q.l.length c.q.c)) ∧ w'.cell? ⟨gV, 0, none⟩ = some (.int .i64 (i : Int))) := hide (fun w' h => by rw [hS'] at h; exact h)
            have HSI : Hid (∀ w4, Below wr.heap.size wr w4 → S' w4) := hide (fun w4 h4 => by
              rw [hS']
              have a1 := (hY6.belowN h4).c2
              exact ⟨⟨a1.1, a1.2.1⟩, (hFA.v.belowN h4).c1.1⟩)
            clear hS'
            have hd6 : Below wr.heap.size wr wr.drew := Below.drew (Below.refl _ _)
            clear hR2' hrg hAF2 HC e2
            obtain ⟨w6, rfl⟩ : ∃ w6 : World, w6 = wr := ⟨_, rfl⟩
            have hzn : w4.heap.size ≤ w6.heap.size := by omega
            clear hhn hk hi0
            go_wp2
            refine wp_region_fan [0, 1, 2] [3, 4, 5] [6, 7] [8, 9] S' (by kernel_rfl) (by kernel_rfl) (HSI.out _ hd6) ?_
            simp only [pickL, List.filterMap_cons, List.filterMap_nil, List.getElem?_cons_succ, List.getElem?_cons_zero]
            iterate 3
              apply headK_step (by rfl)
              · intro w' hw'
                obtain ⟨⟨s0, s1⟩, s2⟩ := HSE.out w' hw'
                go_simp
                rfl
              intro a' ha'
              simp only [Act.put, List.setIfInBounds_toArray, List.set_cons_succ, List.set_cons_zero] at ha'
              subst ha'
            refine headK_nil ?_
            rw [midF]
            intro K0 hK0
            have HK0 := hide hK0
            clear hK0
            go_simp
            go_at_call 60
            refine (HFU.out w6.drew hd6).mono ?_
            rintro e w8 ⟨a8, c8, h8, rfl, hO8, hl8, hP8, hb8⟩
            have hB9 := hd6.trans (hb8.mono hd6.size)
            have hs8 := hd6.size
            rw [hFE.out] at hP8
            have hP8' := hP8.bounded.imp (Q := fun q => (q ≠ gN ∧ q ≠ w.heap.size + 1 + 1) ∧ q < w8.heap.size) (fun q hq => ⟨by rcases hq.1 with h | h; exact h; exact ⟨by omega, by omega⟩, hq.2⟩)
            refine HK0.out _ _ (HSI.out _ hB9) ?_
            clear HK0
            rw [midF]
            intro K0 hK0
            have HK0 := hide hK0
            clear hK0
            go_simp
            go_at_call 19
            refine (HAF.out w8 a8 c8 h8 hl8.symm (hB6.trans (hB9.mono hB6.size)) hO8.at_ hP8').mono ?_
            rintro e w9 ⟨a9, n9, c9, h9, rfl, hn9, hO9, hP9, hb9⟩
            have hs9 := hB9.size
            have hBX := hB9.trans (hb9.mono hB9.size)
            refine HK0.out _ _ (HSI.out _ hBX) ?_
            clear HK0
            rw [midF]
            intro K0 hK0
            have HK0 := hide hK0
            clear hK0
            go_simp
            refine HK0.out _ _ (HSI.out _ hBX) ?_
            clear HK0 HSI HSE
            rw [midF]
            iterate 2
              apply headK_step (by rfl)
              · intro w' _
                go_simp
                rfl
              intro a' ha'
              simp only [Act.put, List.setIfInBounds_toArray, List.set_cons_succ, List.set_cons_zero] at ha'
              subst ha'
            refine headK_nil ?_
            clear hB9
            have hB9 := hBX
            clear hBX HFU HAF hP8 hP8' hO8 hb8
            obtain ⟨q0, q1, q2, q3⟩ := (hR6.belowN hB9).c2
            by_cases hE1 : E = 0
            · subst hE1
              have hxR := HXR.out rfl
              have hV := HV.out
              rw [if_pos rfl] at hV
              subst hV
              obtain ⟨b9, off9, y9, rfl, hy9, y0, y1⟩ := hO9.at_.getPo (Below.refl _ _) (k := 0) (by have h8 := hP9.1; omega)
              simp only [Nat.zero_mul, Nat.add_zero] at y0 y1
              have h00 : 0 < n9 := by omega
              obtain ⟨hv9, hT9⟩ := hP9.get hy9.out
              have hnP : ¬ ((w.heap.size + 1 + 1 ≠ gN ∧ w.heap.size + 1 + 1 ≠ w.heap.size + 1 + 1) ∨ w8.heap.size ≤ w.heap.size + 1 + 1) := by omega
              rw [hv9] at y0
              have hF := ((hR6.belowN hB9).set_ 0 (.int .i64 (i : Int))).set_ 1 (.slice y9.a y9.n y9.c)
              have hTf := ((hT9.setCell (g := w.heap.size + 1 + 1) (i := 0) (.int .i64 (i : Int)) hnP).setCell (g := w.heap.size + 1 + 1) (i := 1) (.slice y9.a y9.n y9.c) hnP).imp (Q := fun _ => True) (fun _ _ => trivial)
              clear hn9 hv9
              go_wp2
              refine NoPanic.normal ?_
              go_wp2
              try rw [Exit.noGoto_ret]
              refine bodyPost_ret (results_rowP rfl _ _ (w.heap.size + 1 + 1) _ #[.int .i64 (i : Int), .slice y9.a y9.n y9.c] (0, 0) _ rfl hF Tryz.underlying42 rfl (by kernel_rfl)) rfl ⟨y9.a, y9.n, y9.c, rfl, ?_, ?_⟩
              · rw [HE2.out]; first | rw [if_pos rfl] | rw [if_pos trivial]
                have e9 : R2.headD [] = R2.getD 0 [] := by cases R2 <;> rfl
                rw [e9]
                exact hTf
              · exact ((hB6.trans (hB9.mono hB6.size)).setCell (p := ⟨w.heap.size + 1 + 1, 0, none⟩) hq3 _).setCell (p := ⟨w.heap.size + 1 + 1, 1, none⟩) hq3 _
            · have e2 := HE2.out
              rw [if_neg hE1] at e2
              subst e2
              have hV := HV.out
              rw [if_neg hE1] at hV
              subst hV
              have e1 : (E == 0) = false := by simpa using hE1
              have e2 : (E != 0) = true := by simpa using hE1
              clear hE1 HV hn9 HE2 HXR
              go_wp2
              refine NoPanic.normal ?_
              go_wp2
              try rw [Exit.noGoto_ret]
              have hF := (((hR6.belowN hB9)).set_ 0 (.int .i64 0)).set_ 1 (.slice none 0 0)
              refine bodyPost_ret (results_rowP rfl _ _ (w.heap.size + 1 + 1) _ #[.int .i64 0, .slice none 0 0] (0, 0) _ rfl hF Tryz.underlying42 rfl (by kernel_rfl)) rfl ⟨none, 0, 0, rfl, TOut.nil _ _, ?_⟩
              exact ((hB6.trans (hB9.mono hB6.size)).setCell (p := ⟨w.heap.size + 1 + 1, 0, none⟩) hq3 _).setCell (p := ⟨w.heap.size + 1 + 1, 1, none⟩) hq3 _

end Go.Proofs.YtcamcnahkdiefaaGreat

/- Chapter 24: model.Composite, whatever the arguments; the page's example, plain. -/
namespace Go.Proofs.YtcamcnahkdiefaaGreat
set_option linter.unusedVariables false
set_option linter.unusedSimpArgs false
open Go.RowKit
theorem dims_wrong {r1 r2 x t : Int} (h : t < 0 ∨ 64 < t) : dimsC r1 r2 x t = 10 := by
  unfold dimsC
  rw [if_pos (by omega)]
theorem bad_wrong (p q : PrD) (x t : Int) (h : t < 0 ∨ 64 < t) : (⟨p, q, x, List.replicate 65 0⟩ : ChD).bad ≠ 0 ∧ ∀ l, compS p q x t l = ((⟨p, q, x, List.replicate 65 0⟩ : ChD).bad, []) := by
  have e : (⟨p, q, x, List.replicate 65 0⟩ : ChD).bad = if pairS p q ≠ 0 then pairS p q else 10 := by
    unfold ChD.bad
    simp only [List.length_replicate]
    rw [dims_wrong (.inr (by decide))]
  rw [e]
  unfold compS
  rw [dims_wrong h]
  by_cases h1 : pairS p q ≠ 0
  · rw [if_pos h1]
    exact ⟨h1, fun l => by rw [if_pos h1]⟩
  · rw [if_neg h1]
    exact ⟨by decide, fun l => by rw [if_neg h1, if_pos (by decide)]⟩
theorem comp_may (p q : PrD) (x : Int) (tn : Nat) (l : Int) : ((mkC p q x (tn : Int)).mayM l ≠ 0 → compS p q x (tn : Int) l = ((mkC p q x (tn : Int)).mayM l, [])) ∧ ((mkC p q x (tn : Int)).mayM l = 0 → compS p q x (tn : Int) l = (mkC p q x (tn : Int)).compC x.toNat (x.toNat + tn) l.toNat) := by
  have eb : (mkC p q x (tn : Int)).bad = if pairS p q ≠ 0 then pairS p q else dimsC p.regs q.regs x (tn : Int) := by
    unfold ChD.bad
    simp [mkC]
  unfold ChD.mayM compS
  rw [eb]
  by_cases h1 : pairS p q ≠ 0
  · simp only [if_pos h1]
    exact ⟨fun _ => by first | rfl | trivial, fun h => absurd h h1⟩
  · simp only [if_neg h1]
    by_cases h2 : dimsC p.regs q.regs x (tn : Int) ≠ 0
    · simp only [if_pos h2]
      exact ⟨fun _ => by first | rfl | trivial, fun h => absurd h h2⟩
    · simp only [if_neg h2]
      by_cases h3 : l < 0 ∨ 65536 ≤ l
      · simp only [if_pos h3]
        exact ⟨fun _ => by first | rfl | trivial, fun h => by cases h⟩
      · simp only [if_neg h3]
        exact ⟨fun h => absurd rfl h, fun _ => by rw [Int.toNat_natCast]⟩
theorem MComp_calls (p q : PrD) (x t l : Int) (w : World) (hp : At w p.a p.l) (hpl : p.l.length ≤ 1000000) (hq : At w q.a q.l) (hql : q.l.length ≤ 1000000) (hx : -9223372036854775808 ≤ x ∧ x ≤ 9223372036854775807) (E : Int) (L : List Tm) (hC : compS p q x t l = (E, L)) (V : Int) (hV : (if E = 0 then x + t else 0) = V) :
    Calls Tryz.prog 29 #[.agg #[.int .i64 p.regs, .slice p.a p.l.length p.c], .agg #[.int .i64 q.regs, .slice q.a q.l.length q.c], .int .i64 x, .int .i64 t, .int .i64 l] w (PolyAll V L E w) := by
  by_cases hw : t < 0 ∨ 64 < t
  · obtain ⟨h0, h1⟩ := bad_wrong p q x t hw
    rw [h1 l] at hC
    injection hC with e1 e2
    subst e2
    rw [if_neg (by rw [← e1]; exact h0)] at hV
    subst hV
    by_cases h2 : t < 0
    · exact MComp_low p q x t l w hp hpl hq hql hx h2 E e1 (by rw [← e1]; exact h0)
    · exact MComp_high p q x t l w hp hpl hq hql hx h2 (by omega) (decide_eq_false h2) E e1 (by rw [← e1]; exact h0)
  · obtain ⟨tn, rfl⟩ : ∃ n : Nat, t = n := ⟨t.toNat, by omega⟩
    obtain ⟨h1, h2⟩ := comp_may p q x tn l
    by_cases hm : (mkC p q x (tn : Int)).mayM l = 0
    · rw [h2 hm] at hC
      obtain ⟨hO, hl0, hl1⟩ := ChD.mayM_ok hm
      have hx1 := hO.x1
      obtain ⟨xn, rfl⟩ : ∃ n : Nat, x = n := ⟨x.toNat, by have : (mkC p q x (tn : Int)).x = x := rfl; omega⟩
      obtain ⟨ln, rfl⟩ : ∃ n : Nat, l = n := ⟨l.toNat, by omega⟩
      simp only [Int.toNat_natCast] at hC
      exact MComp_good (mkC p q (xn : Int) (tn : Int)) hO xn tn ln (xn + tn) rfl rfl (mayC_th p q _ tn) (by omega) hm w hp hpl hq hql E L hC V (by rw [← hV]; simp)
    · rw [h1 hm] at hC
      injection hC with e1 e2
      subst e2
      rw [if_neg (by rw [← e1]; exact hm)] at hV
      subst hV
      exact MComp_bad (mkC p q x (tn : Int)) x tn rfl (mayC_th p q x tn) (by omega) l w hp hpl hq hql hx E e1 (by rw [← e1]; exact hm)
def exMP : Fo := .leaf ⟨3, 0, 0, 1, 0⟩ .nil
theorem exMP_good : Good 3 exMP := good_of_lit (by simp [exMP, Fo.ok]) (by decide)
theorem exMQ_good : Good 2 Fo.nil := good_of_lit (by simp [Fo.ok]) (by decide)
def ex24 (a : Option Addr) : ChD := ⟨⟨3, a, 1, exMP.flat⟩, ⟨2, none, 0, []⟩, 1, [3]⟩
theorem ex24_pair (a : Option Addr) : pairS (ex24 a).p (ex24 a).q = 0 := pairS_of exMP_good.check exMQ_good.check
theorem ex24_bad (a : Option Addr) : (ex24 a).bad = 0 := by
  unfold ChD.bad
  rw [if_neg (by simpa using ex24_pair a)]
  rfl
theorem ex24_may (a : Option Addr) : (ex24 a).mayM 4 = 0 := by
  unfold ChD.mayM
  rw [if_neg (by simpa using ex24_bad a)]
  rfl
theorem ex24_step (a : Option Addr) (t : Nat) (x f : DuD) : (ex24 a).dstep t [x] [f] = [mulD x f] := by
  unfold ChD.dstep
  show (dualR 3 exMP.flat ([x] ++ [f] ++ [(⟨UInt64.ofNat t, 0⟩ : DuD)])).take 1 = _
  rw [dualR_good exMP_good (by simp)]
  rfl
theorem ex24_loss (a : Option Addr) (x f : DuD) : (ex24 a).dloss [x] [f] = x := by
  unfold ChD.dloss
  show (dualR 2 Fo.nil.flat ([x] ++ [f])).getD 0 ⟨0, 0⟩ = _
  rw [dualR_good exMQ_good (by simp)]
  rfl
theorem ex24_pass (a : Option Addr) (x f : DuD) : (ex24 a).dpass [x] [f] 4 = mulD (mulD (mulD (mulD x f) f) f) f := by
  unfold ChD.dpass
  have h : (ex24 a).diter [x] [f] 4 = [mulD (mulD (mulD (mulD x f) f) f) f] := by
    simp only [ChD.diter, ex24_step]
  rw [h, ex24_loss]
theorem ex24_at0 (a : Option Addr) : (ex24 a).passAt [5] 4 0 = ⟨405, 81⟩ := by
  unfold ChD.passAt
  show (ex24 a).dpass [⟨5, 1⟩] [⟨3, 0⟩] 4 = _
  rw [ex24_pass]
  rfl
theorem ex24_at1 (a : Option Addr) : (ex24 a).passAt [5] 4 1 = ⟨405, 540⟩ := by
  unfold ChD.passAt
  show (ex24 a).dpass [⟨5, 0⟩] [⟨3, 1⟩] 4 = _
  rw [ex24_pass]
  rfl
theorem ex24_grad (a : Option Addr) : (ex24 a).gV [5] 4 = 405 ∧ (ex24 a).gX [5] 4 = [81] ∧ (ex24 a).gT [5] 4 = [540] := by
  refine ⟨?_, ?_, ?_⟩
  · unfold ChD.gV
    rw [if_pos (ex24_may a)]
    show ((ex24 a).passAt [5] 4 1).v = 405
    rw [ex24_at1]
  · unfold ChD.gX
    rw [if_pos (ex24_may a)]
    show [((ex24 a).passAt [5] 4 0).d] = _
    rw [ex24_at0]
  · unfold ChD.gT
    rw [if_pos (ex24_may a)]
    show [((ex24 a).passAt [5] 4 1).d] = _
    rw [ex24_at1]
theorem ex24_al (a : Option Addr) : (ex24 a).alD [5] 4 1 = ⟨405, 540⟩ ∧ (ex24 a).alE 1 4 1 = 0 := by
  have h : (ex24 a).alE 1 4 1 = 0 := by
    unfold ChD.alE
    rw [if_neg (by simpa using ex24_may a)]
    rfl
  refine ⟨?_, h⟩
  unfold ChD.alD
  show (if (ex24 a).alE 1 4 1 = 0 then (ex24 a).passAt [5] 4 1 else _) = _
  rw [h, if_pos rfl, ex24_at1]
theorem exC_key (a : Option Addr) (t : Int) (now fixed : List (List Tm)) (F : List (List Tm)) (hF : fullS 3 2 t now fixed = F) : runC ⟨3, a, 1, exMP.flat⟩ 2 t now fixed = if (F.length : Int) ≠ 3 then (10, []) else if okStart (((List.replicate F.length (2 : Int))).headD 0) (List.replicate F.length 2) F = false then (2, []) else runS (((List.replicate F.length (2 : Int))).headD 0) exMP.unroll F := by
  unfold runC
  dsimp only
  rw [hF]
  unfold afterS
  rw [exMP_good.check, unrS_good exMP_good]
  rfl
theorem exC_last (now fixed : List (List Tm)) (F : List (List Tm)) (hF : fullS 2 2 (-1) now fixed = F) : runC ⟨2, none, 0, []⟩ 2 (-1) now fixed = if (F.length : Int) ≠ 2 then (10, []) else if okStart (((List.replicate F.length (2 : Int))).headD 0) (List.replicate F.length 2) F = false then (2, []) else runS (((List.replicate F.length (2 : Int))).headD 0) Fo.nil.unroll F := by
  unfold runC
  dsimp only
  rw [hF]
  unfold afterS
  rw [show checkS 2 ([] : List OpD) = 0 from exMQ_good.check, show unrS 2 ([] : List OpD) = Fo.nil.unroll from unrS_good exMQ_good]
  rfl
theorem exC_comp (a : Option Addr) : compS ⟨3, a, 1, exMP.flat⟩ ⟨2, none, 0, []⟩ 1 1 4 = (0, [(1, [1, 4])]) := by
  have hm := ex24_may a
  have h := (comp_may ⟨3, a, 1, exMP.flat⟩ ⟨2, none, 0, []⟩ 1 1 4).2 (by
    unfold ChD.mayM
    have hb : (mkC ⟨3, a, 1, exMP.flat⟩ ⟨2, none, 0, []⟩ 1 ((1 : Nat) : Int)).bad = 0 := by
      show (if pairS (ex24 a).p (ex24 a).q ≠ 0 then pairS (ex24 a).p (ex24 a).q else _) = _
      rw [if_neg (by simpa using ex24_pair a)]
      rfl
    rw [if_neg (by simpa using hb)]
    rfl)
  rw [show (((1 : Nat) : Int)) = 1 from rfl] at h
  rw [h]
  obtain ⟨c, hc⟩ : ∃ c, mkC ⟨3, a, 1, exMP.flat⟩ ⟨2, none, 0, []⟩ 1 1 = c := ⟨_, rfl⟩
  have hp : c.p = ⟨3, a, 1, exMP.flat⟩ := by rw [← hc]; rfl
  have hq : c.q = ⟨2, none, 0, []⟩ := by rw [← hc]; rfl
  rw [hc]
  have hfx : (startP 2).drop 1 = [[(1, [0, 1])]] := by kernel_rfl
  have i0 : c.iterC 1 2 0 = (0, [[(1, [1, 0])]]) := by
    show (0, (startP 2).take 1) = _
    kernel_rfl
  have step : ∀ (t : Nat) (k : Int), c.iterC 1 2 t = (0, [[(1, [1, k])]]) → ∀ R : List (List Tm), (∀ F, fullS 3 2 (t : Int) [[(1, [1, k])]] [[(1, [0, 1])]] = F → (if (F.length : Int) ≠ 3 then ((10 : Int), ([] : List (List Tm))) else if okStart (((List.replicate F.length (2 : Int))).headD 0) (List.replicate F.length 2) F = false then (2, []) else runS (((List.replicate F.length (2 : Int))).headD 0) exMP.unroll F) = (0, R)) → c.iterC 1 2 (t + 1) = (0, R.take 1) := by
    intro t k hi R hR
    have := c.iterC_succ 1 2 t (E := 0) (R := R) (by rw [hi]) (by
      rw [hp, hi, hfx]
      exact (exC_key a (t : Int) _ _ _ rfl).trans (hR _ rfl))
    rw [this, if_pos rfl]
  have i1 : c.iterC 1 2 1 = (0, [[(1, [1, 1])]]) := step 0 0 i0 [[(1, [1, 1])], [(1, [0, 1])], []] (by rintro F rfl; kernel_rfl)
  have i2 : c.iterC 1 2 2 = (0, [[(1, [1, 2])]]) := step 1 1 i1 [[(1, [1, 2])], [(1, [0, 1])], [(1, [0, 0])]] (by rintro F rfl; kernel_rfl)
  have i3 : c.iterC 1 2 3 = (0, [[(1, [1, 3])]]) := step 2 2 i2 [[(1, [1, 3])], [(1, [0, 1])], [(2, [0, 0])]] (by rintro F rfl; kernel_rfl)
  have i4 : c.iterC 1 2 4 = (0, [[(1, [1, 4])]]) := step 3 3 i3 [[(1, [1, 4])], [(1, [0, 1])], [(3, [0, 0])]] (by rintro F rfl; kernel_rfl)
  show c.compC 1 2 4 = _
  rw [c.compC_end 1 2 4 (E := 0) (R := [[(1, [1, 4])], [(1, [0, 1])]]) (by rw [i4]) (by
    rw [hq, i4, hfx]
    refine (exC_last _ _ _ rfl).trans ?_
    kernel_rfl), if_pos rfl]
  rfl
end Go.Proofs.YtcamcnahkdiefaaGreat
