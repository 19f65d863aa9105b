/- Chapter 15: the page's example, walked; the law SymbolTells, walked. -/
import Derived.Test.YtcamcnahkdiefaaGreatQ8
namespace Go.Proofs.YtcamcnahkdiefaaGreat
set_option linter.unusedVariables false
set_option linter.unusedSimpArgs false
open Go.RowKit
/-- what the first polynomials look like -/
theorem poly_look {P : Nat → Prop} {w wr : World} {va : Int} {a : Option Addr} {hs : List PoH} {R : List (List Tm)} (hO : At w a hs) (hP : PsAt P w va hs R) (hb : Below w.heap.size w wr) {k j : Nat} {L : List Tm} {t : Tm} (hk : R[k]? = some L) (hj : L[j]? = some t) {u : Int} (hu : (t.1.toNat : Int) = u) :
    ∃ (b off tb tf n c : Nat), a = some ⟨b, off, none⟩ ∧ wr.cell? ⟨b, off + k * 2, none⟩ = some (.int .i64 va) ∧ wr.cell? ⟨b, off + k * 2 + 1, none⟩ = some (.slice (some ⟨tb, tf, none⟩) n c) ∧ Hid (n = L.length) ∧ wr.cell? ⟨tb, tf + j * 2, none⟩ = some (.int .u64 u) := by
  have hkl := (List.getElem?_eq_some_iff.1 hk).1
  have hjl := (List.getElem?_eq_some_iff.1 hj).1
  obtain ⟨b, off, x, rfl, hx, c0, c1⟩ := hO.getPo hb (k := k) (by rw [hP.1]; exact hkl)
  obtain ⟨v, tx⟩ := hP.2 k x L hx.out hk
  obtain ⟨tb, tf, t', ea, en, ec, e1, e2, e3, _⟩ := tx.at_.at_.get hb hjl
  obtain rfl : t' = t := Option.some.inj (e2.out.symm.trans hj)
  rw [v] at c0
  rw [e1] at c1
  rw [hu] at e3
  exact ⟨b, off, tb, tf, x.n, x.c, rfl, c0, c1, hide tx.len, e3⟩
set_option maxRecDepth 100000 in
set_option maxHeartbeats 6400000 in
theorem goes15_calls (w : World) : Calls Tryz.prog 11 #[] w fun v w' => v = .returned (.bool true) ∧ Below w.heap.size w w' := by
  have hO := Blk.new w 89 #[.int .i64 1, .int .i64 0, .int .i64 0, .int .i64 1, .int .u64 0, .int .i64 3, .int .i64 0, .int .i64 0, .int .i64 0, .int .u64 0]
  have hX := Blk.new (w.alloc (.cells #[.int .i64 1, .int .i64 0, .int .i64 0, .int .i64 1, .int .u64 0, .int .i64 3, .int .i64 0, .int .i64 0, .int .i64 0, .int .u64 0] 89)) 24 #[.int .i64 2, .slice (some ⟨w.heap.size, 0, none⟩) 2 2]
  simp only [World.size_alloc] at hX
  have hb0 : Below w.heap.size w ((w.alloc (.cells #[.int .i64 1, .int .i64 0, .int .i64 0, .int .i64 1, .int .u64 0, .int .i64 3, .int .i64 0, .int .i64 0, .int .i64 0, .int .u64 0] 89)).alloc (.cells #[.int .i64 2, .slice (some ⟨w.heap.size, 0, none⟩) 2 2] 24)) := (below_box w _).alloc (by simp) _
  have hat : At (w.alloc (.cells #[.int .i64 1, .int .i64 0, .int .i64 0, .int .i64 1, .int .u64 0, .int .i64 3, .int .i64 0, .int .i64 0, .int .i64 0, .int .u64 0] 89)) (some ⟨w.heap.size, 0, none⟩) exO15.flat := At.ofBlk hO _ rfl
  have hat0 := hat.belowN (below_box _ (.cells #[.int .i64 2, .slice (some ⟨w.heap.size, 0, none⟩) 2 2] 24))
  obtain ⟨p0, p1, p2, p3⟩ := hX.c2
  have HP : Hid (∀ W, At W (some ⟨w.heap.size, 0, none⟩) exO15.flat → Calls Tryz.prog 12 #[.agg #[.int .i64 2, .slice (some ⟨w.heap.size, 0, none⟩) 2 2]] W (PolysOut 2 [exS15, [(1, [0, 1])]] 0 W)) := hide (fun W hW => Polys_calls 2 _ 2 exO15.flat W hW (by decide) 0 _ exO15_run)
  have HG : Hid (∀ W, At W (some ⟨w.heap.size, 0, none⟩) exO15.flat → Calls Tryz.prog 14 #[.agg #[.int .i64 2, .slice (some ⟨w.heap.size, 0, none⟩) 2 2], .int .i64 0] W (PolysOut 2 [sortT (drvT 0 exS15), exD15] 0 W)) := hide (fun W hW => Gradient_calls 2 _ 2 exO15.flat W hW (by decide) 0 0 _ exO15_grad)
  clear hO
  go_enter Tryz.func11, Tryz.ntmps11
  go_wp2_with (first
    | (go_at_call 12; go_must ((with_reducible refine (HP.out _ hat0).mono ?_); rintro v w1 ⟨a1, n1, c1, hs1, rfl, hn1, hown1, hP1, hb1⟩; obtain rfl : n1 = 2 := hn1; have hat1 := hat0.belowN hb1; obtain ⟨q0, q1, q2, q3⟩ := (hX.belowN hb1).c2))
    | (go_at_call 14; go_must ((with_reducible refine (HG.out _ hat1).mono ?_); rintro v w2 ⟨a2, n2, c2, hs2, rfl, hn2, hown2, hP2, hb2⟩; obtain rfl : n2 = 2 := hn2; obtain ⟨b, off, tb, tf, n, c, rfl, l0, l1, hn, l2⟩ := poly_look hown1.at_ hP1 hb2 (k := 0) (j := 1) (L := exS15) (t := (2, [1, 1])) rfl rfl (u := 2) rfl; obtain rfl : n = 3 := hn.out; obtain ⟨b', off', tb', tf', n', c', rfl, l3, l4, hn', l5⟩ := poly_look hown2.at_ hP2 (Below.refl _ _) (k := 1) (j := 0) (L := exD15) (t := (2, [1, 0])) rfl rfl (u := 2) rfl; obtain rfl : n' = 2 := hn'.out; simp only [Nat.zero_mul, Nat.add_zero, Nat.one_mul] at l0 l1 l2 l3 l4 l5)))
  go_ret
  exact ⟨rfl, hb0.trans ((hb1.trans (hb2.mono hb1.size)).mono hb0.size)⟩
theorem gradS_all {regs : Int} {l : List OpD} {k E : Int} {R : List (List Tm)} (h : gradS regs l k = (E, R)) : AllP regs R ∧ R.length ≤ 64 := by
  obtain ⟨E0, hE0⟩ : ∃ E, (polysS regs l).1 = E := ⟨_, rfl⟩
  obtain ⟨R0, hR0⟩ : ∃ R, (polysS regs l).2 = R := ⟨_, rfl⟩
  have hp : polysS regs l = (E0, R0) := by rw [← hE0, ← hR0]
  unfold gradS at h
  rw [hE0, hR0] at h
  split at h
  · simp only [Prod.mk.injEq] at h
    rw [← h.2]; exact ⟨fun L hL => (by cases hL), by simp⟩
  · rename_i h0
    split at h
    · simp only [Prod.mk.injEq] at h
      rw [← h.2]; exact ⟨fun L hL => (by cases hL), by simp⟩
    · rename_i hk
      simp only [Prod.mk.injEq] at h
      have hA := polysS_all hp
      have hcA := hA.get (k := k.toNat) (by omega)
      have hlen := (polysS_len hp).1 (Decidable.not_not.1 h0)
      have hv := (checkP_ok hcA).v
      have hv2 := (checkP_ok hcA).n64
      rw [← h.2]
      refine ⟨fun L hL => ?_, by simp; omega⟩
      obtain ⟨i, hi, rfl⟩ := List.mem_map.1 hL
      exact (drv_facts hcA (j := i) (by have := List.mem_range.1 hi; omega)).2.2.2.2
theorem polysS_64 {regs : Int} {l : List OpD} {E : Int} {R : List (List Tm)} (h : polysS regs l = (E, R)) : R.length ≤ 64 := by
  by_cases hE : E = 0
  · have h1 := (polysS_len h).1 hE
    by_cases hc : checkS regs l = 0
    · obtain ⟨f, rfl, g⟩ := good_of_check hc
      have := g.r2; omega
    · unfold polysS at h
      rw [if_neg hc] at h
      simp only [Prod.mk.injEq] at h
      exact absurd (h.1.trans hE) hc
  · rw [(polysS_len h).2 hE]; simp
set_option maxRecDepth 100000 in
set_option maxHeartbeats 6400000 in
theorem SymbolTells_calls (regs : Int) (a : Option Addr) (c : Nat) (l : List OpD) (k : Int) (w : World) (h : At w a l) (hl : l.length ≤ 1000000) :
    Calls Tryz.prog 3 #[.agg #[.int .i64 regs, .slice a l.length c], .int .i64 k] w fun e w' => e = .returned (.bool true) ∧ Below w.heap.size w w' := by
  have hb0 := below_box w (.cells #[.int .i64 regs, .slice a l.length c] 24)
  have hX := Blk.new w 24 #[.int .i64 regs, .slice a l.length c]
  obtain ⟨p0, p1, p2, p3⟩ := hX.c2
  have h1 := h.belowN hb0
  cases hs : small15 regs l with
  | false =>
    have HS := hide hs
    clear hs h
    go_enter Tryz.func3, Tryz.ntmps3
    go_wp2_with (first
      | (go_at_call 10; go_must ((with_reducible refine (Small15_calls regs a c l _ h1 hl false HS.out).mono ?_); rintro e w1 ⟨rfl, hC1⟩))
      | (go_at_call 11; go_must ((with_reducible refine (goes15_calls _).mono ?_); rintro e w8 ⟨rfl, hb8⟩)))
    go_ret
    exact ⟨rfl, hb0.trans ((hC1.trans (hb8.mono hC1.size)).mono hb0.size)⟩
  | true =>
    have HS := hide hs
    obtain ⟨⟨E, R⟩, hE⟩ : ∃ x, polysS regs l = x := ⟨_, rfl⟩
    obtain ⟨⟨G, D⟩, hG⟩ : ∃ x, gradS regs l k = x := ⟨_, rfl⟩
    have HE := hide hE
    have HG := hide hG
    have HR := hide (polysS_all hE)
    have HD := hide (gradS_all hG).1
    have hr64 := polysS_64 hE
    have hd64 := (gradS_all hG).2
    clear hs h hE hG
    go_enter Tryz.func3, Tryz.ntmps3
    go_wp2_with (first
      | (go_at_call 10; go_must ((with_reducible refine (Small15_calls regs a c l _ h1 hl true HS.out).mono ?_); rintro e w1 ⟨rfl, hC1⟩; obtain ⟨q0, q1, q2, q3⟩ := (hX.belowN hC1).c2))
      | (go_at_call 12; go_must ((with_reducible refine (Polys_calls regs a c l _ (h1.belowN hC1) hl E R HE.out).mono ?_); rintro e w2 ⟨a2, n2, c2, hs2, rfl, hn2, hown2, hP2, hb2⟩; have hC2 := hC1.trans (hb2.mono hC1.size); obtain ⟨q0, q1, q2, q3⟩ := (hX.belowN hC2).c2; have HN2 := hide hn2; clear hn2))
      | (go_at_call 13; go_must ((with_reducible refine (Polys15_calls regs a c l _ (h1.belowN hC2) hl E R HE.out).mono ?_); rintro e w3 ⟨a3, n3, c3, hs3, rfl, hn3, hown3, hP3, hb3⟩; have hC3 := hC2.trans (hb3.mono hC2.size); obtain ⟨q0, q1, q2, q3⟩ := (hX.belowN hC3).c2; obtain rfl : n3 = n2 := hn3.trans HN2.out.symm; clear hn3))
      | (go_at_call 14; go_must ((with_reducible refine (Gradient_calls regs a c l _ (h1.belowN hC3) hl k G D HG.out).mono ?_); rintro e w4 ⟨a4, n4, c4, hs4, rfl, hn4, hown4, hP4, hb4⟩; have hC4 := hC3.trans (hb4.mono hC3.size); obtain ⟨q0, q1, q2, q3⟩ := (hX.belowN hC4).c2; have HN4 := hide hn4; clear hn4))
      | (go_at_call 15; go_must ((with_reducible refine (Gradient15_calls regs a c l _ (h1.belowN hC4) hl k G D HG.out).mono ?_); rintro e w5 ⟨a5, n5, c5, hs5, rfl, hn5, hown5, hP5, hb5⟩; have hC5 := hC4.trans (hb5.mono hC4.size); obtain rfl : n5 = n4 := hn5.trans HN4.out.symm; clear hn5; have hb35 := hb4.trans (hb5.mono hb4.size); have hb25 := hb3.trans (hb35.mono hb3.size)))
      | (go_at_call 16; first
          | (have hgd := hC6; go_must ((with_reducible refine (Same15_calls _ _ regs a4 a5 n5 c4 c5 hs4 hs5 D HN4.out HD.out (by rw [HN4.out]; omega) w6 ((hown4.belowN hb5).at_.belowN hb6) (hown5.at_.belowN hb6) ((hP4.belowN hb5).belowN hb6) (hP5.belowN hb6)).mono ?_); rintro e w7 ⟨rfl, hb7⟩; have hC7 := hC6.trans (hb7.mono hC6.size)))
          | go_must ((with_reducible refine (Same15_calls _ _ regs a2 a3 n3 c2 c3 hs2 hs3 R HN2.out HR.out (by rw [HN2.out]; omega) w5 ((hown2.belowN hb25).at_) ((hown3.belowN hb35).at_) (hP2.belowN hb25) (hP3.belowN hb35)).mono ?_); rintro e w6 ⟨rfl, hb6⟩; have hC6 := hC5.trans (hb6.mono hC5.size)))
      | (go_at_call 11; go_must ((with_reducible refine (goes15_calls _).mono ?_); rintro e w8 ⟨rfl, hb8⟩)))
    go_ret
    exact ⟨rfl, hb0.trans ((hC7.trans (hb8.mono hC7.size)).mono hb0.size)⟩
end Go.Proofs.YtcamcnahkdiefaaGreat
