/- Chapter 20: SegmentBack. -/
import Derived.Test.YtokkidelbbegjaaS20f
namespace Go.Proofs.Ytokkidelbbegjaa
set_option linter.unusedVariables false
set_option linter.unusedSimpArgs false
open Go.RowKit
theorem isW_kind (f : Fo) (hf : f.ok) : ∀ j, f.isW j → ∃ x, f.flat[j]? = some x ∧ 1 ≤ x.kind ∧ x.kind ≤ 6 := by
  induction f with
  | nil => intro j h; exact h.elim
  | leaf op r ih =>
    intro j h
    obtain ⟨h1, h2, h3⟩ := hf
    rw [Fo.isW] at h
    cases j with
    | zero => exact ⟨op, rfl, h1, h2⟩
    | succ j => rw [if_neg (by omega)] at h; exact ih h3 j h
  | rep op b fin r ihb ihr =>
    intro j h
    obtain ⟨h1, h2, h3, h4⟩ := hf
    have hbs : b.size = b.flat.length := rfl
    rw [Fo.isW] at h
    cases j with
    | zero => rw [if_pos rfl] at h; exact h.elim
    | succ j =>
      rw [if_neg (by omega)] at h
      by_cases hj : j + 1 ≤ b.size + 1
      · rw [if_pos hj] at h
        obtain ⟨x, hx, hk⟩ := ihb h2 j h
        have hl := (List.getElem?_eq_some_iff.1 hx).1
        exact ⟨x, by show (b.flat ++ fin :: r.flat)[j]? = some x; rw [List.getElem?_append_left hl]; exact hx, hk⟩
      · rw [if_neg hj] at h
        obtain ⟨x, hx, hk⟩ := ihr h4 _ h
        refine ⟨x, ?_, hk⟩
        show (b.flat ++ fin :: r.flat)[j]? = some x
        rw [List.getElem?_append_right (by omega), show j - b.flat.length = (j + 1 - b.size - 2) + 1 by omega]
        exact hx
theorem atw_le (f : Fo) : ∀ n, ∀ r ∈ (f.atw n).2, r ≤ (n : Int) := by
  induction f with
  | nil => intro n r h; cases h
  | leaf op r ih => intro n x h; rw [Fo.atw] at h; split at h <;> first | cases h | (have := ih _ x h; omega)
  | rep op b fin r ihb ihr =>
    intro n x h
    rw [Fo.atw] at h
    split at h
    · rcases List.mem_cons.1 h with rfl | h
      · exact Int.ofNat_le.2 (Nat.div_le_self _ _)
      · have := ihb _ x h; have := Nat.mod_le n b.wr; omega
    · have := ihr _ x h; omega
theorem back20 {regs : Int} {f : Fo} (g : Good regs f) {n : Nat} (hn : n < f.wr) : placeS regs f.flat ((f.atw n).1 : Int) (f.atw n).2 = ((n : Int), 0) ∧
    ∃ bs, aroundS f.flat ((f.atw n).1 : Int) = (bs, 0) ∧ bs.length = (f.atw n).2.length ∧ ∀ k q, bs[k]? = some q → ∃ V U, segS regs f.flat q ((f.atw n).2.take (k + 1)) = (V, U, 0) ∧ V ≤ (n : Int) ∧ (n : Int) < U := by
  obtain ⟨h1, h2, h3⟩ := f.plc_atw n hn
  have hlt := f.atw_lt n hn
  obtain ⟨j, hj⟩ : ∃ j, j = (f.atw n).1 := ⟨_, rfl⟩
  obtain ⟨rs, hrs⟩ : ∃ rs, rs = (f.atw n).2 := ⟨_, rfl⟩
  rw [← hj] at h1 h2 h3 hlt ⊢
  rw [← hrs] at h1 h2 ⊢
  obtain ⟨x, hx, k1, k2⟩ := isW_kind f g.ok j h3
  have hA := around_good g.ok hx
  obtain ⟨hep, _⟩ := f.encl_pth g.ok 0 j x hx (by omega)
  have hST := Stands.whole g.ok
  have hrr := rgt_rok _ f 0 j rs hST (by omega) hep.symm
  have hl : j < f.flat.length := hlt
  refine ⟨?_, encl 0 f j, hA, rgt_length (hrr.2 h2), fun k q hq => ?_⟩
  · unfold placeS
    rw [if_neg (by rw [g.check]; simp), if_neg (by omega), hA, if_pos ⟨by unfold wAt; simp only [Int.toNat_natCast]; rw [hx]; exact dOf_true k1 k2, hrr.2 h2⟩, fo_flat g.ok]
    simp only [Int.toNat_natCast]
    rw [h1]
  · rw [hep] at hq
    obtain ⟨d, op, b, fin, r, e1, e2, e3, e4, e5, e6, e7⟩ := f.seg_in 0 j rs hST h2 h3 k q hq
    rw [Nat.zero_add] at e1 e2
    obtain ⟨p1, p2, p3, p4, p5, p6⟩ := plan_rep g.ok e2
    have hA2 := around_good g.ok p1
    obtain ⟨hep2, hep3⟩ := f.encl_pth g.ok 0 d op p1 (by omega)
    have hpt := hep3 p2
    rw [Nat.zero_add, ← hep2] at hpt
    have hrr2 := rgt_rok _ f 0 (d + 1) (rs.take (k + 1)) hST (by omega) hpt
    refine ⟨f.plc (d + 1) (rs.take (k + 1)), f.plc (d + 1) (rs.take (k + 1)) + (b.wr : Int), ?_, by omega, by omega⟩
    subst e1
    unfold segS
    rw [if_neg (by rw [g.check]; simp), if_neg (by omega), hA2, if_pos ⟨by unfold repAt; simp only [Int.toNat_natCast]; rw [p1]; simp [p2], hrr2.2 e5⟩, fo_flat g.ok]
    simp only [Int.toNat_natCast]
    rw [p5]
    rfl
theorem small_le20 {regs : Int} {l : List OpD} {m : Int} (h : small13 regs l m = true) : (l.length : Int) ≤ m := by
  unfold small13 at h
  simp only [Bool.and_eq_true, decide_eq_true_eq] at h
  exact h.1
set_option maxRecDepth 100000 in
set_option maxHeartbeats 3200000 in
theorem SegmentBack_calls (regs : Int) (a : Option Addr) (c : Nat) (l : List OpD) (n : Int) (w : World) (h : At w a l) :
    Calls Try.prog 6 #[.agg #[.int .i64 regs, .slice a l.length c], .int .i64 n] w fun e w' => e = .returned (.bool true) ∧ Below w.heap.size w w' := by
  have hb0 := below_new12 w (.cells #[.int .i64 regs, .slice a l.length c] 24)
  have hX := Blk.new w 24 #[.int .i64 regs, .slice a l.length c]
  have h1 := h.belowN hb0
  cases hs : small13 regs l 100 with
  | false =>
    have HS := hide hs
    clear hs
    go_enter Try.func6, Try.ntmps6
    go_wp2_with (first
      | (go_at_call 18; (with_reducible refine (Small13_calls regs a c l _ false HS.out _ h1 (by omega)).mono ?_); rintro e w1 ⟨rfl, hb1⟩; have hB1 := hb0.trans (hb1.mono hb0.size); have hz1 := hB1.size)
      | (go_at_call 10; (with_reducible refine (goes20_calls _).mono ?_); rintro e w8 ⟨rfl, hbel8⟩))
    go_ret
    exact ⟨rfl, hB1.trans (hbel8.mono hz1)⟩
  | true =>
    have hsl := small_le20 hs
    have HS := hide hs
    obtain ⟨I, Z, E, hAT⟩ : ∃ I Z E, atS regs l n = (I, Z, E) := ⟨_, _, _, rfl⟩
    have HAT := hide hAT
    by_cases hE : E = 0
    case neg =>
      have hIZ : I = 0 ∧ Z = [] := by
        unfold atS at hAT
        split at hAT
        · injection hAT with a1 a2; injection a2 with a2 a3; exact ⟨a1.symm, a2.symm⟩
        · split at hAT
          · injection hAT with a1 a2; injection a2 with a2 a3; exact absurd a3.symm hE
          · injection hAT with a1 a2; injection a2 with a2 a3; exact ⟨a1.symm, a2.symm⟩
      obtain ⟨rfl, rfl⟩ := hIZ
      have e1 : (E == 0) = false := by simpa using hE
      have e2 : (E != 0) = true := by simpa using hE
      clear hs hAT hE
      go_enter Try.func6, Try.ntmps6
      go_wp2_with (first
        | (go_at_call 18; (with_reducible refine (Small13_calls regs a c l _ true HS.out _ h1 (by omega)).mono ?_); rintro e w1 ⟨rfl, hb1⟩; have hB1 := hb0.trans (hb1.mono hb0.size); have hz1 := hB1.size; have hX1 := hX.belowN hb1; have h2 := h1.belowN hb1; obtain ⟨p0, p1, p2, p3⟩ := hX1.c2)
        | (go_at_call 13; go_must ((with_reducible refine (AtSN regs a c _ l rfl n 0 [] 0 rfl E HAT.out _ h2 (by omega)).mono ?_); rintro e w2 ⟨a2, c2, rfl, hown2, hb2⟩; have hB2 := hB1.trans (hb2.mono hz1); have hz2 := hB2.size))
        | (go_at_call 10; (with_reducible refine (goes20_calls _).mono ?_); rintro e w8 ⟨rfl, hbel8⟩))
      go_ret
      exact ⟨rfl, hB2.trans (hbel8.mono hz2)⟩
    subst hE
    obtain ⟨f, rfl, g, hn0, hnw⟩ : ∃ f : Fo, l = f.flat ∧ Good regs f ∧ 0 ≤ n ∧ n < (f.wr : Int) := by
      unfold atS at hAT
      split at hAT
      · rename_i hc; injection hAT with a1 a2; injection a2 with a2 a3; exact absurd a3 hc
      · rename_i hc
        obtain ⟨f, rfl, g⟩ := good_of_check (Decidable.not_not.1 hc)
        rw [fo_flat g.ok] at hAT
        split at hAT
        · rename_i hnn; exact ⟨f, rfl, g, hnn.1, hnn.2⟩
        · injection hAT with a1 a2; injection a2 with a2 a3; exact absurd a3 (by decide)
    obtain ⟨n, rfl⟩ : ∃ k : Nat, n = k := ⟨n.toNat, by omega⟩
    have hatv : (I, Z) = (((f.atw n).1 : Int), (f.atw n).2) := by
      unfold atS at hAT
      rw [if_neg (by rw [g.check]; simp), fo_flat g.ok, if_pos ⟨hn0, hnw⟩] at hAT
      injection hAT with a1 a2
      injection a2 with a2 a3
      simp only [Int.toNat_natCast] at a1 a2
      rw [a1, a2]
    injection hatv with hI hZ
    obtain ⟨b1, bs, b2, b3, b4⟩ := back20 g (show n < f.wr by omega)
    have hlt := f.atw_lt n (show n < f.wr by omega)
    have hZ0 : ∀ r ∈ Z, -9223372036854775808 ≤ r ∧ r ≤ 9223372036854775807 := fun r hr => by
      rw [hZ] at hr
      have h1 := atw_nonneg f n r hr
      have h2 := atw_le f n r hr
      have h3 := g.few
      omega
    obtain ⟨i, hi⟩ : ∃ i, i = (f.atw n).1 := ⟨_, rfl⟩
    rw [← hi] at hI b1 b2 hlt
    rw [← hZ] at b1 b3 b4
    subst hI
    obtain ⟨zn, hzn⟩ : ∃ zn, zn = Z.length := ⟨_, rfl⟩
    have HZN := hide hzn
    have HZN2 := hide (show zn = bs.length by rw [hzn, b3])
    have HB1 := hide b1
    have HB2 := hide b2
    have HB4 := hide b4
    have HZ0 := hide hZ0
    have hzl : zn ≤ 4096 := by
      rw [hzn, ← b3]
      have hel := encl_length f 0 i
      have : bs = encl 0 f i := by
        obtain ⟨x, hx⟩ : ∃ x, f.flat[i]? = some x := ⟨_, List.getElem?_eq_getElem hlt⟩
        have := around_good g.ok hx
        rw [b2] at this
        injection this
      rw [this]
      exact Nat.le_trans hel g.len
    have n1 : ((n : Int) == (n : Int)) = true := by simp
    have n2 : ((n : Int) != (n : Int)) = false := by simp
    have z2 : ((zn : Int) != (zn : Int)) = false := by simp
    clear hs hAT b1 b2 b3 b4 hZ hZ0 hi hzn g hn0 hnw hlt
    go_enter Try.func6, Try.ntmps6
    go_wp2_with (first
      | (go_at_call 18; (with_reducible refine (Small13_calls regs a c f.flat _ true HS.out _ h1 (by omega)).mono ?_); rintro e w1 ⟨rfl, hb1⟩; have hB1 := hb0.trans (hb1.mono hb0.size); have hz1 := hB1.size; have hX1 := hX.belowN hb1; have h2 := h1.belowN hb1; obtain ⟨p0, p1, p2, p3⟩ := hX1.c2)
      | (go_at_call 13; go_must ((with_reducible refine (AtSN regs a c _ f.flat rfl n i Z zn HZN.out 0 HAT.out _ h2 (by omega)).mono ?_); rintro e w2 ⟨a2, c2, rfl, hown2, hb2⟩; have hB2 := hB1.trans (hb2.mono hz1); have hz2 := hB2.size; have hX2 := hX1.belowN hb2; have h3 := h2.belowN hb2; obtain ⟨q0, q1, q2, q3⟩ := hX2.c2))
      | (go_at_call 11; go_must ((with_reducible refine (PlaceN regs a c _ f.flat rfl i a2 zn c2 Z HZN.out HZ0.out n 0 HB1.out _ h3 (by omega) hown2.at_ (by omega)).mono ?_); rintro e w3 ⟨rfl, hb3⟩; have hB3 := hB2.trans (hb3.mono hz2); have hz3 := hB3.size; have hX3 := hX2.belowN hb3; have h4 := h3.belowN hb3; have hown3 := hown2.belowN hb3; obtain ⟨r0, r1, r2, r3⟩ := hX3.c2))
      | (go_at_call 25; go_must ((with_reducible refine (AroundQ a c f.flat i _ bs 0 zn HZN2.out HB2.out h4 (by omega)).mono ?_); rintro e w4 ⟨a4, c4, rfl, hown4, hb4⟩; have hB4 := hB3.trans (hb4.mono hz3); have hz4 := hB4.size; have hX4 := hX3.belowN hb4; have h5 := h4.belowN hb4; have hZ4 := (hown3.belowN hb4).at_; have hcap := hown3.cap))
      | (go_at_call 10; (with_reducible refine (goes20_calls _).mono ?_); rintro e w8 ⟨rfl, hbel8⟩))
    have hbs4 := hown4.at_
    have hzc : zn ≤ c2 := by rw [HZN.out]; exact hcap.1
    clear hcap
    go_loopw [12, 13, 14, 15] (fun iv _ _ _ wr => ∃ j : Nat, iv = .int .i64 j ∧ j ≤ zn ∧ Below w4.heap.size w4 wr) (fun iv _ _ _ _ => zn - (intOf iv).toNat)
    case atStart => exact ⟨0, rfl, by omega, Below.refl _ _⟩
    case round =>
      obtain ⟨j, rfl, hj, hbr⟩ := hrel
      have hzr := hbr.size
      by_cases hjz : j < zn
      · have hXr := hX4.belowN hbr
        have hbsr := hbs4.belowN hbr
        have hZr := hZ4.belowN hbr
        obtain ⟨q, hq⟩ : ∃ q, bs[j]? = some q := ⟨_, List.getElem?_eq_getElem (by rw [← HZN2.out]; exact hjz)⟩
        obtain ⟨b7, off7, hba, y0⟩ := getI_at hbsr hq
        subst hba
        obtain ⟨V, U, hsg, hv1, hv2⟩ := HB4.out j q hq
        have HSG := hide hsg
        have HTK := hide (show j + 1 = (Z.take (j + 1)).length by rw [List.length_take, ← HZN.out]; omega)
        have HTZ := hide (fun r (hr : r ∈ Z.take (j + 1)) => HZ0.out r (List.mem_of_mem_take hr))
        have hT := hZr.take (j + 1)
        obtain ⟨p0, p1, p2, p3⟩ := hXr.c2
        have hxl := hXr.lt
        have hyl := World.block_lt_of_cell? _ _ y0
        have j0 : (0 : Int) ≤ (j : Int) := by omega
        have j1 : (j : Int) < (zn : Int) := by omega
        have j2 : IntKind.i64.wrap ((j : Int) + 1) = (j : Int) + 1 := IntWalk.i64_in _ (by omega)
        have j3 : (0 : Int) ≤ (j : Int) + 1 := by omega
        have j4 : (j : Int) + 1 ≤ (c2 : Int) := by omega
        have j5 : ((j : Int) + 1).toNat = j + 1 := by omega
        have h5r := h5.belowN hbr
        have hn9 := Below.drew (Below.refl wr.heap.size wr)
        clear hq hsg
        go_wp2
        go_region_held3 (fun w' => w'.cell? ⟨w.heap.size, 0, none⟩ = some (.int .i64 regs) ∧ w'.cell? ⟨w.heap.size, 1, none⟩ = some (.slice a f.flat.length c) ∧ w'.cell? ⟨b7, off7 + j, none⟩ = some (.int .i64 q)) (go_keep)
          ((go_at_call 16; go_must (refine (SegmentN regs a c _ f.flat rfl q a2 (j + 1) _ (Z.take (j + 1)) HTK.out HTZ.out V U 0 HSG.out _ (h5r.belowN hn9) (by omega) (hT.belowN hn9) (by omega)).mono ?_; rintro e w9 ⟨rfl, hb9⟩; have hB9 := hn9.trans (hb9.mono hn9.size); obtain ⟨s0, s1, s2, s3⟩ := (hXr.belowN hB9).c2; obtain ⟨t0, t1⟩ := bcell hB9; have t2 := (t0 b7 (off7 + j) hyl).trans y0)))
        have hv3 : ¬((n : Int) < V) := by omega
        have hv4 : ¬((n : Int) ≥ U) := by omega
        have hv5 : ¬(U ≤ (n : Int)) := by omega
        go_wp2
        go_roundw
        case rel => exact ⟨j + 1, by go_num, by omega, hbr.trans (hB9.mono hzr)⟩
        case measure => simp [intOf]; omega
      · go_wp2_with (go_at_call 10; (with_reducible refine (goes20_calls _).mono ?_); rintro e w8 ⟨rfl, hbel8⟩)
        go_ret
        have hBr := hB4.trans (hbr.mono hz4)
        exact ⟨rfl, hBr.trans (hbel8.mono hBr.size)⟩
end Go.Proofs.Ytokkidelbbegjaa
