/- Chapter 20, the document's answers: Segment. -/
import Derived.Test.YthncfoompoheoaaM20f
import Derived.Test.YthncfoompoheoaaSp
import Derived.Test.YthncfoompoheoaaS20e
namespace Go.Proofs.Ythncfoompoheoaa
set_option linter.unusedVariables false
set_option linter.unusedSimpArgs false
open Go.RowKit
attribute [local go_sem] idx_d
/-- A quiet callee, met where nothing was drawn ahead of the region. -/
theorem quietD {P : Program} {f : FuncId} {args : Array Value} {w : World} {n : Nat} {v : Value}
    (h : Calls P f args (w.drewN n) fun e w' => e = .returned v ∧ ∃ m, w' = (w.drewN n).drewN m) :
    Calls P f args (w.drewN n) fun e w'' => e = .returned v ∧ ∃ m, w'' = w.drewN m :=
  h.mono fun _ _ ⟨he, m, hm⟩ => ⟨he, n + m, by rw [hm, World.drewN_drewN]⟩
set_option maxRecDepth 100000 in
set_option maxHeartbeats 6400000 in
theorem Segment20_calls (regs : Int) (a : Option Addr) (c : Nat) (l : List OpD) (i : Int) (ra : Option Addr) (rn rc : Nat) (rs : List Int) (hrn : rn = rs.length) (hrs : ∀ r ∈ rs, -9223372036854775808 ≤ r ∧ r ≤ 9223372036854775807) (U V E : Int) (hV : segS regs l i rs = (U, V, E)) (w : World) (h : At w a l) (hl : l.length ≤ 1000000) (hr : At w ra rs) (hrl : rn ≤ 1000000) (hi1 : -9223372036854775808 ≤ i) (hi2 : i ≤ 9223372036854775807) :
    Calls Try.prog 23 #[.agg #[.int .i64 regs, .slice a l.length c], .int .i64 i, .slice ra rn rc] w fun e w' => e = .returned (.tuple #[.int .i64 U, .int .i64 V, .int .i64 E]) ∧ Below w.heap.size w w' := by
  have hb0 := below_new12 w (.cells #[.int .i64 regs, .slice a l.length c] 24)
  have hX := Blk.new w 24 #[.int .i64 regs, .slice a l.length c]
  have h1 := h.belowN hb0
  have hr1 := hr.belowN hb0
  have HRS := hide hrs
  have HRN := hide hrn
  have HPR := hide (Prog10_calls regs a c l _ h1 hl)
  unfold segS at hV
  clear hrs hrn
  by_cases hc : checkS regs l = 0
  case neg =>
    rw [if_pos hc] at hV
    injection hV with hv1 hv2
    injection hv2 with hv2 hv3
    subst hv1 hv2
    rw [hv3] at HPR hc
    have e1 : (E == 0) = false := by simpa using hc
    have e2 : (E != 0) = true := by simpa using hc
    clear hv3 hc
    go_enter Try.func23, Try.ntmps23
    go_wp2_with (go_at_call 63; go_must ((with_reducible refine (HPR.out).mono ?_); rintro e w1 ⟨rfl, hb1⟩))
    go_ret3
    exact ⟨rfl, hb0.trans (hb1.mono hb0.size)⟩
  rw [if_neg (by rw [hc]; simp)] at hV
  rw [hc] at HPR
  obtain ⟨f, rfl, g⟩ := good_of_check hc
  have hfl : f.flat.length ≤ 4096 := g.len
  have HG := hide g
  clear hc g
  by_cases hi : i < 0 ∨ (f.flat.length : Int) ≤ i
  · rw [if_pos hi] at hV
    injection hV with hv1 hv2
    injection hv2 with hv2 hv3
    subst hv1 hv2 hv3
    have HA := hide (around_out HG.out.ok hi)
    clear hi
    go_enter Try.func23, Try.ntmps23
    go_wp2_with (first
      | (go_at_call 63; go_must ((with_reducible refine (HPR.out).mono ?_); rintro e w1 ⟨rfl, hb1⟩; obtain ⟨p0, p1, p2, p3⟩ := (hX.belowN hb1).c2))
      | (go_at_call 64; go_must ((with_reducible refine (Around8N a c f.flat i _ (h1.belowN hb1) hl hi1 hi2 [] 2 0 HA.out rfl).mono ?_); rintro e w2 ⟨a2, c2, rfl, hown2, hb2⟩; have hC2 := hb1.trans (hb2.mono hb1.size))))
    go_ret3
    exact ⟨rfl, hb0.trans (hC2.mono hb0.size)⟩
  rw [if_neg hi] at hV
  obtain ⟨k, rfl⟩ : ∃ k : Nat, i = k := ⟨i.toNat, by omega⟩
  have hk : k < f.flat.length := by omega
  obtain ⟨x, hx⟩ : ∃ x, f.flat[k]? = some x := ⟨_, List.getElem?_eq_getElem hk⟩
  have hA := around_good HG.out.ok hx
  have hw : repAt f.flat (k : Int) = decide (x.kind = 7) := by unfold repAt; simp only [Int.toNat_natCast]; rw [hx]
  rw [hw, hA] at hV
  simp only [Int.toNat_natCast, decide_eq_true_eq] at hV
  obtain ⟨bs, hbs⟩ : ∃ bs, bs = encl 0 f k := ⟨_, rfl⟩
  rw [← hbs] at hA hV
  have hbsl : bs.length ≤ 4096 := by
    have := encl_length f 0 k
    rw [← hbs] at this
    exact Nat.le_trans this hfl
  obtain ⟨bn, hbn⟩ : ∃ bn, bn = bs.length := ⟨_, rfl⟩
  rw [← hbn] at hbsl
  have HA := hide hA
  have HBN := hide hbn
  have HX := hide hx
  have i0 : (0 : Int) ≤ (k : Int) := by omega
  have i1 : (k : Int) < (f.flat.length : Int) := by omega
  clear hA hw
  by_cases h7 : x.kind = 7
  case neg =>
    rw [if_neg (fun h => h7 h.1)] at hV
    injection hV with hv1 hv2
    injection hv2 with hv2 hv3
    subst hv1 hv2 hv3
    have k7 : (x.kind == 7) = false := by simpa using h7
    have n7 : (x.kind != 7) = true := by simpa using h7
    clear hbs hbn hi hx h7
    go_enter Try.func23, Try.ntmps23
    go_wp2_with (first
      | (go_at_call 63; go_must ((with_reducible refine (HPR.out).mono ?_); rintro e w1 ⟨rfl, hC1⟩; obtain ⟨p0, p1, p2, p3⟩ := (hX.belowN hC1).c2))
      | (go_at_call 64; go_must ((with_reducible refine (Around8N a c f.flat _ _ (h1.belowN hC1) hl hi1 hi2 bs 0 bn HA.out HBN.out).mono ?_); rintro e w2 ⟨a2, c2, rfl, hown2, hb2⟩; have hC2 := hC1.trans (hb2.mono hC1.size); obtain ⟨p0, p1, p2, p3⟩ := (hX.belowN hC2).c2; obtain ⟨b1, off1, hba, x0, x1, x2, x3, x4⟩ := getOp_eq (h1.belowN hC2) (Below.refl _ _) HX.out; subst hba)))
    go_quiet (fail)
    go_wp2
    go_ret3
    exact ⟨rfl, hb0.trans ((below_drewN hC2 _).mono hb0.size)⟩
  obtain ⟨hep, hep7⟩ := f.encl_pth HG.out.ok 0 k x hx (by omega)
  have hpt := hep7 h7
  rw [← hep, ← hbs, Nat.zero_add] at hpt
  have hST := Stands.whole HG.out.ok
  have hin : ∀ b ∈ bs ++ [(k : Int)], 0 ≤ b ∧ b.toNat < f.flat.length := pth_in _ f 0 (k + 1) hST hpt
  have hrr := rgt_rok (bs ++ [(k : Int)]) f 0 (k + 1) rs hST (by unfold Fo.size; omega) hpt
  have HIN := hide hin
  have HPT := hide hpt
  obtain ⟨hisB, hmt, hrd⟩ := isB_match f 0 k hST (by unfold Fo.size; exact hk) x (by rw [Nat.zero_add]; exact hx) h7
  rw [Nat.zero_add, Nat.zero_add] at hmt
  obtain ⟨B, hB⟩ : ∃ B, rgt f.flat (bs ++ [(k : Int)]) rs = B := ⟨_, rfl⟩
  have HB := hide hB
  rw [hB] at hrr
  have HBN1 := hide (show bn + 1 = (bs ++ [(k : Int)]).length by rw [List.length_append, ← hbn]; rfl)
  have k7 : (x.kind == 7) = true := by simpa using h7
  have n7 : (x.kind != 7) = false := by simpa using h7
  cases B with
  | false =>
    rw [if_neg (by rw [hB]; simp)] at hV
    injection hV with hv1 hv2
    injection hv2 with hv2 hv3
    subst hv1 hv2 hv3
    clear hbs hbn hi hx h7 hep hep7 hpt hST hin hrr hisB hmt hrd hB
    go_enter Try.func23, Try.ntmps23
    go_wp2_with (first
      | (go_at_call 63; go_must ((with_reducible refine (HPR.out).mono ?_); rintro e w1 ⟨rfl, hC1⟩; obtain ⟨p0, p1, p2, p3⟩ := (hX.belowN hC1).c2))
      | (go_at_call 64; go_must ((with_reducible refine (Around8N a c f.flat _ _ (h1.belowN hC1) hl hi1 hi2 bs 0 bn HA.out HBN.out).mono ?_); rintro e w2 ⟨a2, c2, rfl, hown2, hb2⟩; have hC2 := hC1.trans (hb2.mono hC1.size); obtain ⟨p0, p1, p2, p3⟩ := (hX.belowN hC2).c2; obtain ⟨b1, off1, hba, x0, x1, x2, x3, x4⟩ := getOp_eq (h1.belowN hC2) (Below.refl _ _) HX.out; subst hba)))
    have hd9 : Below w2.heap.size w2 w2.drew := Below.drew (Below.refl _ _)
    have hgX := (hX.belowN hC2).lt
    have hgb := World.block_lt_of_cell? _ _ x0
    have hz2 := hC2.size
    go_region_held3 (fun w' => w'.cell? ⟨w.heap.size, 0, none⟩ = some (.int .i64 regs) ∧ w'.cell? ⟨w.heap.size, 1, none⟩ = some (.slice (some ⟨b1, off1, none⟩) f.flat.length c) ∧ w'.cell? ⟨b1, off1 + k * 5, none⟩ = some (.int .i64 x.kind)) (go_keep)
      (first
        | (go_at_call 66; go_must ((with_reducible refine (Right20_calls regs _ c f.flat _ ra (bn + 1) _ rn rc (bs ++ [(k : Int)]) rs HBN1.out HRN.out false HB.out HIN.out HRS.out hfl (by omega) hrl w3 (h1.belowN hC3) hown3.at_ (hr1.belowN hC3)).mono ?_); rintro e w4 ⟨rfl, hb4⟩; have hC4 := hC3.trans (hb4.mono hC3.size); have hB4 := hB3.trans (hb4.mono hB3.size); obtain ⟨y0, _⟩ := bcell hB4; have u0 := (y0 w.heap.size 0 hgX).trans p0; have u1 := (y0 w.heap.size 1 hgX).trans p1; have u2 := (y0 b1 (off1 + k * 5) hgb).trans x0; clear y0))
        | (go_at_call 71; go_must ((with_reducible refine (With20_calls a2 bn c2 bs HBN.out k _ (hown2.belowN hd9).at_ (by omega)).mono ?_); rintro e w3 ⟨a3, c3, rfl, hown3, hb3⟩; have hB3 := hd9.trans (hb3.mono hd9.size); have hC3 := hC2.trans (hB3.mono hz2); obtain ⟨y0, _⟩ := bcell hB3; have t0 := (y0 w.heap.size 0 hgX).trans p0; have t1 := (y0 w.heap.size 1 hgX).trans p1; have t2 := (y0 b1 (off1 + k * 5) hgb).trans x0; clear y0)))
    go_wp2
    go_ret3
    exact ⟨rfl, hb0.trans (hC4.mono hb0.size)⟩
  | true =>
    rw [if_pos ⟨h7, hB⟩, fo_flat HG.out.ok, hrd] at hV
    injection hV with hv1 hv2
    injection hv2 with hv2 hv3
    subst hv3
    have hrok := hrr.1 rfl
    have HRN1 : Hid (bn + 1 = rn) := by
      show _ = _
      have e9 := f.rok_len 0 (k + 1) rs hrok
      rw [HPT.out] at e9
      have := HBN1.out
      have := HRN.out
      omega
    obtain ⟨hp0, hp1⟩ := f.seg_bd k rs hisB hrok
    obtain ⟨S, hS⟩ : ∃ S : Nat, f.plc (k + 1) rs = S := ⟨(f.plc (k + 1) rs).toNat, by omega⟩
    obtain ⟨C, hC⟩ : ∃ C : Nat, f.rd k = C := ⟨_, rfl⟩
    obtain ⟨F, hF⟩ : ∃ F : Nat, f.fe k = F := ⟨_, rfl⟩
    rw [hS] at hv1 hv2 hp1
    simp only [Option.getD_some] at hv2
    rw [hC] at hv2 hp1
    have hU : U = (S : Int) := hv1.symm
    have hV2 : V = ((S + C : Nat) : Int) := by rw [← hv2]; omega
    subst hU hV2
    have hwr : f.wr ≤ 65536 := HG.out.few
    have hFl : F < f.flat.length := by rw [← hF]; exact f.fe_lt k hisB
    have HMK := hide (fun W h9 => Marks20_calls regs a c f HG.out W h9)
    have HMM := hide (fun w' (g1 : At w' a f.flat) => Match8W a c f.flat w' g1 (by omega) (well_of_flat f HG.out.ok))
    have hbd := mks_bd f 0 [] HG.out.deep (Nat.le_refl _) HG.out.few
    obtain ⟨L, hL⟩ : ∃ L, Fo.mks 0 [] f = L := ⟨_, rfl⟩
    have HSM := hide (fun (j : Nat) (z : Nat × List Int) (hz : L[j]? = some z) (hw : wB f.flat z = true) (cn : Nat) (hcn : ((L.take j).filter (wB f.flat)).length = cn) => seg_mark HG.out.ok hisB hrok hS hL hz hw hcn)
    have HALL : Hid (((L.take L.length).filter (wB f.flat)).length = f.wr) := by
      show _ = _
      rw [List.take_length, ← hL, mks_writes f 0 [] (Stands.whole HG.out.ok), Fo.wm_length]
    have HLIN := hide (show ∀ y ∈ L, y.1 < f.flat.length ∧ y.2.length ≤ f.flat.length from fun y hy => by rw [← hL] at hy; have := mks_in f 0 [] y hy; simpa [Fo.size] using this)
    rw [hL] at HMK hbd
    rw [hC, hF] at HSM
    rw [hF] at hmt
    have HMT := hide hmt
    have HHB := hide hisB
    clear hbs hbn hi hx h7 hep hep7 hpt hST hin hrr hisB hmt hrd hB hv1 hv2 hrok hp0 hS hC hF hL
    go_enter Try.func23, Try.ntmps23
    go_wp2_with (first
      | (go_at_call 63; go_must ((with_reducible refine (HPR.out).mono ?_); rintro e w1 ⟨rfl, hC1⟩; obtain ⟨p0, p1, p2, p3⟩ := (hX.belowN hC1).c2))
      | (go_at_call 64; go_must ((with_reducible refine (Around8N a c f.flat _ _ (h1.belowN hC1) hl hi1 hi2 bs 0 bn HA.out HBN.out).mono ?_); rintro e w2 ⟨a2, c2, rfl, hown2, hb2⟩; have hC2 := hC1.trans (hb2.mono hC1.size); obtain ⟨p0, p1, p2, p3⟩ := (hX.belowN hC2).c2; obtain ⟨b1, off1, hba, x0, x1, x2, x3, x4⟩ := getOp_eq (h1.belowN hC2) (Below.refl _ _) HX.out; subst hba)))
    have hd9 : Below w2.heap.size w2 w2.drew := Below.drew (Below.refl _ _)
    have hgX := (hX.belowN hC2).lt
    have hgb := World.block_lt_of_cell? _ _ x0
    have hz2 := hC2.size
    go_region_held3 (fun w' => w'.cell? ⟨w.heap.size, 0, none⟩ = some (.int .i64 regs) ∧ w'.cell? ⟨w.heap.size, 1, none⟩ = some (.slice (some ⟨b1, off1, none⟩) f.flat.length c) ∧ w'.cell? ⟨b1, off1 + k * 5, none⟩ = some (.int .i64 x.kind)) (go_keep)
      (first
        | (go_at_call 66; go_must ((with_reducible refine (Right20_calls regs _ c f.flat _ ra (bn + 1) _ rn rc (bs ++ [(k : Int)]) rs HBN1.out HRN.out true HB.out HIN.out HRS.out hfl (by omega) hrl w3 (h1.belowN hC3) hown3.at_ (hr1.belowN hC3)).mono ?_); rintro e w4 ⟨rfl, hb4⟩; have hC4 := hC3.trans (hb4.mono hC3.size); have hB4 := hB3.trans (hb4.mono hB3.size); obtain ⟨y0, _⟩ := bcell hB4; have u0 := (y0 w.heap.size 0 hgX).trans p0; have u1 := (y0 w.heap.size 1 hgX).trans p1; have u2 := (y0 b1 (off1 + k * 5) hgb).trans x0; clear y0))
        | (go_at_call 71; go_must ((with_reducible refine (With20_calls a2 bn c2 bs HBN.out k _ (hown2.belowN hd9).at_ (by omega)).mono ?_); rintro e w3 ⟨a3, c3, rfl, hown3, hb3⟩; have hB3 := hd9.trans (hb3.mono hd9.size); have hC3 := hC2.trans (hB3.mono hz2); obtain ⟨y0, _⟩ := bcell hB3; have t0 := (y0 w.heap.size 0 hgX).trans p0; have t1 := (y0 w.heap.size 1 hgX).trans p1; have t2 := (y0 b1 (off1 + k * 5) hgb).trans x0; clear y0)))
    go_wp2_with (first
      | (go_at_call 72; go_must ((with_reducible refine (HMM.out _ (h1.belowN hC4)).mono ?_); rintro e w5 ⟨am, cm, rfl, hom, hb5⟩; have hC5 := hC4.trans (hb5.mono hC4.size); obtain ⟨q0, q1, q2, q3⟩ := (hX.belowN hC5).c2))
      | (go_at_call 67; go_must ((with_reducible refine (HMK.out w5 (h1.belowN hC5)).mono ?_); rintro e w6 ⟨a6, c6, n6, hs6, rfl, hn6, hK6, hb6⟩; have hC6 := hC5.trans (hb6.mono hC5.size); have HN6 := hide hn6; have hn6b : n6 ≤ 1114112 := (by omega); clear hn6)))
    have hz6 := hC6.size
    go_loopw [15, 16, 17] (fun av iv kv wr => ∃ j cn A I : Nat, kv = .int .i64 j ∧ av = .int .i64 A ∧ iv = .int .i64 I ∧ j ≤ n6 ∧ Hid ((cn ≤ S ∧ A = cn ∧ I = 0) ∨ (S ≤ cn ∧ cn ≤ S + C ∧ A = S ∧ I + S = cn) ∨ (S + C ≤ cn ∧ A = S ∧ I = C)) ∧ A ≤ S ∧ I ≤ C ∧ Hid (((L.take j).filter (wB f.flat)).length = cn) ∧ Below w6.heap.size w6 wr) (fun _ _ kv _ => n6 - (intOf kv).toNat)
    case atStart => exact ⟨0, 0, 0, 0, rfl, rfl, rfl, by omega, .inl ⟨by omega, rfl, rfl⟩, by omega, by omega, rfl, Below.refl _ _⟩
    case round =>
      obtain ⟨j, cn, A, I, rfl, rfl, rfl, hj, hst, hAS, hIC, hcn, hb⟩ := hrel
      have hzr := hb.size
      by_cases hlt : j < n6
      · obtain ⟨b5, off5, y, rfl, hy, m0, m1⟩ := hK6.out.at_.getM hb (k := j) (by have := hK6.len; have := HN6.out; omega)
        obtain ⟨z, hz⟩ : ∃ z, L[j]? = some z := ⟨_, List.getElem?_eq_getElem (by have := HN6.out; omega)⟩
        obtain ⟨r1, r2, r3⟩ := (hK6.row j y z hy.out hz).belowN hb
        have hycap := hK6.cap j y hy.out
        obtain ⟨hzl, hzr2⟩ := HLIN.out z (List.mem_of_getElem? hz)
        obtain ⟨xz, hxz⟩ : ∃ xz, f.flat[z.1]? = some xz := ⟨_, List.getElem?_eq_getElem hzl⟩
        have HFT := hide (filter_take_succ (wB f.flat) hz)
        have hwz : wB f.flat z = dOf xz.kind := by unfold wB; simp only [hxz]
        have HSZ : Hid (wB f.flat z = true → _) := hide (fun hw => HSM.out j z hz hw cn hcn.out)
        rw [hwz, hcn.out] at HFT
        rw [hwz] at HSZ
        obtain ⟨zi, zr⟩ := z
        obtain ⟨ya, yb, yn, yc⟩ := y
        simp only at r1 r2 r3 hzl hzr2 hxz m0 m1 hycap
        subst r1
        obtain ⟨b1', off1', hba, v0, v1, v2, v3, v4⟩ := getOp_eq (h1.belowN hC6) hb hxz
        cases hba
        have HYN := hide r2
        have hz0 := World.block_lt_of_cell? _ _ m0
        have hz1 := World.block_lt_of_cell? _ _ v0
        have hCr := hC6.trans (hb.mono hz6)
        have hXr := hX.belowN hCr
        have hgX2 := hXr.lt
        obtain ⟨p0, p1, p2, p3⟩ := hXr.c2
        have i2 : (0 : Int) ≤ (zi : Int) := by omega
        have i3 : (zi : Int) < (f.flat.length : Int) := by omega
        have i4 : (0 : Int) ≤ (j : Int) := by omega
        have i5 : (j : Int) < (n6 : Int) := by omega
        have HASZ := hide (fun W => Asks_calls xz.kind W)
        have HXZ := hide hxz
        obtain ⟨dz, hdz⟩ : ∃ dz, dOf xz.kind = dz := ⟨_, rfl⟩
        have HKZ : Hid (dz = true → xz.kind ≠ 0) := hide (fun e => by rw [e] at hdz; unfold dOf at hdz; simp at hdz; omega)
        rw [hdz] at HASZ HFT HSZ
        clear r2 hwz hy hz hxz hdz
        have hbn := below_new12 wr (.cells #[.int .i64 (zi : Int), .slice yb yn yc] 117)
        have hMk := Blk.new wr 117 #[.int .i64 (zi : Int), .slice yb yn yc]
        have hXn := hXr.belowN hbn
        have v0n := (bcell hbn).1 b1 (off1 + zi * 5) hz1
        have hgM := hMk.lt
        obtain ⟨o0, o1, o2, o3⟩ := hMk.c2
        rw [v0] at v0n
        have hzn := hbn.size
        have hXrn := hXn.c2
        obtain ⟨u0, u1, u2, u3⟩ := hXrn
        cases dz with
        | false =>
          go_wp2_with (go_at_call 65; go_must ((with_reducible refine (HASZ.out _).mono ?_); rintro e w7 ⟨rfl, hb7⟩; have hB7 := hbn.trans (hb7.mono hbn.size)))
          go_roundw
          case rel => exact ⟨j + 1, cn, A, I, by go_num, rfl, rfl, by omega, hst, hAS, hIC, hide (by have := HFT.out; simpa using this), hb.trans (hB7.mono hzr)⟩
          case measure => simp [intOf] <;> omega
        | true =>
          obtain ⟨hW, hK, hIL, hcase⟩ := HSZ.out rfl
          simp only at hW hK hIL hcase
          have hpo : aroundS f.flat (zi : Int) = (Fo.pth 0 f zi, 0) := by
            have hx9 := HXZ.out
            have hA9 := around_good HG.out.ok hx9
            rw [hA9, (f.encl_pth HG.out.ok 0 zi xz hx9 (HKZ.out rfl)).1]
          have hpl := f.rok_len 0 zi zr hK
          have HPO := hide hpo
          obtain ⟨pl, hpl2⟩ : ∃ pl, pl = (Fo.pth 0 f zi).length := ⟨_, rfl⟩
          have HPL2 := hide hpl2
          have hple : pl ≤ yn := by have := HYN.out; omega
          have hyn9 : yn ≤ 4096 := by have := HYN.out; omega
          clear hW hK hpo hpl hpl2
          obtain ⟨bm, om, hma, cm0⟩ := getI_eq ((hom.belowN hb6).at_.belowN ((Below.refl _ _).trans (hb.mono (Nat.le_refl _)))) (Below.refl _ _) HMT.out
          subst hma
          have hgm := World.block_lt_of_cell? _ _ cm0
          rcases hcase with ⟨a1, a2, a3, a4, a5⟩ | ⟨a1, a2⟩
          · have hln : rn ≤ yn := by have := HRN.out; have := HYN.out; have := hIL a1 a2; omega
            have HTL := hide (show rn = (zr.take rn).length by rw [List.length_take]; have := HYN.out; omega)
            have HI := hide (fun W h3 h4 => Ints7G yb ra rn rn yc rc (zr.take rn) rs HTL.out HRN.out true (decide_eq_true (by rw [HRN.out]; exact a3)) W h3 h4 (by omega) (by omega))
            have i6 : (k : Int) < (zi : Int) := by omega
            have i7 : (zi : Int) < (F : Int) := by omega
            have hnc : rn ≤ yc := by omega
            clear a3 hIL
            go_wp2_with (go_at_call 65; go_must ((with_reducible refine (HASZ.out _).mono ?_); rintro e w7 ⟨rfl, hb7⟩; have hB7 := hbn.trans (hb7.mono hbn.size); obtain ⟨o0, o1, o2, o3⟩ := (hMk.belowN hb7).c2; obtain ⟨u0, u1, u2, u3⟩ := (hXr.belowN hB7).c2; have cmt := (bcell hB7).1 bm _ hgm |>.trans cm0; have hC7 := hCr.trans (hB7.mono hCr.size); have hx7 := r3.belowN hB7; have hr7 := hr1.belowN hC7; have h17 := h1.belowN hC7; have hz7 := hB7.size))
            go_quiet (((go_at_call 21; exact quietD (HI.out _ ((hx7.take rn).drewN _) (hr7.drewN _)))))
            go_wp2
            go_roundw
            case rel => exact ⟨j + 1, cn + 1, A, I + 1, by go_num, rfl, by go_num, by omega, hide (by have := hst.out; omega), by omega, by have := hst.out; omega, hide (by have := HFT.out; simpa using this), hb.trans ((below_drewN hB7 _).mono hzr)⟩
            case measure => simp [intOf] <;> omega
          · rw [HPT.out] at a2
            obtain ⟨B, hBF⟩ : ∃ B, bef (Fo.pth 0 f zi) (zi : Int) (bs ++ [(k : Int)]) zr rs = B := ⟨_, rfl⟩
            rw [hBF] at a2
            have HBF := hide hBF
            have hcn2 : (B = true ∧ cn < S) ∨ (B = false ∧ S + C ≤ cn) := a2
            clear a2 hBF
            rcases (show (zi ≤ k) ∨ (k < zi ∧ F ≤ zi) ∨ (k < zi ∧ zi < F ∧ zr.take rs.length ≠ rs) from by
              by_cases q1 : k < zi
              · by_cases q2 : zi < F
                · exact .inr (.inr ⟨q1, q2, fun e => a1 ⟨q1, q2, e⟩⟩)
                · exact .inr (.inl ⟨q1, by omega⟩)
              · exact .inl (by omega)) with q1 | ⟨q1, q2⟩ | ⟨q1, q2, q3⟩
            · have i6 : (zi : Int) ≤ (k : Int) := by omega
              have d6 : decide ((k : Int) < (zi : Int)) = false := decide_eq_false (by omega)
              have c6 : decide (k < zi) = false := decide_eq_false (by omega)
              clear a1 hIL
              rcases hcn2 with ⟨rfl, hcs⟩ | ⟨rfl, hcs⟩
              · go_wp2_with (go_at_call 65; go_must ((with_reducible refine (HASZ.out _).mono ?_); rintro e w7 ⟨rfl, hb7⟩; have hB7 := hbn.trans (hb7.mono hbn.size); obtain ⟨o0, o1, o2, o3⟩ := (hMk.belowN hb7).c2; obtain ⟨u0, u1, u2, u3⟩ := (hXr.belowN hB7).c2; have cmt := (bcell hB7).1 bm _ hgm |>.trans cm0; have hC7 := hCr.trans (hB7.mono hCr.size); have hx7 := r3.belowN hB7; have hr7 := hr1.belowN hC7; have h17 := h1.belowN hC7; have hz7 := hB7.size))
                go_quiet (fail)
                go_wp2_with (go_at_call 73; go_must ((with_reducible refine (Before20_calls regs _ c f.flat _ _ cm (zi : Int) yb yn yc zr HYN.out (k : Int) ra rn rc rs HRN.out bs (Fo.pth 0 f zi) HA.out HPO.out bn pl HBN.out HPL2.out HRN1.out hple (by omega) (by omega) (by omega) true HBF.out _ (h17.drewN _) hl (hx7.drewN _) (hr7.drewN _) hi1 hi2 (by omega) (by omega)).mono ?_); rintro e w8 ⟨rfl, hb8⟩; have hB8 := (below_drewN hB7 _).trans (hb8.mono hz7)))
                go_roundw
                case rel => exact ⟨j + 1, cn + 1, A + 1, I, by go_num, by go_num, rfl, by omega, hide (by have := hst.out; omega), by have := hst.out; omega, by omega, hide (by have := HFT.out; simpa using this), hb.trans (hB8.mono hzr)⟩
                case measure => simp [intOf] <;> omega
              · go_wp2_with (go_at_call 65; go_must ((with_reducible refine (HASZ.out _).mono ?_); rintro e w7 ⟨rfl, hb7⟩; have hB7 := hbn.trans (hb7.mono hbn.size); obtain ⟨o0, o1, o2, o3⟩ := (hMk.belowN hb7).c2; obtain ⟨u0, u1, u2, u3⟩ := (hXr.belowN hB7).c2; have cmt := (bcell hB7).1 bm _ hgm |>.trans cm0; have hC7 := hCr.trans (hB7.mono hCr.size); have hx7 := r3.belowN hB7; have hr7 := hr1.belowN hC7; have h17 := h1.belowN hC7; have hz7 := hB7.size))
                go_quiet (fail)
                go_wp2_with (go_at_call 73; go_must ((with_reducible refine (Before20_calls regs _ c f.flat _ _ cm (zi : Int) yb yn yc zr HYN.out (k : Int) ra rn rc rs HRN.out bs (Fo.pth 0 f zi) HA.out HPO.out bn pl HBN.out HPL2.out HRN1.out hple (by omega) (by omega) (by omega) false HBF.out _ (h17.drewN _) hl (hx7.drewN _) (hr7.drewN _) hi1 hi2 (by omega) (by omega)).mono ?_); rintro e w8 ⟨rfl, hb8⟩; have hB8 := (below_drewN hB7 _).trans (hb8.mono hz7)))
                go_roundw
                case rel => exact ⟨j + 1, cn + 1, A, I, by go_num, rfl, rfl, by omega, hide (by have := hst.out; omega), by have := hst.out; omega, by omega, hide (by have := HFT.out; simpa using this), hb.trans (hB8.mono hzr)⟩
                case measure => simp [intOf] <;> omega
            · have i6 : (k : Int) < (zi : Int) := by omega
              have i7 : (F : Int) ≤ (zi : Int) := by omega
              have d7 : decide ((zi : Int) < (F : Int)) = false := decide_eq_false (by omega)
              have c7 : decide (zi < F) = false := decide_eq_false (by omega)
              clear a1 hIL
              rcases hcn2 with ⟨rfl, hcs⟩ | ⟨rfl, hcs⟩
              · go_wp2_with (go_at_call 65; go_must ((with_reducible refine (HASZ.out _).mono ?_); rintro e w7 ⟨rfl, hb7⟩; have hB7 := hbn.trans (hb7.mono hbn.size); obtain ⟨o0, o1, o2, o3⟩ := (hMk.belowN hb7).c2; obtain ⟨u0, u1, u2, u3⟩ := (hXr.belowN hB7).c2; have cmt := (bcell hB7).1 bm _ hgm |>.trans cm0; have hC7 := hCr.trans (hB7.mono hCr.size); have hx7 := r3.belowN hB7; have hr7 := hr1.belowN hC7; have h17 := h1.belowN hC7; have hz7 := hB7.size))
                go_quiet (fail)
                go_wp2_with (go_at_call 73; go_must ((with_reducible refine (Before20_calls regs _ c f.flat _ _ cm (zi : Int) yb yn yc zr HYN.out (k : Int) ra rn rc rs HRN.out bs (Fo.pth 0 f zi) HA.out HPO.out bn pl HBN.out HPL2.out HRN1.out hple (by omega) (by omega) (by omega) true HBF.out _ (h17.drewN _) hl (hx7.drewN _) (hr7.drewN _) hi1 hi2 (by omega) (by omega)).mono ?_); rintro e w8 ⟨rfl, hb8⟩; have hB8 := (below_drewN hB7 _).trans (hb8.mono hz7)))
                go_roundw
                case rel => exact ⟨j + 1, cn + 1, A + 1, I, by go_num, by go_num, rfl, by omega, hide (by have := hst.out; omega), by have := hst.out; omega, by omega, hide (by have := HFT.out; simpa using this), hb.trans (hB8.mono hzr)⟩
                case measure => simp [intOf] <;> omega
              · go_wp2_with (go_at_call 65; go_must ((with_reducible refine (HASZ.out _).mono ?_); rintro e w7 ⟨rfl, hb7⟩; have hB7 := hbn.trans (hb7.mono hbn.size); obtain ⟨o0, o1, o2, o3⟩ := (hMk.belowN hb7).c2; obtain ⟨u0, u1, u2, u3⟩ := (hXr.belowN hB7).c2; have cmt := (bcell hB7).1 bm _ hgm |>.trans cm0; have hC7 := hCr.trans (hB7.mono hCr.size); have hx7 := r3.belowN hB7; have hr7 := hr1.belowN hC7; have h17 := h1.belowN hC7; have hz7 := hB7.size))
                go_quiet (fail)
                go_wp2_with (go_at_call 73; go_must ((with_reducible refine (Before20_calls regs _ c f.flat _ _ cm (zi : Int) yb yn yc zr HYN.out (k : Int) ra rn rc rs HRN.out bs (Fo.pth 0 f zi) HA.out HPO.out bn pl HBN.out HPL2.out HRN1.out hple (by omega) (by omega) (by omega) false HBF.out _ (h17.drewN _) hl (hx7.drewN _) (hr7.drewN _) hi1 hi2 (by omega) (by omega)).mono ?_); rintro e w8 ⟨rfl, hb8⟩; have hB8 := (below_drewN hB7 _).trans (hb8.mono hz7)))
                go_roundw
                case rel => exact ⟨j + 1, cn + 1, A, I, by go_num, rfl, rfl, by omega, hide (by have := hst.out; omega), by have := hst.out; omega, by omega, hide (by have := HFT.out; simpa using this), hb.trans (hB8.mono hzr)⟩
                case measure => simp [intOf] <;> omega
            · have hln : rn ≤ yn := by have := HRN.out; have := HYN.out; have := hIL q1 q2; omega
              have HTL := hide (show rn = (zr.take rn).length by rw [List.length_take]; have := HYN.out; omega)
              have HI := hide (fun W h3 h4 => Ints7G yb ra rn rn yc rc (zr.take rn) rs HTL.out HRN.out false (decide_eq_false (by rw [HRN.out]; exact q3)) W h3 h4 (by omega) (by omega))
              have i6 : (k : Int) < (zi : Int) := by omega
              have i7 : (zi : Int) < (F : Int) := by omega
              have hnc : rn ≤ yc := by omega
              clear a1 hIL
              rcases hcn2 with ⟨rfl, hcs⟩ | ⟨rfl, hcs⟩
              · go_wp2_with (go_at_call 65; go_must ((with_reducible refine (HASZ.out _).mono ?_); rintro e w7 ⟨rfl, hb7⟩; have hB7 := hbn.trans (hb7.mono hbn.size); obtain ⟨o0, o1, o2, o3⟩ := (hMk.belowN hb7).c2; obtain ⟨u0, u1, u2, u3⟩ := (hXr.belowN hB7).c2; have cmt := (bcell hB7).1 bm _ hgm |>.trans cm0; have hC7 := hCr.trans (hB7.mono hCr.size); have hx7 := r3.belowN hB7; have hr7 := hr1.belowN hC7; have h17 := h1.belowN hC7; have hz7 := hB7.size))
                go_quiet (((go_at_call 21; exact quietD (HI.out _ ((hx7.take rn).drewN _) (hr7.drewN _)))))
                go_wp2_with (go_at_call 73; go_must ((with_reducible refine (Before20_calls regs _ c f.flat _ _ cm (zi : Int) yb yn yc zr HYN.out (k : Int) ra rn rc rs HRN.out bs (Fo.pth 0 f zi) HA.out HPO.out bn pl HBN.out HPL2.out HRN1.out hple (by omega) (by omega) (by omega) true HBF.out _ (h17.drewN _) hl (hx7.drewN _) (hr7.drewN _) hi1 hi2 (by omega) (by omega)).mono ?_); rintro e w8 ⟨rfl, hb8⟩; have hB8 := (below_drewN hB7 _).trans (hb8.mono hz7)))
                go_roundw
                case rel => exact ⟨j + 1, cn + 1, A + 1, I, by go_num, by go_num, rfl, by omega, hide (by have := hst.out; omega), by have := hst.out; omega, by omega, hide (by have := HFT.out; simpa using this), hb.trans (hB8.mono hzr)⟩
                case measure => simp [intOf] <;> omega
              · go_wp2_with (go_at_call 65; go_must ((with_reducible refine (HASZ.out _).mono ?_); rintro e w7 ⟨rfl, hb7⟩; have hB7 := hbn.trans (hb7.mono hbn.size); obtain ⟨o0, o1, o2, o3⟩ := (hMk.belowN hb7).c2; obtain ⟨u0, u1, u2, u3⟩ := (hXr.belowN hB7).c2; have cmt := (bcell hB7).1 bm _ hgm |>.trans cm0; have hC7 := hCr.trans (hB7.mono hCr.size); have hx7 := r3.belowN hB7; have hr7 := hr1.belowN hC7; have h17 := h1.belowN hC7; have hz7 := hB7.size))
                go_quiet (((go_at_call 21; exact quietD (HI.out _ ((hx7.take rn).drewN _) (hr7.drewN _)))))
                go_wp2_with (go_at_call 73; go_must ((with_reducible refine (Before20_calls regs _ c f.flat _ _ cm (zi : Int) yb yn yc zr HYN.out (k : Int) ra rn rc rs HRN.out bs (Fo.pth 0 f zi) HA.out HPO.out bn pl HBN.out HPL2.out HRN1.out hple (by omega) (by omega) (by omega) false HBF.out _ (h17.drewN _) hl (hx7.drewN _) (hr7.drewN _) hi1 hi2 (by omega) (by omega)).mono ?_); rintro e w8 ⟨rfl, hb8⟩; have hB8 := (below_drewN hB7 _).trans (hb8.mono hz7)))
                go_roundw
                case rel => exact ⟨j + 1, cn + 1, A, I, by go_num, rfl, rfl, by omega, hide (by have := hst.out; omega), by have := hst.out; omega, by omega, hide (by have := HFT.out; simpa using this), hb.trans (hB8.mono hzr)⟩
                case measure => simp [intOf] <;> omega
      · have hjn : j = L.length := by have := HN6.out; omega
        have hcw : cn = f.wr := by rw [← hcn.out, hjn]; exact HALL.out
        have hAI : A = S ∧ I = C := by have := hst.out; omega
        obtain ⟨rfl, rfl⟩ := hAI
        clear hjn hcw
        go_wp2
        go_ret3
        exact ⟨by first | rfl | (congr 1; go_num), hb0.trans ((hC6.trans (hb.mono hz6)).mono hb0.size)⟩
end Go.Proofs.Ythncfoompoheoaa
