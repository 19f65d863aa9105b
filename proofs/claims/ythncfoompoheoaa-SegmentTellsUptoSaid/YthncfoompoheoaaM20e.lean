/- Chapter 20, the document's answers: At. -/
import Derived.Test.YthncfoompoheoaaM20c
namespace Go.Proofs.Ythncfoompoheoaa
set_option linter.unusedVariables false
set_option linter.unusedSimpArgs false
open Go.RowKit
attribute [local go_sem] idx_d
set_option maxRecDepth 100000 in
set_option maxHeartbeats 6400000 in
theorem At20_calls (regs : Int) (a : Option Addr) (c : Nat) (l : List OpD) (n : Int) (I : Int) (Z : List Int) (zn : Nat) (hzn : zn = Z.length) (E : Int) (hV : atS regs l n = (I, Z, E)) (w : World) (h : At w a l) (hl : l.length ≤ 1000000) (hn1 : -9223372036854775808 ≤ n) (hn2 : n ≤ 9223372036854775807) :
    Calls Try.prog 20 #[.agg #[.int .i64 regs, .slice a l.length c], .int .i64 n] w fun e w' => ∃ ra rc, e = .returned (.tuple #[.int .i64 I, .slice ra zn rc, .int .i64 E]) ∧ At w' ra Z ∧ Below w.heap.size w w' := by
  have hb0 := below_new12 w (.cells #[.int .i64 regs, .slice a l.length c] 24)
  have hX := Blk.new w 24 #[.int .i64 regs, .slice a l.length c]
  have h1 := h.belowN hb0
  have HPR := hide (Prog10_calls regs a c l _ h1 hl)
  unfold atS at hV
  by_cases hc : checkS regs l = 0
  case neg =>
    rw [if_pos hc] at hV
    injection hV with hv1 hv2
    injection hv2 with hv2 hv3
    subst hv1 hv2
    rw [hv3] at HPR hc
    have hz0 : zn = 0 := hzn
    subst hz0
    have e1 : (E == 0) = false := by simpa using hc
    have e2 : (E != 0) = true := by simpa using hc
    clear hv3 hc hzn
    go_enter Try.func20, Try.ntmps20
    go_wp2_with (go_at_call 63; go_must ((with_reducible refine (HPR.out).mono ?_); rintro e w1 ⟨rfl, hb1⟩))
    go_ret3
    exact ⟨_, _, rfl, At.nil _ _, hb0.trans (hb1.mono hb0.size)⟩
  rw [if_neg (by rw [hc]; simp)] at hV
  rw [hc] at HPR
  obtain ⟨f, rfl, g⟩ := good_of_check hc
  have hfl : f.flat.length ≤ 4096 := g.len
  have HG := hide g
  clear hc g
  rw [fo_flat HG.out.ok] at hV
  have HMK := hide (fun W h9 => Marks20_calls regs a c f HG.out W h9)
  have hbd := mks_bd f 0 [] HG.out.deep (Nat.le_refl _) HG.out.few
  obtain ⟨L, hL⟩ : ∃ L, Fo.mks 0 [] f = L := ⟨_, rfl⟩
  have HZN := hide hzn
  clear hzn
  by_cases hn0 : 0 ≤ n
  case neg =>
    rw [if_neg (by omega)] at hV
    injection hV with hv1 hv2
    injection hv2 with hv2 hv3
    subst hv1 hv2 hv3
    have hz0 : zn = 0 := HZN.out
    subst hz0
    rw [hL] at HMK hbd
    clear hL
    go_enter Try.func20, Try.ntmps20
    go_wp2_with (first
      | (go_at_call 63; go_must ((with_reducible refine (HPR.out).mono ?_); rintro e w1 ⟨rfl, hC1⟩; obtain ⟨p0, p1, p2, p3⟩ := (hX.belowN hC1).c2))
      | (go_at_call 67; go_must ((with_reducible refine (HMK.out w1 (h1.belowN hC1)).mono ?_); rintro e w5 ⟨a5, c5, n5, hs5, rfl, hn5, hK5, hb5⟩; have hC5 := hC1.trans (hb5.mono hC1.size); have HN5 := hide hn5; have hn5b : n5 ≤ 1114112 := (by omega); clear hn5)))
    have hz5 := hC5.size
    go_loopw [1, 9] (fun nv kv wr => nv = .int .i64 n ∧ kv = .int .i64 0 ∧ Below w5.heap.size w5 wr) (fun _ kv _ => n5 - (intOf kv).toNat)
    case atStart => exact ⟨rfl, rfl, Below.refl _ _⟩
    case round =>
      obtain ⟨rfl, rfl, hb⟩ := hrel
      have hn3 : n < 0 := by omega
      have hn4 : decide (0 ≤ n) = false := decide_eq_false (by omega)
      by_cases hlt : 0 < n5
      · go_wp2
        go_ret3
        exact ⟨_, _, rfl, At.nil _ _, hb0.trans ((hC5.trans (hb.mono hz5)).mono hb0.size)⟩
      · go_wp2
        go_ret3
        exact ⟨_, _, rfl, At.nil _ _, hb0.trans ((hC5.trans (hb.mono hz5)).mono hb0.size)⟩
  obtain ⟨m, rfl⟩ : ∃ m : Nat, n = m := ⟨n.toNat, by omega⟩
  simp only [Int.toNat_natCast] at hV
  have HF : Hid (∀ (j : Nat) (z : Nat × List Int), L[j]? = some z → wB f.flat z = true → ((L.take j).filter (wB f.flat)).length = m → I = (z.1 : Int) ∧ Z = z.2 ∧ E = 0) := fun j z hj hz hm => by
    rw [← hL] at hj hm
    obtain ⟨zi, zr⟩ := z
    obtain ⟨m1, m2⟩ := mks_number HG.out.ok hj hz
    rw [hm] at m1 m2
    rw [if_pos ⟨by omega, by omega⟩, m1] at hV
    injection hV with hv1 hv2
    injection hv2 with hv2 hv3
    exact ⟨hv1.symm, hv2.symm, hv3.symm⟩
  have HNO : Hid (((L.take L.length).filter (wB f.flat)).length ≤ m → I = 0 ∧ Z = [] ∧ E = 2) := fun hm => by
    rw [List.take_length, ← hL, mks_writes f 0 [] (Stands.whole HG.out.ok), Fo.wm_length] at hm
    rw [if_neg (by omega)] at hV
    injection hV with hv1 hv2
    injection hv2 with hv2 hv3
    exact ⟨hv1.symm, hv2.symm, hv3.symm⟩
  have HLIN := hide (show ∀ y ∈ L, y.1 < f.flat.length ∧ y.2.length ≤ f.flat.length from fun y hy => by rw [← hL] at hy; have := mks_in f 0 [] y hy; simpa [Fo.size] using this)
  rw [hL] at HMK hbd
  clear hV hL hn0
  go_enter Try.func20, Try.ntmps20
  go_wp2_with (first
    | (go_at_call 63; go_must ((with_reducible refine (HPR.out).mono ?_); rintro e w1 ⟨rfl, hC1⟩; obtain ⟨p0, p1, p2, p3⟩ := (hX.belowN hC1).c2))
    | (go_at_call 67; go_must ((with_reducible refine (HMK.out w1 (h1.belowN hC1)).mono ?_); rintro e w5 ⟨a5, c5, n5, hs5, rfl, hn5, hK5, hb5⟩; have hC5 := hC1.trans (hb5.mono hC1.size); have HN5 := hide hn5; have hn5b : n5 ≤ 1114112 := (by omega); clear hn5)))
  have hz5 := hC5.size
  go_loopw [1, 9] (fun nv kv wr => ∃ j d cn : Nat, kv = .int .i64 j ∧ nv = .int .i64 d ∧ j ≤ n5 ∧ Hid (cn + d = m) ∧ Hid (((L.take j).filter (wB f.flat)).length = cn) ∧ Below w5.heap.size w5 wr) (fun _ kv _ => n5 - (intOf kv).toNat)
  case atStart => exact ⟨0, m, 0, rfl, rfl, by omega, Nat.zero_add _, rfl, Below.refl _ _⟩
  case round =>
    obtain ⟨j, d, cn, rfl, rfl, hj, hcd, hcn, hb⟩ := hrel
    have hzr := hb.size
    have hdm : d ≤ m := by have := hcd.out; omega
    have hd0 : (0 : Int) ≤ (d : Int) := by omega
    by_cases hlt : j < n5
    · obtain ⟨b5, off5, y, rfl, hy, m0, m1⟩ := hK5.out.at_.getM hb (k := j) (by have := hK5.len; have := HN5.out; omega)
      obtain ⟨z, hz⟩ : ∃ z, L[j]? = some z := ⟨_, List.getElem?_eq_getElem (by have := HN5.out; omega)⟩
      obtain ⟨r1, r2, r3⟩ := (hK5.row j y z hy.out hz).belowN hb
      obtain ⟨hzl, hzr2⟩ := HLIN.out z (List.mem_of_getElem? hz)
      obtain ⟨xz, hxz⟩ : ∃ xz, f.flat[z.1]? = some xz := ⟨_, List.getElem?_eq_getElem hzl⟩
      have HFT := hide (filter_take_succ (wB f.flat) hz)
      have hwz : wB f.flat z = dOf xz.kind := by unfold wB; simp only [hxz]
      rw [hwz, hcn.out] at HFT
      obtain ⟨zi, zr⟩ := z
      obtain ⟨ya, yb, yn, yc⟩ := y
      simp only at r1 r2 r3 hzl hzr2 hxz m0 m1
      subst r1
      obtain ⟨b1', off1', hba, v0, v1, v2, v3, v4⟩ := getOp_eq (h1.belowN hC5) hb hxz
      subst hba
      have HYN := hide r2
      have hz0 := World.block_lt_of_cell? _ _ m0
      have hz1 := World.block_lt_of_cell? _ _ v0
      have hCr := hC5.trans (hb.mono hz5)
      have hXr := hX.belowN hCr
      have hgX := hXr.lt
      obtain ⟨p0, p1, p2, p3⟩ := hXr.c2
      have i2 : (0 : Int) ≤ (zi : Int) := by omega
      have i3 : (zi : Int) < (f.flat.length : Int) := by omega
      have i4 : (0 : Int) ≤ (j : Int) := by omega
      have i5 : (j : Int) < (n5 : Int) := by omega
      have HASZ := hide (fun W => Asks_calls xz.kind W)
      have HZ := hide hz
      have HWZ := hide hwz
      have hd9 : Below wr.heap.size wr wr.drew := Below.drew (Below.refl _ _)
      obtain ⟨dz, hdz⟩ : ∃ dz, dOf xz.kind = dz := ⟨_, rfl⟩
      rw [hdz] at HASZ HFT HWZ
      clear r2 hzr2 hwz hy hz hxz hdz
      cases dz with
      | false =>
        go_wp2
        go_region_held3 (fun w' => w'.cell? ⟨b5, off5 + j * 2, none⟩ = some (.int .i64 (zi : Int)) ∧ w'.cell? ⟨b1', off1' + zi * 5, none⟩ = some (.int .i64 xz.kind) ∧ w'.cell? ⟨w.heap.size, 1, none⟩ = some (.slice (some ⟨b1', off1', none⟩) f.flat.length c)) (go_keep)
          ((go_at_call 65; go_must ((with_reducible refine (HASZ.out _).mono ?_); rintro e w7 ⟨rfl, hb7⟩; have hB7 := hd9.trans (hb7.mono hd9.size); obtain ⟨y0, _⟩ := bcell hB7; have t0 := (y0 b5 (off5 + j * 2) hz0).trans m0; have t1 := (y0 b1' (off1' + zi * 5) hz1).trans v0; have t2 := (y0 w.heap.size 1 hgX).trans p1; clear y0)))
        go_wp2
        go_roundw
        case rel => exact ⟨j + 1, d, cn, by go_num, rfl, by omega, hcd.out, hide (by have := HFT.out; simpa using this), hb.trans (hB7.mono hzr)⟩
        case measure => simp [intOf] <;> omega
      | true =>
        by_cases hde : d = 0
        · have e0 : ((d : Int) == 0) = true := by simpa using hde
          obtain ⟨rI, rZ, rE⟩ := HF.out j (zi, zr) HZ.out HWZ.out (by rw [hcn.out]; have := hcd.out; omega)
          simp only at rI rZ
          have hZn : zn = yn := by rw [HZN.out, rZ, HYN.out]
          clear hde
          go_wp2
          go_region_held3 (fun w' => w'.cell? ⟨b5, off5 + j * 2, none⟩ = some (.int .i64 (zi : Int)) ∧ w'.cell? ⟨b1', off1' + zi * 5, none⟩ = some (.int .i64 xz.kind) ∧ w'.cell? ⟨w.heap.size, 1, none⟩ = some (.slice (some ⟨b1', off1', none⟩) f.flat.length c)) (go_keep)
            ((go_at_call 65; go_must ((with_reducible refine (HASZ.out _).mono ?_); rintro e w7 ⟨rfl, hb7⟩; have hB7 := hd9.trans (hb7.mono hd9.size); obtain ⟨y0, _⟩ := bcell hB7; have t0 := (y0 b5 (off5 + j * 2) hz0).trans m0; have t3 := (y0 b5 (off5 + j * 2 + 1) hz0).trans m1; have t1 := (y0 b1' (off1' + zi * 5) hz1).trans v0; have t2 := (y0 w.heap.size 1 hgX).trans p1; clear y0)))
          go_wp2
          go_quiet (fail)
          go_wp2
          subst rI rZ rE hZn
          go_ret3
          exact ⟨_, _, rfl, r3.belowN (below_drewN hB7 _), hb0.trans ((hCr.trans ((below_drewN hB7 _).mono hCr.size)).mono hb0.size)⟩
        · have e0 : ((d : Int) == 0) = false := by simpa using hde
          obtain ⟨d', rfl⟩ : ∃ d', d = d' + 1 := ⟨d - 1, by omega⟩
          clear hde
          go_wp2
          go_region_held3 (fun w' => w'.cell? ⟨b5, off5 + j * 2, none⟩ = some (.int .i64 (zi : Int)) ∧ w'.cell? ⟨b1', off1' + zi * 5, none⟩ = some (.int .i64 xz.kind) ∧ w'.cell? ⟨w.heap.size, 1, none⟩ = some (.slice (some ⟨b1', off1', none⟩) f.flat.length c)) (go_keep)
            ((go_at_call 65; go_must ((with_reducible refine (HASZ.out _).mono ?_); rintro e w7 ⟨rfl, hb7⟩; have hB7 := hd9.trans (hb7.mono hd9.size); obtain ⟨y0, _⟩ := bcell hB7; have t0 := (y0 b5 (off5 + j * 2) hz0).trans m0; have t1 := (y0 b1' (off1' + zi * 5) hz1).trans v0; have t2 := (y0 w.heap.size 1 hgX).trans p1; clear y0)))
          go_wp2
          go_roundw
          case rel => exact ⟨j + 1, d', cn + 1, by go_num, by go_num, by omega, hide (by have := hcd.out; omega), hide (by have := HFT.out; simpa using this), hb.trans (hB7.mono hzr)⟩
          case measure => simp [intOf] <;> omega
    · obtain ⟨rI, rZ, rE⟩ := HNO.out (by
        have h9 := hcn.out
        have h8 : j = L.length := by have := HN5.out; omega
        rw [← h8, h9]; have := hcd.out; omega)
      have hz0 : zn = 0 := by rw [HZN.out, rZ]; rfl
      subst rI rZ rE hz0
      go_wp2
      go_ret3
      exact ⟨_, ⟨_, rfl⟩, At.nil _ _, hb0.trans ((hC5.trans (hb.mono hz5)).mono hb0.size)⟩
end Go.Proofs.Ythncfoompoheoaa
