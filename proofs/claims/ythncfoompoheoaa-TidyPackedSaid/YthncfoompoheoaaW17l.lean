/- Chapter 17: the law TidyPacked. -/
import Derived.Test.YthncfoompoheoaaTg
import Derived.Test.YthncfoompoheoaaW17k
namespace Go.Proofs.Ythncfoompoheoaa
set_option linter.unusedVariables false
set_option linter.unusedSimpArgs false
open Go.RowKit
/-- by the old numbers -/
def takenW (W : List Int) (r : List UInt64) : List UInt64 := W.map (fun v => (r[v.toNat]?).getD 0)
theorem packed17 {regs : Int} {l : List OpD} {keep : Int} (h : packE regs l keep = 0) {r : List UInt64} (hr : (r.length : Int) = regs) {W : List Int} {L : List OpD} (hW : packW regs l keep = W) (hL : packL regs l keep = L) :
    W.Pairwise (· < ·) ∧ (∀ v ∈ W, 0 ≤ v ∧ v < regs) ∧ (∀ i : Nat, (i : Int) < keep → W[i]? = some (i : Int)) ∧ dimsS regs l r.length = 0 ∧ dimsS (W.length : Int) L (takenW W r).length = 0 ∧
      (uptoS regs l r (-1)).length = r.length ∧ relW W (uptoS regs l r (-1)) (uptoS (W.length : Int) L (takenW W r) (-1)) := by
  unfold packW at hW
  unfold packL at hL
  rw [if_pos h] at hW hL
  obtain ⟨f, rfl, g, h1, h2⟩ := packE_good h
  have gp := g.pack h1 h2
  rw [hW] at gp hL
  have hL' : L = (f.mapO (packO W)).flat := by rw [f.flat_mapO]; exact hL.symm
  have hs : W.Pairwise (· < ·) := by rw [← hW]; exact wasL_sorted _ _ _
  have hw : ∀ v ∈ W, 0 ≤ v ∧ v < regs := fun v hv => by
    rw [← hW] at hv
    have := wasL_lt _ _ _ v hv
    have := g.r1
    omega
  have hlow : ∀ i : Nat, (i : Int) < keep → W[i]? = some (i : Int) := fun i hi => by
    obtain ⟨kp, rfl⟩ : ∃ kp : Nat, keep = kp := ⟨keep.toNat, by omega⟩
    rw [← hW]
    exact wasL_low kp f.flat regs.toNat (by omega) i (by omega)
  have htl : (takenW W r).length = W.length := by unfold takenW; simp
  have hv : ∀ x, (packO W x).v = x.v := fun x => by rw [packO_eq]
  have hd1 := dims_of_good g (n := r.length) (by omega)
  have hd2 : dimsS (W.length : Int) L (takenW W r).length = 0 := by rw [hL']; exact dims_of_good gp (by rw [htl]; omega)
  have ha : uptoS regs f.flat r (-1) = runR f.unroll r := by
    rw [uptoS_good g (by omega), show startR regs.toNat r = r by unfold startR; rw [show regs.toNat - r.length = 0 by omega]; simp]
    unfold uptoL
    rw [if_pos (by omega)]
  have hb : uptoS (W.length : Int) L (takenW W r) (-1) = runR (f.unroll.map (packO W)) (takenW W r) := by
    rw [hL', uptoS_good gp (by rw [htl]; omega), show startR (W.length : Int).toNat (takenW W r) = takenW W r by unfold startR; rw [htl, show (W.length : Int).toNat - W.length = 0 by omega]; simp, f.unroll_mapO hv]
    unfold uptoL
    rw [if_pos (by omega)]
  rw [ha, hb]
  refine ⟨hs, hw, hlow, hd1, hd2, by rw [runR_length], ?_⟩
  refine relW_run (regs := regs) hs hw f.unroll (fun x hx => ?_) hr (relW_start (fun v hv => by have := hw v hv; omega))
  obtain ⟨k1, k2, k3⟩ := f.unroll_mem g.ok x hx
  refine ⟨g.inR x hx, by unfold dOf; simp [k2, k3], fun v hv => ?_⟩
  have hrng := g.vals x k1 v hv
  obtain ⟨j, rfl⟩ : ∃ j : Nat, v = j := ⟨v.toNat, by omega⟩
  rw [← hW]
  refine wasL_mem keep f.flat regs.toNat j (by omega) (.inr ?_)
  unfold askedB
  rw [List.any_eq_true]
  exact ⟨_, List.mem_flatMap.2 ⟨x, k1, hv⟩, by simp⟩
set_option maxRecDepth 100000 in
set_option maxHeartbeats 6400000 in
theorem TidyPacked_calls (regs : Int) (a : Option Addr) (c : Nat) (l : List OpD) (keep : Int) (ra : Option Addr) (rc : Nat) (r : List UInt64) (w : World) (h : At w a l) (hr : At w ra r) :
    Calls Try.prog 14 #[.agg #[.int .i64 regs, .slice a l.length c], .int .i64 keep, .slice ra r.length rc] w fun e w' => e = .returned (.bool true) ∧ Below w.heap.size w w' := by
  have hb0 := below_new12 w (.cells #[.int .i64 regs, .slice a l.length c] 24)
  have hX := Blk.new w 24 #[.int .i64 regs, .slice a l.length c]
  have h1 := h.belowN hb0
  have hr1 := hr.belowN hb0
  obtain ⟨rn, hrn⟩ : ∃ rn, rn = r.length := ⟨_, rfl⟩
  rw [← hrn]
  by_cases hg : 100 < rn
  · clear hrn
    go_enter Try.func14, Try.ntmps14
    go_wp2_with (go_at_call 43; go_must ((with_reducible refine (goes17_calls _).mono ?_); rintro e w8 ⟨rfl, hb8⟩))
    go_ret
    exact ⟨rfl, hb0.trans (hb8.mono hb0.size)⟩
  cases hs : small13 regs l 100 with
  | false =>
    have HS := hide hs
    clear hs hrn
    go_enter Try.func14, Try.ntmps14
    go_wp2_with (first
      | (go_at_call 28; go_must ((with_reducible refine (Small13_calls regs a c l _ false HS.out _ h1 (by omega)).mono ?_); rintro e w1 ⟨rfl, hb1⟩; have hB1 := hb0.trans (hb1.mono hb0.size); have hz1 := hB1.size))
      | (go_at_call 43; go_must ((with_reducible refine (goes17_calls _).mono ?_); rintro e w8 ⟨rfl, hb8⟩)))
    go_ret
    exact ⟨rfl, hB1.trans (hb8.mono hz1)⟩
  | true =>
    have hl := small_le17 hs
    have HS := hide hs
    have HSM := hide (Small13_calls regs a c l _ true HS.out _ h1 (by omega))
    obtain ⟨ln, hln⟩ : ∃ ln, ln = l.length := ⟨_, rfl⟩
    have hl100 : ln ≤ 100 := by omega
    obtain ⟨hWl, hLl⟩ := pack_sizes regs l keep
    obtain ⟨E, hE⟩ : ∃ E, packE regs l keep = E := ⟨_, rfl⟩
    obtain ⟨W, hW⟩ : ∃ W, packW regs l keep = W := ⟨_, rfl⟩
    obtain ⟨L, hL⟩ : ∃ L, packL regs l keep = L := ⟨_, rfl⟩
    rw [hW] at hWl
    rw [hL, ← hln] at hLl
    have HP := hide (fun (w : World) (k1 : At w a l) => Pack_calls regs a c ln l hln keep w k1 (by omega) E W L hE hW hL)
    rw [← hln] at HSM h1 hX hb0 hr1 ⊢
    by_cases hE0 : E = 0
    case neg =>
      have e1 : (E == 0) = false := by simpa using hE0
      have e2 : (E != 0) = true := by simpa using hE0
      clear hs hrn hl hln hE hW hL hE0
      go_enter Try.func14, Try.ntmps14
      go_wp2_with (first
        | (go_at_call 28; go_must ((with_reducible refine (HSM.out).mono ?_); rintro e w1 ⟨rfl, hC1⟩; have hz1 := hC1.size; obtain ⟨p10, p11, _, _⟩ := (hX.belowN hC1).c2))
        | (go_at_call 51; go_must ((with_reducible refine (HP.out _ (h1.belowN hC1)).mono ?_); rintro e w2 ⟨a1, c1, n1, b1, d1, m1, rfl, hn1, hm1, hown1, hwas1, hb2⟩; have hx2 := below_new12 w2 (.cells #[.int .i64 (m1 : Int), .slice a1 n1 c1] 24); have hC2 := hC1.trans ((hb2.trans (hx2.mono hb2.size)).mono hz1); clear hn1 hm1))
        | (go_at_call 43; go_must ((with_reducible refine (goes17_calls _).mono ?_); rintro e w8 ⟨rfl, hb8⟩)))
      go_ret
      exact ⟨rfl, hb0.trans ((hC2.trans (hb8.mono hC2.size)).mono hb0.size)⟩
    subst hE0
    by_cases hrr : (rn : Int) = regs
    case neg =>
      have e1 : ((rn : Int) == regs) = false := by simpa using hrr
      have e2 : ((rn : Int) != regs) = true := by simpa using hrr
      clear hs hrn hl hln hE hW hL
      go_enter Try.func14, Try.ntmps14
      go_wp2_with (first
        | (go_at_call 28; go_must ((with_reducible refine (HSM.out).mono ?_); rintro e w1 ⟨rfl, hC1⟩; have hz1 := hC1.size; obtain ⟨p10, p11, _, _⟩ := (hX.belowN hC1).c2))
        | (go_at_call 51; go_must ((with_reducible refine (HP.out _ (h1.belowN hC1)).mono ?_); rintro e w2 ⟨a1, c1, n1, b1, d1, m1, rfl, hn1, hm1, hown1, hwas1, hb2⟩; have hx2 := below_new12 w2 (.cells #[.int .i64 (m1 : Int), .slice a1 n1 c1] 24); have hC2 := hC1.trans ((hb2.trans (hx2.mono hb2.size)).mono hz1); obtain ⟨p20, p21, _, _⟩ := (hX.belowN hC2).c2; clear hn1 hm1))
        | (go_at_call 43; go_must ((with_reducible refine (goes17_calls _).mono ?_); rintro e w8 ⟨rfl, hb8⟩)))
      go_ret
      exact ⟨rfl, hb0.trans ((hC2.trans (hb8.mono hC2.size)).mono hb0.size)⟩
    subst hrr
    obtain ⟨kW, kR, kL, kd1, kd2, kal, krel⟩ := packed17 hE (r := r) (by omega) hW hL
    have hkk : 1 ≤ keep ∧ keep ≤ (rn : Int) := by obtain ⟨_, _, _, k1, k2⟩ := packE_good hE; exact ⟨k1, k2⟩
    obtain ⟨hk1, hk2⟩ := hkk
    obtain ⟨kp, rfl⟩ : ∃ kp : Nat, keep = kp := ⟨keep.toNat, by omega⟩
    obtain ⟨A, hA⟩ : ∃ A, uptoS (rn : Int) l r (-1) = A := ⟨_, rfl⟩
    obtain ⟨T, hT⟩ : ∃ T, takenW W r = T := ⟨_, rfl⟩
    obtain ⟨B, hB⟩ : ∃ B, uptoS (W.length : Int) L T (-1) = B := ⟨_, rfl⟩
    rw [hT] at kd2 krel
    rw [hA] at kal krel
    rw [hB] at krel
    have hTl : T.length = W.length := by rw [← hT]; unfold takenW; simp
    obtain ⟨m, hm⟩ : ∃ m, m = W.length := ⟨_, rfl⟩
    rw [← hm] at hB kd2 hWl
    obtain ⟨an, han⟩ : ∃ an, an = A.length := ⟨_, rfl⟩
    obtain ⟨bn, hbn⟩ : ∃ bn, bn = B.length := ⟨_, rfl⟩
    have hbm : bn = m := by rw [hbn, krel.1, hm]
    have harn : an = rn := by rw [han, kal, hrn]
    have HR1 := hide (fun (w : World) (k1 : At w a l) (k2 : At w ra r) => RunN (rn : Int) a c ln l ra rc rn r w A 0 hln hrn hA kd1 k1 (by omega) k2 (by omega))
    have HR2 := hide (fun (p q : Option Addr) (cp cq np : Nat) (hnp : np = L.length) (w : World) (k1 : At w p L) (k2 : At w q T) => RunN (m : Int) p cp np L q cq m T w B 0 hnp (by rw [hTl]; exact hm) hB kd2 k1 (by omega) k2 (by omega))
    rw [← han] at HR1
    rw [← hbn, hbm] at HR2
    rw [harn] at HR1
    have HM := hide hm
    have HT : Hid (∀ (i : Nat) (v : Int), W[i]? = some v → ∃ y, r[v.toNat]? = some y ∧ T[i]? = some y) := hide fun i v hi => by
      have hv := kR v (List.mem_of_getElem? hi)
      have hlt : v.toNat < r.length := by omega
      refine ⟨r[v.toNat], List.getElem?_eq_getElem hlt, ?_⟩
      rw [← hT]
      unfold takenW
      rw [List.getElem?_map, hi, Option.map_some, List.getElem?_eq_getElem hlt]
      rfl
    have HK : Hid (∀ (i : Nat) (v : Int), W[i]? = some v → 0 ≤ v ∧ v < (rn : Int) ∧ (i < kp → v = (i : Int)) ∧ (∀ j u, i = j + 1 → W[j]? = some u → u < v)) := hide fun i v hi => by
      have hv := kR v (List.mem_of_getElem? hi)
      refine ⟨hv.1, hv.2, fun hik => ?_, fun j u hij hj => ?_⟩
      · have := kL i (by omega)
        rw [hi] at this
        injection this
      · subst hij
        obtain ⟨i1, e1⟩ := List.getElem?_eq_some_iff.1 hi
        obtain ⟨j1, e2⟩ := List.getElem?_eq_some_iff.1 hj
        have := List.pairwise_iff_getElem.1 kW j (j + 1) j1 i1 (Nat.lt_succ_self j)
        omega
    have HAB : Hid (∀ (i : Nat) (v : Int), W[i]? = some v → ∃ y, A[v.toNat]? = some y ∧ B[i]? = some y) := hide fun i v hi => by
      have hv := kR v (List.mem_of_getElem? hi)
      have hlt : v.toNat < A.length := by omega
      have := krel.2 i v hi
      exact ⟨A[v.toNat], List.getElem?_eq_getElem hlt, by rw [this, List.getElem?_eq_getElem hlt]⟩
    have HTL := hide (show m = T.length by rw [hTl]; exact hm)
    have hkp1 : 1 ≤ kp := by omega
    clear hs hrn hl hln hE hW hL kW kR kL kd1 kd2 kal krel hA hT hB hTl hm han hbn hbm harn hk1 hk2
    go_enter Try.func14, Try.ntmps14
    go_wp2_with (first
      | (go_at_call 28; go_must ((with_reducible refine (HSM.out).mono ?_); rintro e w1 ⟨rfl, hC1⟩; have hz1 := hC1.size; obtain ⟨p10, p11, _, _⟩ := (hX.belowN hC1).c2))
      | (go_at_call 51; go_must ((with_reducible refine (HP.out _ (h1.belowN hC1)).mono ?_); rintro e w2 ⟨a1, c1, n1, b1, d1, m1, rfl, hn1, hm1, hown1, hwas1, hb2⟩; obtain rfl : m1 = m := (hm1.trans HM.out.symm); have HN1 := hide hn1; have hx2 := below_new12 w2 (.cells #[.int .i64 (m1 : Int), .slice a1 n1 c1] 24); have hD2 := hb2.trans (hx2.mono hb2.size); have hC2 := hC1.trans (hD2.mono hz1); have hY2 := Blk.new w2 24 #[.int .i64 (m1 : Int), .slice a1 n1 c1]; have hX2 := hX.belowN hC2; obtain ⟨p20, p21, _, _⟩ := hX2.c2; have hA2 := hown1.at_.belowN hx2; have hW2 := hwas1.at_.belowN hx2; have hR2 := hr1.belowN hC2; have hL2 := h1.belowN hC2; clear hn1 hm1)))
    have hz2 := hC2.size
    obtain ⟨W2, hW2e⟩ : ∃ W2, W2 = w2.alloc (.cells #[.int .i64 (m1 : Int), .slice a1 n1 c1] 24) := ⟨_, rfl⟩
    have hs2 : W2.heap.size = w2.heap.size + 1 := by rw [hW2e]; simp
    have hO0 : Own (W2.alloc (.cells #[] 68)) W2.heap.size 68 (some ⟨w2.heap.size + 1, 0, none⟩) 0 ([] : List UInt64) := by have h9 := Own.new W2 (Nat.le_refl _) 68 UInt64; rw [← hs2]; exact h9
    rw [← hW2e] at hC2 hY2 hX2 p20 p21 hA2 hW2 hR2 hL2 hz2 ⊢
    clear hW2e hs2
    go_loopw [10, 11] (fun lv iv wr => ∃ (i : Nat) (al : Option Addr) (cl : Nat), iv = .int .i64 i ∧ i ≤ m1 ∧ lv = .slice al i cl ∧ Own wr W2.heap.size 68 al cl (T.take i) ∧ Below W2.heap.size W2 wr) (fun _ iv _ => m1 - (intOf iv).toNat)
    case atStart => exact ⟨0, _, 0, rfl, by omega, rfl, hO0, Below.alloc (Below.refl _ _) (Nat.le_refl _) _⟩
    case round =>
      obtain ⟨i, al, cl, rfl, hi, rfl, hown, hb⟩ := hrel
      have hzr := hb.size
      by_cases hlt : i < m1
      · obtain ⟨v, hv⟩ : ∃ v, W[i]? = some v := ⟨_, List.getElem?_eq_getElem (by have := HM.out; omega)⟩
        obtain ⟨v0, v1, v2, v3⟩ := HK.out i v hv
        obtain ⟨y, hy, hTy⟩ := HT.out i v hv
        obtain ⟨vn, rfl⟩ : ∃ vn : Nat, v = vn := ⟨v.toNat, by omega⟩
        rw [Int.toNat_natCast] at hy
        obtain ⟨b5, o5, rfl, x0⟩ := getI_eq hW2 hb hv
        obtain ⟨b6, o6, z, rfl, hz6, y0⟩ := hR2.getU hb (k := vn) (List.getElem?_eq_some_iff.1 hy).1
        obtain rfl : y = z := by have := hy.symm.trans hz6.out; simpa using this
        have HTS := hide (show T.take (i + 1) = T.take i ++ [y] by rw [List.take_add_one, hTy]; rfl)
        have HTK := hide (show i = (T.take i).length by rw [List.length_take]; have := HTL.out; omega)
        have hi0 : (0 : Int) ≤ (i : Int) := by omega
        have hi1 : (i : Int) < (m1 : Int) := by omega
        have d0 : decide ((vn : Int) < 0) = false := decide_eq_false (by omega)
        have d1 : decide ((rn : Int) ≤ (vn : Int)) = false := decide_eq_false (by omega)
        have d1n : decide (rn ≤ vn) = false := decide_eq_false (by omega)
        have hvr : vn < rn := by omega
        have hown9 := fun (q : Nat) => hown.drewN q
        cases i with
        | zero =>
          rw [Nat.add_zero] at x0
          have hk0 : 0 < kp := by omega
          have e0 := v2 hk0
          have w1 : ((vn : Int) == 0) = true := by simp; omega
          have w2 : ((vn : Int) != 0) = false := by simp; omega
          have w3 : (vn == 0) = true := by simp; omega
          have w4 : (vn != 0) = false := by simp; omega
          have j1 : decide ((0 : Int) < (kp : Int)) = true := decide_eq_true (by omega)
          have j2 : decide (0 < kp) = true := decide_eq_true (by omega)
          have j3 : (0 : Int) < (kp : Int) := by omega
          clear v2 v3 hv hy hTy hz6 e0
          go_wp2
          go_quiet (fail)
          go_wp2_with (at_builtin; go_must (refine wpList_push tyU (hown.drewN nq) y rfl rfl rfl rfl rfl (by simp) HTK.out hzr (by omega) ?_; intro a6 c6 w6 hown6 hg6 _; have hb6 := below_push (below_drewN hb nq) (hown.drewN nq) hg6 hzr))
          go_roundw
          case rel => exact ⟨1, a6, c6, by go_num, by omega, rfl, by rw [HTS.out]; exact hown6, hb6⟩
          case measure => simp [intOf]; omega
        | succ i =>
          obtain ⟨u, hu⟩ : ∃ u, W[i]? = some u := ⟨_, List.getElem?_eq_getElem (by have := HM.out; omega)⟩
          obtain ⟨u0, u1, _, _⟩ := HK.out i u hu
          have huv := v3 i u rfl hu
          obtain ⟨un, rfl⟩ : ∃ un : Nat, u = un := ⟨u.toNat, by omega⟩
          obtain ⟨_, _, ha9, x9⟩ := getI_eq hW2 hb hu
          cases ha9
          have hdl : decide ((vn : Int) ≤ (un : Int)) = false := decide_eq_false (by omega)
          have hdln : decide (vn ≤ un) = false := decide_eq_false (by omega)
          have hun : un < vn := by omega
          by_cases hik : i + 1 < kp
          · have e0 := v2 hik
            have w1 : ((vn : Int) == (i : Int) + 1) = true := by simp; omega
            have w2 : ((vn : Int) != (i : Int) + 1) = false := by simp; omega
            have w3 : (vn == i + 1) = true := by simp; omega
            have w4 : (vn != i + 1) = false := by simp; omega
            have j1 : decide ((i : Int) + 1 < (kp : Int)) = true := decide_eq_true (by omega)
            have j2 : decide (i + 1 < kp) = true := decide_eq_true (by omega)
            have j3 : (i : Int) + 1 < (kp : Int) := by omega
            clear v2 v3 hv hy hTy hz6 e0 hu
            go_wp2
            go_quiet (fail)
            go_wp2_with (at_builtin; go_must (refine wpList_push tyU (hown.drewN nq) y rfl rfl rfl rfl rfl (by simp) HTK.out hzr (by omega) ?_; intro a6 c6 w6 hown6 hg6 _; have hb6 := below_push (below_drewN hb nq) (hown.drewN nq) hg6 hzr))
            go_roundw
            case rel => exact ⟨i + 1 + 1, a6, c6, by go_num, by omega, rfl, by rw [HTS.out]; exact hown6, hb6⟩
            case measure => simp [intOf]; omega
          · have hik2 : decide (((i + 1 : Nat) : Int) < (kp : Int)) = false := decide_eq_false (by omega)
            have hik3 : decide (i + 1 < kp) = false := decide_eq_false (by omega)
            have hik4 : decide ((i : Int) + 1 < (kp : Int)) = false := decide_eq_false (by omega)
            clear v2 v3 hv hy hTy hz6 hu
            go_wp2
            go_quiet (fail)
            go_wp2_with (at_builtin; go_must (refine wpList_push tyU (hown.drewN nq) y rfl rfl rfl rfl rfl (by simp) HTK.out hzr (by omega) ?_; intro a6 c6 w6 hown6 hg6 _; have hb6 := below_push (below_drewN hb nq) (hown.drewN nq) hg6 hzr))
            go_roundw
            case rel => exact ⟨i + 1 + 1, a6, c6, by go_num, by omega, rfl, by rw [HTS.out]; exact hown6, hb6⟩
            case measure => simp [intOf]; omega
      · obtain rfl : m1 = i := by omega
        have hTT : T.take m1 = T := by rw [HTL.out]; exact List.take_length
        rw [hTT] at hown
        obtain ⟨W3, rfl⟩ : ∃ W3 : World, W3 = wr := ⟨_, rfl⟩
        have hC3 := hC2.trans (hb.mono hz2)
        have hz3 := hC3.size
        have hA3 := hA2.belowN hb
        have hW3 := hW2.belowN hb
        have hL3 := hL2.belowN hb
        have hR3 := hR2.belowN hb
        have hX3 := hX2.belowN hb
        have hY3 := hY2.belowN hb
        have hat3 := hown.at_
        obtain ⟨p30, p31, _, _⟩ := hX3.c2
        clear hTT
        go_wp2_with (first
          | (have hgd := hA4; go_at_call 55; go_must ((with_reducible refine (HR2.out _ _ _ _ _ HN1.out _ hA4 hat4).mono ?_); rintro e w5 ⟨a5, c5, rfl, hown5, hb5⟩; have hC5 := hC4.trans (hb5.mono hz4); have hra := hown4.at_.belowN hb5; have hrb := hown5.at_; have hW5 := hW4.belowN hb5))
          | (go_at_call 55; go_must ((with_reducible refine (HR1.out _ hL3 hR3).mono ?_); rintro e w4 ⟨a4, c4, rfl, hown4, hb4⟩; have hC4 := hC3.trans (hb4.mono hz3); have hz4 := hC4.size; have hA4 := hA3.belowN hb4; have hat4 := hat3.belowN hb4; have hW4 := hW3.belowN hb4; obtain ⟨q40, q41, _, _⟩ := (hY3.belowN hb4).c2)))
        go_loopw [16] (fun iv wr => ∃ i : Nat, iv = .int .i64 i ∧ i ≤ m1 ∧ ∃ q, wr = w5.drewN q) (fun iv _ => m1 - (intOf iv).toNat)
        case atStart => exact ⟨0, rfl, by omega, 0, rfl⟩
        case round =>
          obtain ⟨i, rfl, hi, q, rfl⟩ := hrel
          by_cases hlt : i < m1
          · obtain ⟨v, hv⟩ : ∃ v, W[i]? = some v := ⟨_, List.getElem?_eq_getElem (by have := HM.out; omega)⟩
            obtain ⟨v0, v1, _, _⟩ := HK.out i v hv
            obtain ⟨y, hy, hBy⟩ := HAB.out i v hv
            obtain ⟨vn, rfl⟩ : ∃ vn : Nat, v = vn := ⟨v.toNat, by omega⟩
            rw [Int.toNat_natCast] at hy
            obtain ⟨b5, o5, rfl, x0⟩ := getI_eq hW5 (Below.refl _ _) hv
            obtain ⟨b6, o6, z6, rfl, hz6, y0⟩ := hra.getU (Below.refl _ _) (k := vn) (List.getElem?_eq_some_iff.1 hy).1
            obtain rfl : y = z6 := by have := hy.symm.trans hz6.out; simpa using this
            obtain ⟨b7, o7, z7, rfl, hz7, z0⟩ := hrb.getU (Below.refl _ _) (k := i) (List.getElem?_eq_some_iff.1 hBy).1
            obtain rfl : y = z7 := by have := hBy.symm.trans hz7.out; simpa using this
            have hvr : vn < rn := by omega
            have hi0 : (0 : Int) ≤ (i : Int) := by omega
            have hi1 : (i : Int) < (m1 : Int) := by omega
            clear hv hy hBy hz6 hz7
            go_wp2
            go_quiet (fail)
            go_wp2
            go_roundw
            case rel => exact ⟨i + 1, by go_num, by omega, _, rfl⟩
            case measure => simp [intOf]; omega
          · obtain rfl : m1 = i := by omega
            have hC6 := below_drewN hC5 q
            go_wp2_with (go_at_call 43; go_must ((with_reducible refine (goes17_calls _).mono ?_); rintro e w8 ⟨rfl, hb8⟩))
            go_ret
            exact ⟨rfl, hb0.trans ((hC6.trans (hb8.mono hC6.size)).mono hb0.size)⟩
end Go.Proofs.Ythncfoompoheoaa
