/- Products: the document's. -/
import Derived.Test.YtcamcnahkdiefaaPz
namespace Go.Proofs.Ytcamcnahkdiefaa
set_option linter.unusedVariables false
set_option linter.unusedSimpArgs false
open Go.RowKit
set_option maxRecDepth 100000 in
set_option maxHeartbeats 12800000 in
theorem RMul3_good (P Q : Nat → Prop) (va : Int) (a b : Option Addr) (n c m d : Nat) (A B : List Tm) (w : World) (h : TOut P w a n c A) (h' : TOut Q w b m d B) (hQA : checkP va A = true) (hQB : checkP va B = true) (V : Int) (L : List Tm) (E : Int) (hV : mulV va A B = V) (hL : mulL va A B = L) (hE : mulE va A B = E) :
    Calls Try.prog 29 #[.agg #[.int .i64 va, .slice a n c], .agg #[.int .i64 va, .slice b m d]] w (PolyOut V L E w) := by
  obtain ⟨hX1, hX2, hX3, hb0, hz0⟩ := three_boxes w 24 24 24 #[.int .i64 va, .slice a n c] #[.int .i64 va, .slice b m d] #[.int .i64 0, .slice none 0 0]
  obtain ⟨W0, hW0⟩ : ∃ W0, ((w.alloc (.cells #[.int .i64 va, .slice a n c] 24)).alloc (.cells #[.int .i64 va, .slice b m d] 24)).alloc (.cells #[.int .i64 0, .slice none 0 0] 24) = W0 := ⟨_, rfl⟩
  rw [hW0] at hX1 hX2 hX3 hb0 hz0
  have hokA := checkP_ok hQA
  have hokB := checkP_ok hQB
  have hn4 : n ≤ 4096 := by rw [h.len]; exact hokA.len
  have hm4 : m ≤ 4096 := by rw [h'.len]; exact hokB.len
  have HCA := hide (RCheck_calls va a n c A h.len W0 (h.at_.at_.belowN hb0) (by omega) hokA.len6 true hQA)
  have HCB := hide (fun (W : World) (k : Below W0.heap.size W0 W) => RCheck_calls va b m d B h'.len W ((h'.at_.at_.belowN hb0).belowN k) (by omega) hokB.len6 true hQB)
  obtain ⟨p0, p1, p2, p3⟩ := hX1.c2
  obtain ⟨q0, q1, q2, q3⟩ := hX2.c2
  have HW0 := hide hW0
  have e1 : (va != va) = false := by simp
  have e2 : (va == va) = true := by simp
  have hatA := h.at_.belowN hb0
  have hatB := h'.at_.belowN hb0
  have HN := hide h.len
  have HM := hide h'.len
  have HOA := hide hokA
  have HOB := hide hokB
  have HV := hide hV
  have HL := hide hL
  have HE := hide hE
  obtain ⟨vn, hvn⟩ : ∃ vn : Nat, va = vn := ⟨va.toNat, by have := hokA.v; omega⟩
  have hv64 : vn ≤ 64 := by have := hokA.n64; omega
  subst hvn
  obtain ⟨R, hR⟩ : ∃ R, rightL (vn : Int) (mulT A B) = R := ⟨_, rfl⟩
  have HR := hide hR
  have HR0 : Hid (rightL (vn : Int) (mulT (A.drop 0) B) = R) := hR
  have HP0 : Hid (rightL (vn : Int) (mulT (A.take 0) B) = true) := rfl
  clear hQA hQB h h' hW0 hokA hokB hV hL hE hR
  go_enter Try.func29, Try.ntmps29
  go_wp2_with (first
    | (have hgd := hb1; go_at_call 22; ((with_reducible refine (HCB.out _ hb1).mono ?_); rintro v w2 ⟨rfl, hb2⟩; have hB2 := hb1.trans (hb2.mono hb1.size); have hX5 := hX3.belowN hB2; obtain ⟨r0, r1, r2, r3⟩ := (hX1.belowN hB2).c2; obtain ⟨s0, s1, s2, s3⟩ := (hX2.belowN hB2).c2))
    | (go_at_call 22; ((rw [HW0.out]); (with_reducible refine (HCA.out).mono ?_); rintro v w1 ⟨rfl, hb1⟩; obtain ⟨s0, s1, s2, s3⟩ := (hX2.belowN hb1).c2)))
  have hBz := hb0.trans (hB2.mono hb0.size)
  have hA2 := hatA.belowN hB2
  have hBB2 := hatB.belowN hB2
  have hY1 := hX1.belowN hB2
  have hY2 := hX2.belowN hB2
  have hO1 := OwnT.nil (P := fun _ => True) (Own.new w2 (Nat.le_refl _) 57 TmH)
  have hbN := below_box w2 (.cells #[] 57)
  have hzz := hX5.lt
  clear HCA HCB hatA hatB hX1 hX2 hX3 hgd
  go_loopw [6, 7] (fun lv iv wr => ∃ (k o : Nat) (ao : Option Addr) (co : Nat) (hs : List TmH), iv = .int .i64 k ∧ k ≤ n ∧ lv = .slice ao o co ∧ Hid (o = (mulT (A.take k) B).length) ∧ Hid (rightL (vn : Int) (mulT (A.drop k) B) = R) ∧ Hid (rightL (vn : Int) (mulT (A.take k) B) = true) ∧ OwnT (fun _ => True) wr w2.heap.size ao co hs (mulT (A.take k) B) ∧ Below w2.heap.size w2 wr) (fun _ iv _ => n - (intOf iv).toNat)
  case atStart => exact ⟨0, 0, _, _, [], rfl, by omega, rfl, rfl, HR0.out, HP0.out, hO1, hbN⟩
  case round =>
    obtain ⟨k, o, ao, co, hs, rfl, hk, rfl, ho, hRk, hPk, hO, hbX⟩ := hrel
    have hzr := hbX.size
    have hXr := hX5.belowN hbX
    have hBr := hBz.trans (hbX.mono hBz.size)
    obtain ⟨x0, x1, x2, x3⟩ := hXr.c2
    obtain ⟨v0, v1, v2, v3⟩ := (hY1.belowN hbX).c2
    by_cases hlt : k < n
    · obtain ⟨t, ht⟩ : ∃ t, A[k]? = some t := ⟨_, List.getElem?_eq_getElem (by rw [← HN.out]; exact hlt)⟩
      have hk0 : (0 : Int) ≤ (k : Int) := by omega
      have hk1 : (k : Int) < (n : Int) := by omega
      have hrt := HOA.out.rt t (List.mem_of_getElem? ht)
      have hlen := rightT_len hrt
      have HIN := hide (rightT_in hrt)
      have hRk2 := hRk.out
      rw [mulT_drop ht] at hRk2
      have HRK2 : Hid (rightL (vn : Int) ((B.drop 0).map (mul1 t) ++ mulT (A.drop (k + 1)) B) = R) := hRk2
      have HTA := hide (mulT_take (B := B) ht)
      have hPs : Hid (rightL (vn : Int) (mulT (A.take k) B ++ (B.take 0).map (mul1 t)) = true) := by
        show _ = _
        rw [List.take_zero, List.map_nil, List.append_nil]; exact hPk.out
      have hOs : OwnT (fun _ => True) wr w2.heap.size ao co hs (mulT (A.take k) B ++ (B.take 0).map (mul1 t)) := by
        rw [List.take_zero, List.map_nil, List.append_nil]; exact hO
      have hos : Hid (o = (mulT (A.take k) B ++ (B.take 0).map (mul1 t)).length) := by
        show _ = _
        rw [List.take_zero, List.map_nil, List.append_nil]; exact ho.out
      have HLA := hide (show (mulT (A.take k) B).length + m ≤ 16777216 by
        rw [mulT_len, List.length_take, ← HN.out, ← HM.out, Nat.min_eq_left (by omega)]
        have : (k + 1) * m ≤ 4096 * 4096 := Nat.mul_le_mul (by omega) hm4
        rw [Nat.succ_mul] at this
        omega)
      have HT := hide ht
      obtain ⟨wo, rfl⟩ : ∃ wo : World, wo = wr := ⟨_, rfl⟩
      clear ht hlen hrt hRk2 hO
      go_wp2
      go_loopw [6, 8] (fun lv jv wr => ∃ (i o : Nat) (ao : Option Addr) (co : Nat) (hs : List TmH), jv = .int .i64 i ∧ i ≤ m ∧ lv = .slice ao o co ∧ Hid (o = (mulT (A.take k) B ++ (B.take i).map (mul1 t)).length) ∧ Hid (rightL (vn : Int) ((B.drop i).map (mul1 t) ++ mulT (A.drop (k + 1)) B) = R) ∧ Hid (rightL (vn : Int) (mulT (A.take k) B ++ (B.take i).map (mul1 t)) = true) ∧ OwnT (fun _ => True) wr w2.heap.size ao co hs (mulT (A.take k) B ++ (B.take i).map (mul1 t)) ∧ Below w2.heap.size w2 wr) (fun _ jv _ => m - (intOf jv).toNat)
      case atStart => exact ⟨0, o, ao, co, hs, rfl, by omega, rfl, hos.out, HRK2.out, hPs.out, hOs, hbX⟩
      case round =>
        obtain ⟨i, o, ao, co, hs, rfl, hi, rfl, ho, hRi, hPi, hO, hbX⟩ := hrel
        have hzr := hbX.size
        obtain ⟨u0, u1, u2, u3⟩ := (hY2.belowN hbX).c2
        by_cases hlt : i < m
        · obtain ⟨s, hs1⟩ : ∃ s, B[i]? = some s := ⟨_, List.getElem?_eq_getElem (by rw [← HM.out]; exact hlt)⟩
          have hi0 : (0 : Int) ≤ (i : Int) := by omega
          have hi1 : (i : Int) < (m : Int) := by omega
          have hrts := HOB.out.rt s (List.mem_of_getElem? hs1)
          have HINS := hide (rightT_in hrts)
          have hRi2 := hRi.out
          rw [map_drop1 hs1, List.cons_append, rightL_cons] at hRi2
          have HBT := hide (map_take1 (s := t) hs1)
          obtain ⟨Z, hZ⟩ : ∃ Z, List.zipWith (· + ·) t.2 s.2 = Z := ⟨_, rfl⟩
          have htl : t.2.length = vn := by have := rightT_len (HOA.out.rt t (List.mem_of_getElem? HT.out)); omega
          have hsl : s.2.length = vn := by have := rightT_len hrts; omega
          have hZl : Z.length = vn := by rw [← hZ]; exact zip_len htl hsl
          have HZ := hide hZ
          have HZL := hide hZl
          have HS := hide hs1
          have HTL := hide htl
          have HSL := hide hsl
          have HO := hide hO
          have HRi2 := hide hRi2
          have hoN := Own.new wr (Nat.le_refl _) 3 Int
          have hbN2 := below_box wr (.cells #[] 3)
          obtain ⟨wi, rfl⟩ : ∃ wi : World, wi = wr := ⟨_, rfl⟩
          clear hs1 hrts hZ hZl htl hsl hO hRi2
          go_wp2
          go_loopw [9, 10] (fun ev pv wr => ∃ (p : Nat) (ae : Option Addr) (ce : Nat), pv = .int .i64 p ∧ p ≤ vn ∧ ev = .slice ae p ce ∧ Own wr wi.heap.size 3 ae ce (Z.take p) ∧ Below wi.heap.size wi wr) (fun _ pv _ => vn - (intOf pv).toNat)
          case atStart => exact ⟨0, _, _, rfl, by omega, rfl, hoN, hbN2⟩
          case round =>
            obtain ⟨p, ae, ce, rfl, hp, rfl, hown, hbi⟩ := hrel
            have hbX9 := hbX.trans (hbi.mono hzr)
            have hzp := hbX9.size
            have hzi := hbi.size
            obtain ⟨c0, c1, c2, c3⟩ := (hY1.belowN hbX9).c2
            obtain ⟨d0, d1, d2, d3⟩ := (hY2.belowN hbX9).c2
            by_cases hlt : p < vn
            · obtain ⟨b1, off1, t', ea, en, ec, rfl, ht', t0, t1, hrow⟩ := hA2.getB hbX9 (k := k) (by rw [← HN.out]; omega)
              obtain rfl : t' = t := Option.some.inj (ht'.out.symm.trans HT.out)
              obtain ⟨b2, off2, s', fa, fn, fc, rfl, hs', s0, s1, hrowS⟩ := hBB2.getB hbX9 (k := i) (by rw [← HM.out]; omega)
              obtain rfl : s' = s := Option.some.inj (hs'.out.symm.trans HS.out)
              obtain ⟨b3, off3, x, hea3, hx, y0⟩ := hrow.out.2.2.2.2.getI hbX9 (k := p) (by rw [HTL.out]; exact hlt)
              obtain ⟨b4, off4, y, hfa3, hy, y1⟩ := hrowS.out.2.2.2.2.getI hbX9 (k := p) (by rw [HSL.out]; exact hlt)
              have hl1 : b1 < w2.heap.size := hA2.lt (by rw [← HN.out]; omega)
              have hl2 : b2 < w2.heap.size := hBB2.lt (by rw [← HM.out]; omega)
              have hl3 : b3 < w2.heap.size := by
                obtain ⟨b', off', e', h'⟩ := hrow.out.2.2.2.2.lt (by intro e; have := HTL.out; rw [e] at this; simp at this; omega)
                have e9 : (some ⟨b3, off3, none⟩ : Option Addr) = some ⟨b', off', none⟩ := hea3.symm.trans e'
                injection e9 with e9; injection e9 with e9; omega
              have hl4 : b4 < w2.heap.size := by
                obtain ⟨b', off', e', h'⟩ := hrowS.out.2.2.2.2.lt (by intro e; have := HSL.out; rw [e] at this; simp at this; omega)
                have e9 : (some ⟨b4, off4, none⟩ : Option Addr) = some ⟨b', off', none⟩ := hfa3.symm.trans e'
                injection e9 with e9; injection e9 with e9; omega
              have hen : (p : Int) < (en : Int) := by have h1 : en = t'.2.length := hrow.out.2.1; rw [h1, HTL.out]; omega
              have hfn : (p : Int) < (fn : Int) := by have h1 : fn = s'.2.length := hrowS.out.2.1; rw [h1, HSL.out]; omega
              subst hea3 hfa3
              have hp0 : (0 : Int) ≤ (p : Int) := by omega
              have hp1 : (p : Int) < (vn : Int) := by omega
              have hxr := HIN.out x (List.mem_of_getElem? hx.out)
              have hyr := HINS.out y (List.mem_of_getElem? hy.out)
              have hZp : Z[p]? = some (x + y) := by rw [← HZ.out]; exact zip_at hx.out hy.out
              have HZT := hide (show Z.take (p + 1) = Z.take p ++ [x + y] by rw [List.take_add_one, hZp]; rfl)
              have HPL := hide (show p = (Z.take p).length by rw [List.length_take, HZL.out]; omega)
              have HCX := hide (fun (W : World) (k9 : Below w2.heap.size w2 W) (b9 o9 : Nat) (hl9 : b9 < w2.heap.size) => show W.cell? ⟨b9, o9, none⟩ = wr.cell? ⟨b9, o9, none⟩ from ((bcell k9).1 b9 o9 hl9).trans ((bcell hbX9).1 b9 o9 hl9).symm)
              have HL1 := hide hl1
              have HL2 := hide hl2
              have HL3 := hide hl3
              have HL4 := hide hl4
              have hBw := Below.drew (Below.refl wr.heap.size wr)
              have hAXY : At (wr.alloc (.cells #[.int .i64 (x + y)] 3)).drew (some ⟨wr.heap.size, 0, none⟩) [x + y] := At.ofBlk (Blk.new wr 3 #[.int .i64 (x + y)]) _ rfl
              have HZA : Hid (wi.heap.size ≤ (wr.alloc (.cells #[.int .i64 (x + y)] 3)).drew.heap.size) := hide (by show _ ≤ (wr.alloc (.cells #[.int .i64 (x + y)] 3)).heap.size; rw [World.size_alloc]; omega)
              have HP9 : Hid (p ≤ 1000000000) := hide (by omega)
              have hwr : IntKind.i64.wrap (x + y) = x + y := IntWalk.i64_in _ ⟨by omega, by omega⟩
              have HBP := hide (fun (w6 : World) (hg6 : (wr.alloc (.cells #[.int .i64 (x + y)] 3)).drew.grownBy w6 (ae.map (·.block))) => below_push ((hbi.alloc hzi (.cells #[.int .i64 (x + y)] 3)).drew) (hown.alloc (.cells #[.int .i64 (x + y)] 3)).drew hg6 (by simp; omega))
              clear ht' hs' hx hy hZp hl1 hl2 hl3 hl4
              go_wp2
              go_region_held3 (fun w' => w'.cell? ⟨w.heap.size, 1, none⟩ = some (.slice (some ⟨b1, off1, none⟩) n c) ∧ w'.cell? ⟨b1, off1 + k * 2 + 1, none⟩ = some (.slice (some ⟨b3, off3, none⟩) en ec) ∧ w'.cell? ⟨b3, off3 + p, none⟩ = some (.int .i64 x) ∧ w'.cell? ⟨w.heap.size + 1, 1, none⟩ = some (.slice (some ⟨b2, off2, none⟩) m d) ∧ w'.cell? ⟨b2, off2 + i * 2 + 1, none⟩ = some (.slice (some ⟨b4, off4, none⟩) fn fc) ∧ w'.cell? ⟨b4, off4 + p, none⟩ = some (.int .i64 y)) (go_keep)
                ((refine step_pushAll tyI3 (hown.alloc _).drew (l2 := [x + y]) (hAXY) rfl rfl rfl rfl HPL.out rfl HZA.out HP9.out (show 1 ≤ 1000000000 by decide) ?_; intro a6 c6 w6 hown6 hg6 hcs6; have hb6 := HBP.out w6 hg6; have hbX6 := hbX.trans (hb6.mono hzr); obtain ⟨e0, e3, e4, e5⟩ := (hY1.belowN hbX6).c2; obtain ⟨f0, f1, f2, f3⟩ := (hY2.belowN hbX6).c2; have g0 := (HCX.out _ hbX6 _ _ HL1.out).trans t1; have g1 := (HCX.out _ hbX6 _ _ HL3.out).trans y0; have g2 := (HCX.out _ hbX6 _ _ HL2.out).trans s1; have g3 := (HCX.out _ hbX6 _ _ HL4.out).trans y1))
              go_wp2
              go_roundw
              case rel => exact ⟨p + 1, a6, c6, by go_num, by omega, rfl, by rw [HZT.out]; exact hown6, hb6⟩
              case measure => simp [intOf]; omega
            · obtain rfl : p = vn := by omega
              rw [List.take_of_length_le (by rw [HZL.out]; exact Nat.le_refl _)] at hown
              have hXr := hX5.belowN hbX9
              obtain ⟨x0, x1, x2, x3⟩ := hXr.c2
              have hBr := hBz.trans (hbX9.mono hBz.size)
              obtain ⟨R1, hR1⟩ : ∃ R1, rightT (p : Int) Z = R1 := ⟨_, rfl⟩
              have HRC := hide (RRight_calls (p : Int) ae p ce Z HZL.out.symm wr hown.at_ (by omega) R1 hR1)
              have hmt : (mul1 t s).2 = Z := HZ.out
              have hRi2 := HRi2.out
              rw [hmt, hR1] at hRi2
              cases R1 with
              | false =>
                have hQF : R = false := by rw [← hRi2]; rfl
                have hV := HV.out
                have hL := HL.out
                have hE := HE.out
                unfold mulV at hV
                unfold mulL at hL
                unfold mulE at hE
                rw [HR.out, hQF] at hV hL hE
                rw [if_neg (by decide)] at hV hL hE
                subst hV hL hE
                clear hRi2 hR1 hmt hQF
                go_wp2_with (go_at_call 41; ((with_reducible refine (HRC.out).mono ?_); rintro v w5 ⟨rfl, rfl⟩))
                have hF6 := (hXr.set_ 0 (.int .i64 0)).set_ 1 (.slice none 0 0)
                refine bodyPost_ret (results_rowP rfl _ _ (w.heap.size + 1 + 1) _ #[.int .i64 0, .slice none 0 0] (0, 0) _ rfl hF6 Try.underlying24 rfl (by kernel_rfl)) rfl ?_
                exact PolyOut.bad _ _ _ ((hBr.setCell (p := ⟨w.heap.size + 1 + 1, 0, none⟩) (by show _ ≤ w.heap.size + 1 + 1; omega) (.int .i64 0)).setCell (p := ⟨w.heap.size + 1 + 1, 1, none⟩) (by show _ ≤ w.heap.size + 1 + 1; omega) (.slice none 0 0))
              | true =>
                rw [Bool.true_and] at hRi2
                have HRi3 := hide hRi2
                have HPi2 := hide (rightL_snoc (t := mul1 t s) hPi.out (by rw [hmt]; exact hR1))
                have HLB := hide (show o ≤ 16777216 by
                  have h1 := HLA.out
                  rw [ho.out, List.length_append, List.length_map, List.length_take, ← HM.out, Nat.min_eq_left (by omega)]
                  omega)
                obtain ⟨b1, off1, t', ea, en, ec, rfl, ht', t0, t1, hrow⟩ := hA2.getB hbX9 (k := k) (by rw [← HN.out]; omega)
                obtain rfl : t' = t := Option.some.inj (ht'.out.symm.trans HT.out)
                obtain ⟨b2, off2, s', fa, fn, fc, rfl, hs', s0, s1, hrowS⟩ := hBB2.getB hbX9 (k := i) (by rw [← HM.out]; omega)
                obtain rfl : s' = s := Option.some.inj (hs'.out.symm.trans HS.out)
                have hl1 : b1 < w2.heap.size := hA2.lt (by rw [← HN.out]; omega)
                have hl2 : b2 < w2.heap.size := hBB2.lt (by rw [← HM.out]; omega)
                have HCX := hide (fun (W : World) (k9 : Below w2.heap.size w2 W) (b9 o9 : Nat) (hl9 : b9 < w2.heap.size) => show W.cell? ⟨b9, o9, none⟩ = wr.cell? ⟨b9, o9, none⟩ from ((bcell k9).1 b9 o9 hl9).trans ((bcell hbX9).1 b9 o9 hl9).symm)
                have HL1 := hide hl1
                have HL2 := hide hl2
                obtain ⟨z, hz⟩ : ∃ z, (mul1 t' s').1 = z := ⟨_, rfl⟩
                have hnw : ∀ W, Calls Try.prog 35 #[.int .u64 (t'.1.toNat : Int), .int .u64 (s'.1.toNat : Int)] W fun e w' => e = .returned (.int .u64 (z.toNat : Int)) ∧ Below W.heap.size W w' := fun W => by rw [← hz]; exact Times_calls t'.1 s'.1 W
                have HNW := hide hnw
                have HMT : Hid (mul1 t' s' = (z, Z)) := Prod.ext hz hmt
                have hBw := Below.drew (Below.refl wr.heap.size wr)
                have hOr := HO.out.belowN hbi
                have hOHL : o = hs.length := by rw [HO.out.len]; exact ho.out
                have HHL := hide hOHL
                have HOR := hide hOr
                have HRC2 := hide (RRight_calls (p : Int) ae p ce Z HZL.out.symm wr hown.at_ (by omega) true hR1)
                have HO9 : Hid (o ≤ 1000000000) := hide (by have := HLB.out; omega)
                have hcap5 := hown.cap
                rw [HZL.out] at hcap5
                clear hRi2 hR1 hmt ht' hs' hl1 hl2 hz hnw hOr hOHL HRC
                go_wp2_with (go_at_call 41; ((with_reducible refine (HRC2.out).mono ?_); rintro v w5 ⟨rfl, rfl⟩))
                go_region_held3 (fun w' => w'.cell? ⟨w.heap.size, 1, none⟩ = some (.slice (some ⟨b1, off1, none⟩) n c) ∧ w'.cell? ⟨b1, off1 + k * 2, none⟩ = some (.int .u64 (t'.1.toNat : Int)) ∧ w'.cell? ⟨w.heap.size + 1, 1, none⟩ = some (.slice (some ⟨b2, off2, none⟩) m d) ∧ w'.cell? ⟨b2, off2 + i * 2, none⟩ = some (.int .u64 (s'.1.toNat : Int))) (go_keep)
                  (first
                    | (go_at_call 35; ((with_reducible refine (HNW.out _).mono ?_); rintro v w5 ⟨rfl, hb5⟩; have hB5 := hBw.trans (hb5.mono hBw.size); have hbX5 := hbX9.trans (hB5.mono hzp); have hz5 := hB5.size; obtain ⟨e0, e3, e4, e5⟩ := (hY1.belowN hbX5).c2; obtain ⟨f0, f1, f2, f3⟩ := (hY2.belowN hbX5).c2; have g0 := (HCX.out _ hbX5 _ _ HL1.out).trans t0; have g2 := (HCX.out _ hbX5 _ _ HL2.out).trans s0; have hO5 := HOR.out.belowN hB5; have hAZ : At (w5.alloc (.cells #[.int .u64 (z.toNat : Int), .slice ae p ce] 57)) (some ⟨w5.heap.size, 0, none⟩) [(⟨z, ae, p, ce⟩ : TmH)] := At.ofBlk (Blk.new w5 _ #[.int .u64 (z.toNat : Int), .slice ae p ce]) _ rfl; have hbz5 := hbX5.size; have hzA : w2.heap.size ≤ (w5.alloc (.cells #[.int .u64 (z.toNat : Int), .slice ae p ce] 57)).heap.size := (by rw [World.size_alloc]; omega)))
                    | ((refine step_pushAll tyT (hO5.out.alloc _) (l2 := [(⟨z, ae, p, ce⟩ : TmH)]) hAZ rfl rfl rfl rfl HHL.out rfl hzA HO9.out (show 1 ≤ 1000000000 by decide) ?_; intro a6 c6 w6 hown6 hg6 hcs6; have hbX6 := below_push (hbX5.alloc hbz5 (.cells #[.int .u64 (z.toNat : Int), .slice ae p ce] 57)) (hO5.out.alloc (.cells #[.int .u64 (z.toNat : Int), .slice ae p ce] 57)) hg6 hzA; obtain ⟨e6, e7, e8, e9⟩ := (hY1.belowN hbX6).c2; obtain ⟨f4, f5, f6, f7⟩ := (hY2.belowN hbX6).c2; have g4 := (HCX.out _ hbX6 _ _ HL1.out).trans t0; have g5 := (HCX.out _ hbX6 _ _ HL2.out).trans s0)))
                have hrow9 : TmH.of (w5.alloc (.cells #[.int .u64 (z.toNat : Int), .slice ae p ce] 57)) ⟨z, ae, p, ce⟩ (z, Z) := ⟨rfl, HZL.out.symm, hcap5.1, Nat.le_trans hcap5.2 (by decide), ((hown.belowN hB5).alloc _).at_⟩
                have hOT := (hO5.belowN (below_box w5 (.cells #[.int .u64 (z.toNat : Int), .slice ae p ce] 57))).push hown6 hg6 hcs6 hrow9 (fun hne => ⟨fun e => by
                  obtain ⟨q9, hq9, h9⟩ : ∃ q9, ae = some ⟨q9, 0, none⟩ ∧ wi.heap.size ≤ q9 := by
                    obtain ⟨q9, h1, h2, _⟩ := hown.some_ hne
                    exact ⟨q9, h1, h2⟩
                  have e9 : ao.map (·.block) = some q9 := by rw [← e, hq9]; rfl
                  have := (HO.out.out.blk q9 e9).2
                  omega, fun _ _ => trivial⟩)
                have hfin : mulT (A.take k) B ++ (B.take (i + 1)).map (mul1 t') = mulT (A.take k) B ++ (B.take i).map (mul1 t') ++ [(z, Z)] := by rw [HBT.out, ← List.append_assoc, HMT.out]
                have HFIN := hide hfin
                clear hfin
                go_wp2
                go_roundw
                case rel =>
                  exact ⟨i + 1, o + 1, a6, c6, _, by go_num, by omega, rfl, by show _ = _; rw [HFIN.out, List.length_append, ← ho.out]; rfl, HRi3.out, by rw [HFIN.out, ← HMT.out]; exact HPi2.out, by rw [HFIN.out]; exact hOT, hbX6⟩
                case measure => simp [intOf]; omega
        · obtain rfl : i = m := by omega
          have hRi2 := hRi.out
          have hPi2 := hPi.out
          have ho2 := ho.out
          rw [List.drop_eq_nil_of_le (by rw [← HM.out]; exact Nat.le_refl _), List.map_nil, List.nil_append] at hRi2
          rw [show B.take i = B from List.take_of_length_le (by rw [← HM.out]; exact Nat.le_refl _)] at hPi2 hO ho2
          rw [← HTA.out] at hPi2 hO ho2
          have HRi2 := hide hRi2
          have HPi2 := hide hPi2
          have HO2 := hide ho2
          clear hRi2 hPi2 ho2
          go_wp2
          go_roundw
          case rel => exact ⟨k + 1, o, ao, co, hs, by go_num, by omega, rfl, HO2.out, HRi2.out, HPi2.out, hO, hbX⟩
          case measure => simp [intOf]; omega
    · obtain rfl : k = n := by omega
      have htk : A.take k = A := List.take_of_length_le (by rw [← HN.out]; exact Nat.le_refl _)
      have hP2 := hPk.out
      rw [htk] at hP2 hO ho
      have hV := HV.out
      have hL := HL.out
      have hE := HE.out
      unfold mulV at hV
      unfold mulL at hL
      unfold mulE at hE
      rw [if_pos hP2] at hV hL hE
      have hml : (mulT A B).length ≤ 16777216 := by
        rw [mulT_len, ← HN.out, ← HM.out]
        exact Nat.mul_le_mul hn4 hm4
      have hT := hO.out_ (n := o) ho.out
      have h6 : ∀ t ∈ mulT A B, t.2.length ≤ 1000000 := fun t ht => by
        have := rightT_len (List.all_eq_true.1 hP2 t ht)
        omega
      have HMK2 := hide (RMake_calls _ (vn : Int) ao o co (mulT A B) wr hT (by rw [ho.out]; omega) h6 V L E hV hL hE)
      clear htk hP2 hV hL hE hml h6
      go_wp2_with (go_at_call 16; ((with_reducible refine (HMK2.out).mono ?_); rintro v w6 ⟨a6, n6, c6, rfl, hT6, hb6⟩; have hX9 := hXr.belowN hb6; obtain ⟨y0, y1, y2, y3⟩ := hX9.c2))
      have hF6 := (hX9.set_ 0 (.int .i64 V)).set_ 1 (.slice a6 n6 c6)
      refine bodyPost_ret (results_rowP rfl _ _ (w.heap.size + 1 + 1) _ #[.int .i64 V, .slice a6 n6 c6] (0, 0) _ rfl hF6 Try.underlying24 rfl (by kernel_rfl)) rfl ?_
      exact PolyOut.stored (hBr.trans (hb6.mono hBr.size)) hT6 (by omega) hXr.lt hBr.size
theorem PMul_calls (P Q : Nat → Prop) (va vb : Int) (a b : Option Addr) (n c m d : Nat) (A B : List Tm) (w : World) (h : TOut P w a n c A) (h' : TOut Q w b m d B) (hl : n ≤ 1000000) (hl' : m ≤ 1000000) (hll : ∀ t ∈ A, t.2.length ≤ 1000000) (hll' : ∀ t ∈ B, t.2.length ≤ 1000000) (V : Int) (L : List Tm) (E : Int) (hV : mresV (addOk va A vb B) va A B = V) (hL : mresL (addOk va A vb B) va A B = L) (hE : mresE (addOk va A vb B) va A B = E) :
    Calls Try.prog 24 #[.agg #[.int .i64 va, .slice a n c], .agg #[.int .i64 vb, .slice b m d]] w (PolyOut V L E w) := by
  cases hok : addOk va A vb B with
  | false =>
    rw [hok] at hV hL hE
    subst hV hL hE
    exact PMul_bad P Q va vb a b n c m d A B w h h' hl hl' hll hll' hok
  | true =>
    rw [hok] at hV hL hE
    obtain ⟨h1, h2, rfl⟩ := addOk_true hok
    exact PMul_good P Q va a b n c m d A B w h h' h1 h2 V L E hV hL hE
theorem RMul3_calls (P Q : Nat → Prop) (va vb : Int) (a b : Option Addr) (n c m d : Nat) (A B : List Tm) (w : World) (h : TOut P w a n c A) (h' : TOut Q w b m d B) (hl : n ≤ 1000000) (hl' : m ≤ 1000000) (hll : ∀ t ∈ A, t.2.length ≤ 1000000) (hll' : ∀ t ∈ B, t.2.length ≤ 1000000) (V : Int) (L : List Tm) (E : Int) (hV : mresV (addOk va A vb B) va A B = V) (hL : mresL (addOk va A vb B) va A B = L) (hE : mresE (addOk va A vb B) va A B = E) :
    Calls Try.prog 29 #[.agg #[.int .i64 va, .slice a n c], .agg #[.int .i64 vb, .slice b m d]] w (PolyOut V L E w) := by
  cases hok : addOk va A vb B with
  | false =>
    rw [hok] at hV hL hE
    subst hV hL hE
    exact RMul_bad P Q va vb a b n c m d A B w h h' hl hl' hll hll' hok
  | true =>
    rw [hok] at hV hL hE
    obtain ⟨h1, h2, rfl⟩ := addOk_true hok
    exact RMul3_good P Q va a b n c m d A B w h h' h1 h2 V L E hV hL hE
end Go.Proofs.Ytcamcnahkdiefaa
