/- Chapter 17: the document's Pack. -/
import Derived.Test.YthncfoompoheoaaW17h
import Derived.Test.YthncfoompoheoaaW17g
import Derived.Test.YthncfoompoheoaaQh
namespace Go.Proofs.Ythncfoompoheoaa
set_option linter.unusedVariables false
set_option linter.unusedSimpArgs false
open Go.RowKit
set_option maxRecDepth 100000 in
set_option maxHeartbeats 6400000 in
theorem rpack_good (regs : Int) (a : Option Addr) (c n : Nat) (f : Fo) (hn : n = f.flat.length) (keep : Int) (g : Good regs f) (hk1 : 1 ≤ keep) (hk2 : keep ≤ regs) (w : World) (h : At w a f.flat) :
    Calls Try.prog 52 #[.agg #[.int .i64 regs, .slice a n c], .int .i64 keep] w (PackOut 0 (wasL keep f.flat regs.toNat) (f.flat.map (packO (wasL keep f.flat regs.toNat))) w) := by
  have hl : f.flat.length ≤ 4096 := g.len
  have hb0 := (below_new12 w (.cells #[.int .i64 regs, .slice a n c] 24)).alloc (by simp) (.cells #[.int .i64 0, .slice none 0 0] 24)
  have hX := (Blk.new w 24 #[.int .i64 regs, .slice a n c]).alloc (.cells #[.int .i64 0, .slice none 0 0] 24)
  have hR := Blk.new (w.alloc (.cells #[.int .i64 regs, .slice a n c] 24)) 24 #[.int .i64 0, .slice none 0 0]
  simp only [World.size_alloc] at hR
  have h1 := h.belowN hb0
  have HP := hide (Prog10_calls regs a c f.flat _ h1 (by omega))
  rw [g.check] at HP
  have hr1 := g.r1
  have hr2 := g.r2
  obtain ⟨F, hF⟩ : ∃ F, f.flat = F := ⟨_, rfl⟩
  rw [hF] at HP h h1 hl hn ⊢
  obtain ⟨nr, rfl⟩ : ∃ nr : Nat, regs = nr := ⟨regs.toNat, by omega⟩
  obtain ⟨kp, rfl⟩ : ∃ kp : Nat, keep = kp := ⟨keep.toNat, by omega⟩
  rw [← hn] at HP hl
  rw [Int.toNat_natCast]
  have HN := hide hn
  have k1 : decide ((kp : Int) < 1) = false := decide_eq_false (by omega)
  have k2 : decide ((kp : Int) > (nr : Int)) = false := decide_eq_false (by omega)
  have k3 : decide (nr < kp) = false := decide_eq_false (by omega)
  have k4 : decide (kp < 1) = false := decide_eq_false (by omega)
  have hkn : kp ≤ nr := by omega
  have hnr : nr ≤ 64 := by omega
  have hkp1 : 1 ≤ kp := by omega
  have HAS := hide (fun (k : Int) (W : World) (k1 : At W a F) => asks_calls (nr : Int) a c n F hn k W k1 (by omega))
  clear hn g hF hr1 hr2 hk1 hk2
  go_enter Try.func52, Try.ntmps52
  go_wp2_with (go_at_call 63; go_must ((with_reducible refine (HP.out).mono ?_); rintro e w1 ⟨rfl, hb1⟩; have hB1 := hb0.trans (hb1.mono hb0.size); obtain ⟨p0, p1, p2, p3⟩ := (hX.belowN hb1).c2))
  have hX1 := hX.belowN hb1
  have hR1 := hR.belowN hb1
  have h2 := h1.belowN hb1
  have hz1 := hB1.size
  have hxl := hX1.lt
  have hrl := hR1.lt
  have hw1 : w.heap.size + 1 < w1.heap.size := hrl
  go_loopw [8, 9] (fun wv kv wr => ∃ (k m : Nat) (aw : Option Addr) (cw : Nat), kv = .int .i64 k ∧ k ≤ nr ∧ wv = .slice aw m cw ∧ m ≤ k ∧ Hid (m = (wasL kp F k).length) ∧ Own wr w1.heap.size 3 aw cw (wasL kp F k) ∧ Below w1.heap.size w1 wr) (fun _ kv _ => nr - (intOf kv).toNat)
  case atStart => exact ⟨0, 0, _, 0, rfl, by omega, rfl, by omega, rfl, Own.new w1 (Nat.le_refl _) _ Int, Below.alloc (Below.refl _ _) (Nat.le_refl _) _⟩
  case round =>
    obtain ⟨k, m, aw, cw, rfl, hk, rfl, hmk, hm, hownw, hb⟩ := hrel
    have hzr := hb.size
    obtain ⟨p0, p1, p2, p3⟩ := (hX1.belowN hb).c2
    by_cases hkl : k < nr
    · have HWS := hide (wasL_succ kp F k)
      have HAK := hide (HAS.out (k : Int) wr (h2.belowN hb))
      have hki : (k : Int) < (nr : Int) := by omega
      by_cases hkk : k < kp
      · have hst : (decide ((k : Int) < (kp : Int)) || askedB F (k : Int)) = true := by rw [show decide ((k : Int) < (kp : Int)) = true from decide_eq_true (by omega)]; rfl
        have hkk1 : (k : Int) < (kp : Int) := by omega
        have HWN := hide (show wasL kp F (k + 1) = wasL kp F k ++ [(k : Int)] by rw [HWS.out, if_pos hst])
        clear hst
        go_wp2_with (at_builtin; go_must (refine wpList_push tyI hownw (k : Int) rfl rfl rfl rfl rfl (by simp) hm.out hzr (by omega) ?_; intro a6 c6 w6 hown6 hg6 hcs6; have hb6 := below_push hb hownw hg6 hzr))
        go_roundw
        case rel => exact ⟨k + 1, m + 1, a6, c6, by go_num, by omega, rfl, by omega, by show _ = _; rw [HWN.out]; simp [hm.out], by rw [HWN.out]; exact hown6, hb6⟩
        case measure => simp [intOf]; omega
      have hkk2 : decide ((k : Int) < (kp : Int)) = false := decide_eq_false (by omega)
      have hkk3 : decide (k < kp) = false := decide_eq_false (by omega)
      have hkk4 : kp ≤ k := by omega
      rw [hkk2, Bool.false_or] at HWS
      obtain ⟨u, hu⟩ : ∃ u, askedB F (k : Int) = u := ⟨_, rfl⟩
      rw [hu] at HAK HWS
      cases u with
      | true =>
        have HWN := hide (show wasL kp F (k + 1) = wasL kp F k ++ [(k : Int)] by rw [HWS.out, if_pos rfl])
        clear hu hkk
        go_wp2_with (first
          | (go_at_call 100; go_must ((with_reducible refine (HAK.out).mono ?_); rintro e w5 ⟨rfl, hb5⟩; have hB5 := hb.trans (hb5.mono hzr); have hown5 := hownw.belowN hb5))
          | (at_builtin; go_must (refine wpList_push tyI hown5 (k : Int) rfl rfl rfl rfl rfl (by simp) hm.out hB5.size (by omega) ?_; intro a6 c6 w6 hown6 hg6 hcs6; have hb6 := below_push hB5 hown5 hg6 hB5.size)))
        go_roundw
        case rel => exact ⟨k + 1, m + 1, a6, c6, by go_num, by omega, rfl, by omega, by show _ = _; rw [HWN.out]; simp [hm.out], by rw [HWN.out]; exact hown6, hb6⟩
        case measure => simp [intOf]; omega
      | false =>
        have HWN := hide (show wasL kp F (k + 1) = wasL kp F k by rw [HWS.out, if_neg (by decide)])
        clear hu hkk
        go_wp2_with (go_at_call 100; go_must ((with_reducible refine (HAK.out).mono ?_); rintro e w5 ⟨rfl, hb5⟩; have hB5 := hb.trans (hb5.mono hzr); have hown5 := hownw.belowN hb5))
        go_roundw
        case rel => exact ⟨k + 1, m, aw, cw, by go_num, by omega, rfl, by omega, by show _ = _; rw [HWN.out]; exact hm.out, by rw [HWN.out]; exact hown5, hB5⟩
        case measure => simp [intOf]; omega
    · obtain rfl : nr = k := by omega
      have hwl := wasL_length kp F nr
      obtain ⟨Wl, hWl⟩ : ∃ Wl, wasL kp F nr = Wl := ⟨_, rfl⟩
      rw [hWl] at hm hownw hwl
      have HWL := hide hWl
      have HMW := hide hm.out
      have hm64 : m ≤ 64 := by omega
      obtain ⟨W2, rfl⟩ : ∃ W2 : World, W2 = wr := ⟨_, rfl⟩
      have hX2 := hX1.belowN hb
      have hR2 := hR1.belowN hb
      have hl2 := h2.belowN hb
      have hB2 := hB1.trans (hb.mono hz1)
      have hz2 := hB2.size
      have hxl2 := hX2.lt
      have hrl2 := hR2.lt
      have haw := hownw.blk
      have HAW := hide haw
      have hatW := hownw.at_
      have HPL := hide (fun (v : Int) (W : World) (k1 : At W aw Wl) => place_calls aw cw m Wl HMW.out v W k1 (by omega))
      clear hWl hm haw
      go_wp2
      have hQ0 := Blk.new W2 24 #[.int .i64 (m : Int), .slice none 0 0]
      have hn2 := below_new12 W2 (.cells #[.int .i64 (m : Int), .slice none 0 0] 24)
      obtain ⟨gq, hgq⟩ : ∃ gq, gq = W2.heap.size := ⟨_, rfl⟩
      have HGQ := hide hgq
      rw [← hgq] at hQ0 hn2 hxl2 hrl2 ⊢
      clear hgq
      go_loopw [11] (fun iv wr => ∃ (i q : Nat) (ao : Option Addr) (co : Nat), iv = .int .i64 i ∧ i ≤ n ∧ q ≤ i ∧ Hid (q = ((F.take i).map (packO Wl)).length) ∧ Blk wr gq 24 #[.int .i64 (m : Int), .slice ao q co] ∧ Own wr gq 99 ao co ((F.take i).map (packO Wl)) ∧ Below gq W2 wr) (fun iv _ => n - (intOf iv).toNat)
      case atStart => exact ⟨0, 0, none, 0, rfl, by omega, by omega, rfl, hQ0, Own.none _ _ _, hn2⟩
      case round =>
        obtain ⟨i, q, ao, co, rfl, hi, hqi, hq, hQ, hown, hb⟩ := hrel
        have hbe : Below W2.heap.size W2 wr := by rw [← HGQ.out]; exact hb
        obtain ⟨p0, p1, p2, p3⟩ := (hX2.belowN hbe).c2
        by_cases hlt : i < n
        · obtain ⟨b1, off1, x, rfl, hx, x0, x1, x2, x3, x4⟩ := hl2.getOp hbe (by rw [← HN.out]; exact hlt)
          have hgqw := hQ.lt
          have HPK := hide (packO_eq Wl x)
          have HTS := hide (show (F.take (i + 1)).map (packO Wl) = (F.take i).map (packO Wl) ++ [packO Wl x] by rw [List.take_add_one, hx.out]; simp)
          have HK := hide (fun W => Asks_calls x.kind W)
          obtain ⟨L, hL⟩ : ∃ L, (F.take i).map (packO Wl) = L := ⟨_, rfl⟩
          rw [hL] at HTS hown hq
          have HGX : Hid (wr.heap.size = wr.heap.size) := rfl
          have hnx := below_new12 wr (.cells #[.int .i64 x.kind, .int .i64 x.d, .int .i64 x.a, .int .i64 x.b, .int .u64 (x.v.toNat : Int)] 99)
          have hXO := Blk.new wr 99 #[.int .i64 x.kind, .int .i64 x.d, .int .i64 x.a, .int .i64 x.b, .int .u64 (x.v.toNat : Int)]
          obtain ⟨J, hJ⟩ : ∃ J : World → Prop, J = fun W => Below gq W2 W ∧ Blk W gq 24 #[.int .i64 (m : Int), .slice ao q co] ∧ Own W gq 99 ao co L ∧ At W aw Wl := ⟨_, rfl⟩
          have HJE : Hid (∀ W, J W → Below gq W2 W ∧ Blk W gq 24 #[.int .i64 (m : Int), .slice ao q co] ∧ Own W gq 99 ao co L ∧ At W aw Wl) := hide fun W hw => by rw [hJ] at hw; exact hw
          have hao := hown.blk
          have HJB : Hid (∀ W, Below wr.heap.size wr W → J W) := hide fun W hw => by
            have hw' : Below wr.heap.size wr W := by rw [← HGX.out]; exact hw
            rw [hJ]
            exact ⟨hb.trans (hw'.mono hb.size |> fun h => ⟨h.os, h.tape, h.output, h.size, fun k hk => hw'.block k (by have := hgqw; have := HGX.out; omega)⟩), hQ.belowN hw', hown.belowN hw', (hatW.belowN hbe).belowN hw'⟩
          have HJA : Hid (∀ W o, J W → J (W.alloc o)) := hide fun W o hw => by
            rw [hJ] at hw ⊢
            obtain ⟨w1, w2, w3, w4⟩ := hw
            exact ⟨w1.alloc (Nat.le_of_lt w2.lt) o, w2.alloc o, w3.alloc o, w4.belowN (below_new12 W o)⟩
          have HJS : Hid (∀ W k u, J W → J (W.setCell ⟨wr.heap.size, k, none⟩ u)) := hide fun W k u hw => by
            rw [hJ] at hw ⊢
            obtain ⟨w1, w2, w3, w4⟩ := hw
            refine ⟨w1.setCell (p := ⟨wr.heap.size, k, none⟩) (Nat.le_of_lt hgqw) u, w2.far (p := ⟨wr.heap.size, k, none⟩) (by show gq ≠ wr.heap.size; omega) u, w3.far (p := ⟨wr.heap.size, k, none⟩) (fun e => absurd (hao _ e).2 (Nat.lt_irrefl _)) u, ?_⟩
            exact w4.turned (F := [wr.heap.size]) (Turned.ofGrown (grown_setCell _ _ _ _) (fun q hq => .inl (by injection hq with hq; simp [hq]))) (fun _ g hg e => by simp at hg; subst hg; have := (HAW.out _ e).2; have := HGQ.out; omega)
          have hi0 : (0 : Int) ≤ (i : Int) := by omega
          have hi1 : (i : Int) < (n : Int) := by omega
          have hb13 : bOf x.kind = true → aOf x.kind = true := by
            unfold bOf aOf
            intro h
            simp only [Bool.and_eq_true, decide_eq_true_eq] at h
            simp only [Bool.or_eq_true, Bool.and_eq_true, decide_eq_true_eq]
            omega
          obtain ⟨D, hD⟩ : ∃ D, dOf x.kind = D := ⟨_, rfl⟩
          obtain ⟨A, hA⟩ : ∃ A, aOf x.kind = A := ⟨_, rfl⟩
          obtain ⟨B, hB⟩ : ∃ B, bOf x.kind = B := ⟨_, rfl⟩
          obtain ⟨V, hV⟩ : ∃ V, vOf x.kind = V := ⟨_, rfl⟩
          rw [hD, hA, hB, hV] at HK
          rw [hD, hA, hB] at HPK
          rw [hA, hB] at hb13
          have HNB := hide (fun (W : World) => below_new12 W (.cells #[.bool D, .bool A, .bool B, .bool V] 111))
          have HBB := hide (fun (W : World) => Blk.new W 111 #[.bool D, .bool A, .bool B, .bool V])
          clear hx hL hJ hD hA hB hV hao
          cases D with
          | true =>
            cases A with
            | true =>
              cases B with
              | true =>
                clear hb13
                have HY := hide (show packO Wl x = (⟨x.kind, plc Wl x.d, plc Wl x.a, plc Wl x.b, x.v⟩ : OpD) by rw [HPK.out]; rfl)
                go_wp2_with (first
                  | (go_at_call 65; go_must ((with_reducible refine (HK.out _).mono ?_); rintro e w3 ⟨rfl, hb3⟩; have hn3 := HNB.out w3; have hBl := HBB.out w3; have hq3 := hb3.trans (hn3.mono hb3.size); have hXO3 := hXO.belowN hb3; obtain ⟨o0, o1, o2, o3, o4, f0, f1, f2, f3, f4⟩ := (hXO3.alloc (.cells #[.bool true, .bool true, .bool true, .bool V] 111)).c5; have J3 := HJB.out _ (hnx.trans (by have h9 := hb3.mono (show wr.heap.size ≤ (wr.alloc _).heap.size by rw [World.size_alloc]; omega); exact h9)); obtain ⟨j1, j2, j3, j4⟩ := HJE.out _ (HJA.out _ (.cells #[.bool true, .bool true, .bool true, .bool V] 111) J3); obtain ⟨u0, u1, u2, u3⟩ := j2.c2; obtain ⟨v0, v1, v2, v3, _⟩ := hBl.c4; have hga : wr.heap.size < w3.heap.size := (by have := hb3.size; rw [World.size_alloc, ← HGX.out] at this; omega); have hs1 : Blk (w3.setCell ⟨wr.heap.size, 1, none⟩ (.int .i64 (plc Wl x.d))) wr.heap.size 99 #[.int .i64 x.kind, .int .i64 (plc Wl x.d), .int .i64 (x.a), .int .i64 (x.b), .int .u64 (x.v.toNat : Int)] := hXO3.set_ 1 (.int .i64 (plc Wl x.d)); obtain ⟨r10, r11, r12, r13, r14, g10, g11, g12, g13, g14⟩ := (hs1.alloc (.cells #[.bool true, .bool true, .bool true, .bool V] 111)).c5; obtain ⟨n10, n11, n12, n13⟩ := (HJE.out _ (HJA.out _ (.cells #[.bool true, .bool true, .bool true, .bool V] 111) (HJS.out w3 1 (.int .i64 (plc Wl x.d)) J3))).2.1.c2; have hs2 : Blk ((w3.setCell ⟨wr.heap.size, 1, none⟩ (.int .i64 (plc Wl x.d))).setCell ⟨wr.heap.size, 2, none⟩ (.int .i64 (plc Wl x.a))) wr.heap.size 99 #[.int .i64 x.kind, .int .i64 (plc Wl x.d), .int .i64 (plc Wl x.a), .int .i64 (x.b), .int .u64 (x.v.toNat : Int)] := hs1.set_ 2 (.int .i64 (plc Wl x.a)); obtain ⟨r20, r21, r22, r23, r24, g20, g21, g22, g23, g24⟩ := (hs2.alloc (.cells #[.bool true, .bool true, .bool true, .bool V] 111)).c5; obtain ⟨n20, n21, n22, n23⟩ := (HJE.out _ (HJA.out _ (.cells #[.bool true, .bool true, .bool true, .bool V] 111) (HJS.out (w3.setCell ⟨wr.heap.size, 1, none⟩ (.int .i64 (plc Wl x.d))) 2 (.int .i64 (plc Wl x.a)) (HJS.out w3 1 (.int .i64 (plc Wl x.d)) J3)))).2.1.c2; have hs3 : Blk (((w3.setCell ⟨wr.heap.size, 1, none⟩ (.int .i64 (plc Wl x.d))).setCell ⟨wr.heap.size, 2, none⟩ (.int .i64 (plc Wl x.a))).setCell ⟨wr.heap.size, 3, none⟩ (.int .i64 (plc Wl x.b))) wr.heap.size 99 #[.int .i64 x.kind, .int .i64 (plc Wl x.d), .int .i64 (plc Wl x.a), .int .i64 (plc Wl x.b), .int .u64 (x.v.toNat : Int)] := hs2.set_ 3 (.int .i64 (plc Wl x.b)); obtain ⟨r30, r31, r32, r33, r34, g30, g31, g32, g33, g34⟩ := (hs3.alloc (.cells #[.bool true, .bool true, .bool true, .bool V] 111)).c5; obtain ⟨n30, n31, n32, n33⟩ := (HJE.out _ (HJA.out _ (.cells #[.bool true, .bool true, .bool true, .bool V] 111) (HJS.out ((w3.setCell ⟨wr.heap.size, 1, none⟩ (.int .i64 (plc Wl x.d))).setCell ⟨wr.heap.size, 2, none⟩ (.int .i64 (plc Wl x.a))) 3 (.int .i64 (plc Wl x.b)) (HJS.out (w3.setCell ⟨wr.heap.size, 1, none⟩ (.int .i64 (plc Wl x.d))) 2 (.int .i64 (plc Wl x.a)) (HJS.out w3 1 (.int .i64 (plc Wl x.d)) J3))))).2.1.c2; have JF := HJA.out (((w3.setCell ⟨wr.heap.size, 1, none⟩ (.int .i64 (plc Wl x.d))).setCell ⟨wr.heap.size, 2, none⟩ (.int .i64 (plc Wl x.a))).setCell ⟨wr.heap.size, 3, none⟩ (.int .i64 (plc Wl x.b))) (.cells #[.bool true, .bool true, .bool true, .bool V] 111) (HJS.out ((w3.setCell ⟨wr.heap.size, 1, none⟩ (.int .i64 (plc Wl x.d))).setCell ⟨wr.heap.size, 2, none⟩ (.int .i64 (plc Wl x.a))) 3 (.int .i64 (plc Wl x.b)) (HJS.out (w3.setCell ⟨wr.heap.size, 1, none⟩ (.int .i64 (plc Wl x.d))) 2 (.int .i64 (plc Wl x.a)) (HJS.out w3 1 (.int .i64 (plc Wl x.d)) J3)))))
                  | (go_at_call 101; go_must ((with_reducible refine (HPL.out _ _ (by first | exact (HJE.out _ (HJA.out _ _ J3)).2.2.2 | exact (HJE.out _ (HJA.out _ _ (HJS.out _ _ _ J3))).2.2.2 | exact (HJE.out _ (HJA.out _ _ (HJS.out _ _ _ (HJS.out _ _ _ J3)))).2.2.2)).mono ?_); rintro e w7 ⟨rfl, rfl⟩))
                  | (at_builtin; go_must (refine wpList_push tyO (HJE.out _ JF).2.2.1 (⟨x.kind, plc Wl x.d, plc Wl x.a, plc Wl x.b, x.v⟩ : OpD) rfl rfl rfl rfl rfl (by simp) hq.out (by have h9 := (HJE.out _ JF).2.1.lt; exact Nat.le_of_lt h9) (by omega) ?_; intro a8 c8 w8 hown8 hg8 hcs8; obtain ⟨J1, J2, J3', J4⟩ := HJE.out _ JF; have hQ8 := J2.grown hg8 (fun e => (J3'.blk_ne J2 (by decide)) e.symm); have hb8 := below_push J1 J3' hg8 (Nat.le_of_lt J2.lt); obtain ⟨t0, t1, t2, t3⟩ := hQ8.c2)))
                go_roundw
                case rel => exact ⟨i + 1, q + 1, a8, c8, by go_num, by omega, by omega, by show _ = _; rw [HTS.out]; simp [hq.out], by simpa using hQ8.set_ 1 (.slice a8 (q + 1) c8), by rw [HTS.out, HY.out]; exact hown8.far (hown8.blk_ne hQ8 (by decide)) _, hb8.setCell (p := ⟨gq, 1, none⟩) (Nat.le_refl _) _⟩
                case measure => simp [intOf]; omega
              | false =>
                clear hb13
                have HY := hide (show packO Wl x = (⟨x.kind, plc Wl x.d, plc Wl x.a, x.b, x.v⟩ : OpD) by rw [HPK.out]; rfl)
                go_wp2_with (first
                  | (go_at_call 65; go_must ((with_reducible refine (HK.out _).mono ?_); rintro e w3 ⟨rfl, hb3⟩; have hn3 := HNB.out w3; have hBl := HBB.out w3; have hq3 := hb3.trans (hn3.mono hb3.size); have hXO3 := hXO.belowN hb3; obtain ⟨o0, o1, o2, o3, o4, f0, f1, f2, f3, f4⟩ := (hXO3.alloc (.cells #[.bool true, .bool true, .bool false, .bool V] 111)).c5; have J3 := HJB.out _ (hnx.trans (by have h9 := hb3.mono (show wr.heap.size ≤ (wr.alloc _).heap.size by rw [World.size_alloc]; omega); exact h9)); obtain ⟨j1, j2, j3, j4⟩ := HJE.out _ (HJA.out _ (.cells #[.bool true, .bool true, .bool false, .bool V] 111) J3); obtain ⟨u0, u1, u2, u3⟩ := j2.c2; obtain ⟨v0, v1, v2, v3, _⟩ := hBl.c4; have hga : wr.heap.size < w3.heap.size := (by have := hb3.size; rw [World.size_alloc, ← HGX.out] at this; omega); have hs1 : Blk (w3.setCell ⟨wr.heap.size, 1, none⟩ (.int .i64 (plc Wl x.d))) wr.heap.size 99 #[.int .i64 x.kind, .int .i64 (plc Wl x.d), .int .i64 (x.a), .int .i64 (x.b), .int .u64 (x.v.toNat : Int)] := hXO3.set_ 1 (.int .i64 (plc Wl x.d)); obtain ⟨r10, r11, r12, r13, r14, g10, g11, g12, g13, g14⟩ := (hs1.alloc (.cells #[.bool true, .bool true, .bool false, .bool V] 111)).c5; obtain ⟨n10, n11, n12, n13⟩ := (HJE.out _ (HJA.out _ (.cells #[.bool true, .bool true, .bool false, .bool V] 111) (HJS.out w3 1 (.int .i64 (plc Wl x.d)) J3))).2.1.c2; have hs2 : Blk ((w3.setCell ⟨wr.heap.size, 1, none⟩ (.int .i64 (plc Wl x.d))).setCell ⟨wr.heap.size, 2, none⟩ (.int .i64 (plc Wl x.a))) wr.heap.size 99 #[.int .i64 x.kind, .int .i64 (plc Wl x.d), .int .i64 (plc Wl x.a), .int .i64 (x.b), .int .u64 (x.v.toNat : Int)] := hs1.set_ 2 (.int .i64 (plc Wl x.a)); obtain ⟨r20, r21, r22, r23, r24, g20, g21, g22, g23, g24⟩ := (hs2.alloc (.cells #[.bool true, .bool true, .bool false, .bool V] 111)).c5; obtain ⟨n20, n21, n22, n23⟩ := (HJE.out _ (HJA.out _ (.cells #[.bool true, .bool true, .bool false, .bool V] 111) (HJS.out (w3.setCell ⟨wr.heap.size, 1, none⟩ (.int .i64 (plc Wl x.d))) 2 (.int .i64 (plc Wl x.a)) (HJS.out w3 1 (.int .i64 (plc Wl x.d)) J3)))).2.1.c2; have JF := HJA.out ((w3.setCell ⟨wr.heap.size, 1, none⟩ (.int .i64 (plc Wl x.d))).setCell ⟨wr.heap.size, 2, none⟩ (.int .i64 (plc Wl x.a))) (.cells #[.bool true, .bool true, .bool false, .bool V] 111) (HJS.out (w3.setCell ⟨wr.heap.size, 1, none⟩ (.int .i64 (plc Wl x.d))) 2 (.int .i64 (plc Wl x.a)) (HJS.out w3 1 (.int .i64 (plc Wl x.d)) J3))))
                  | (go_at_call 101; go_must ((with_reducible refine (HPL.out _ _ (by first | exact (HJE.out _ (HJA.out _ _ J3)).2.2.2 | exact (HJE.out _ (HJA.out _ _ (HJS.out _ _ _ J3))).2.2.2)).mono ?_); rintro e w7 ⟨rfl, rfl⟩))
                  | (at_builtin; go_must (refine wpList_push tyO (HJE.out _ JF).2.2.1 (⟨x.kind, plc Wl x.d, plc Wl x.a, x.b, x.v⟩ : OpD) rfl rfl rfl rfl rfl (by simp) hq.out (by have h9 := (HJE.out _ JF).2.1.lt; exact Nat.le_of_lt h9) (by omega) ?_; intro a8 c8 w8 hown8 hg8 hcs8; obtain ⟨J1, J2, J3', J4⟩ := HJE.out _ JF; have hQ8 := J2.grown hg8 (fun e => (J3'.blk_ne J2 (by decide)) e.symm); have hb8 := below_push J1 J3' hg8 (Nat.le_of_lt J2.lt); obtain ⟨t0, t1, t2, t3⟩ := hQ8.c2)))
                go_roundw
                case rel => exact ⟨i + 1, q + 1, a8, c8, by go_num, by omega, by omega, by show _ = _; rw [HTS.out]; simp [hq.out], by simpa using hQ8.set_ 1 (.slice a8 (q + 1) c8), by rw [HTS.out, HY.out]; exact hown8.far (hown8.blk_ne hQ8 (by decide)) _, hb8.setCell (p := ⟨gq, 1, none⟩) (Nat.le_refl _) _⟩
                case measure => simp [intOf]; omega
            | false =>
              cases B with
              | true => cases hb13 rfl
              | false =>
                clear hb13
                have HY := hide (show packO Wl x = (⟨x.kind, plc Wl x.d, x.a, x.b, x.v⟩ : OpD) by rw [HPK.out]; rfl)
                go_wp2_with (first
                  | (go_at_call 65; go_must ((with_reducible refine (HK.out _).mono ?_); rintro e w3 ⟨rfl, hb3⟩; have hn3 := HNB.out w3; have hBl := HBB.out w3; have hq3 := hb3.trans (hn3.mono hb3.size); have hXO3 := hXO.belowN hb3; obtain ⟨o0, o1, o2, o3, o4, f0, f1, f2, f3, f4⟩ := (hXO3.alloc (.cells #[.bool true, .bool false, .bool false, .bool V] 111)).c5; have J3 := HJB.out _ (hnx.trans (by have h9 := hb3.mono (show wr.heap.size ≤ (wr.alloc _).heap.size by rw [World.size_alloc]; omega); exact h9)); obtain ⟨j1, j2, j3, j4⟩ := HJE.out _ (HJA.out _ (.cells #[.bool true, .bool false, .bool false, .bool V] 111) J3); obtain ⟨u0, u1, u2, u3⟩ := j2.c2; obtain ⟨v0, v1, v2, v3, _⟩ := hBl.c4; have hga : wr.heap.size < w3.heap.size := (by have := hb3.size; rw [World.size_alloc, ← HGX.out] at this; omega); have hs1 : Blk (w3.setCell ⟨wr.heap.size, 1, none⟩ (.int .i64 (plc Wl x.d))) wr.heap.size 99 #[.int .i64 x.kind, .int .i64 (plc Wl x.d), .int .i64 (x.a), .int .i64 (x.b), .int .u64 (x.v.toNat : Int)] := hXO3.set_ 1 (.int .i64 (plc Wl x.d)); obtain ⟨r10, r11, r12, r13, r14, g10, g11, g12, g13, g14⟩ := (hs1.alloc (.cells #[.bool true, .bool false, .bool false, .bool V] 111)).c5; obtain ⟨n10, n11, n12, n13⟩ := (HJE.out _ (HJA.out _ (.cells #[.bool true, .bool false, .bool false, .bool V] 111) (HJS.out w3 1 (.int .i64 (plc Wl x.d)) J3))).2.1.c2; have JF := HJA.out (w3.setCell ⟨wr.heap.size, 1, none⟩ (.int .i64 (plc Wl x.d))) (.cells #[.bool true, .bool false, .bool false, .bool V] 111) (HJS.out w3 1 (.int .i64 (plc Wl x.d)) J3)))
                  | (go_at_call 101; go_must ((with_reducible refine (HPL.out _ _ (by first | exact (HJE.out _ (HJA.out _ _ J3)).2.2.2)).mono ?_); rintro e w7 ⟨rfl, rfl⟩))
                  | (at_builtin; go_must (refine wpList_push tyO (HJE.out _ JF).2.2.1 (⟨x.kind, plc Wl x.d, x.a, x.b, x.v⟩ : OpD) rfl rfl rfl rfl rfl (by simp) hq.out (by have h9 := (HJE.out _ JF).2.1.lt; exact Nat.le_of_lt h9) (by omega) ?_; intro a8 c8 w8 hown8 hg8 hcs8; obtain ⟨J1, J2, J3', J4⟩ := HJE.out _ JF; have hQ8 := J2.grown hg8 (fun e => (J3'.blk_ne J2 (by decide)) e.symm); have hb8 := below_push J1 J3' hg8 (Nat.le_of_lt J2.lt); obtain ⟨t0, t1, t2, t3⟩ := hQ8.c2)))
                go_roundw
                case rel => exact ⟨i + 1, q + 1, a8, c8, by go_num, by omega, by omega, by show _ = _; rw [HTS.out]; simp [hq.out], by simpa using hQ8.set_ 1 (.slice a8 (q + 1) c8), by rw [HTS.out, HY.out]; exact hown8.far (hown8.blk_ne hQ8 (by decide)) _, hb8.setCell (p := ⟨gq, 1, none⟩) (Nat.le_refl _) _⟩
                case measure => simp [intOf]; omega
          | false =>
            cases A with
            | true =>
              cases B with
              | true =>
                clear hb13
                have HY := hide (show packO Wl x = (⟨x.kind, x.d, plc Wl x.a, plc Wl x.b, x.v⟩ : OpD) by rw [HPK.out]; rfl)
                go_wp2_with (first
                  | (go_at_call 65; go_must ((with_reducible refine (HK.out _).mono ?_); rintro e w3 ⟨rfl, hb3⟩; have hn3 := HNB.out w3; have hBl := HBB.out w3; have hq3 := hb3.trans (hn3.mono hb3.size); have hXO3 := hXO.belowN hb3; obtain ⟨o0, o1, o2, o3, o4, f0, f1, f2, f3, f4⟩ := (hXO3.alloc (.cells #[.bool false, .bool true, .bool true, .bool V] 111)).c5; have J3 := HJB.out _ (hnx.trans (by have h9 := hb3.mono (show wr.heap.size ≤ (wr.alloc _).heap.size by rw [World.size_alloc]; omega); exact h9)); obtain ⟨j1, j2, j3, j4⟩ := HJE.out _ (HJA.out _ (.cells #[.bool false, .bool true, .bool true, .bool V] 111) J3); obtain ⟨u0, u1, u2, u3⟩ := j2.c2; obtain ⟨v0, v1, v2, v3, _⟩ := hBl.c4; have hga : wr.heap.size < w3.heap.size := (by have := hb3.size; rw [World.size_alloc, ← HGX.out] at this; omega); have hs2 : Blk (w3.setCell ⟨wr.heap.size, 2, none⟩ (.int .i64 (plc Wl x.a))) wr.heap.size 99 #[.int .i64 x.kind, .int .i64 (x.d), .int .i64 (plc Wl x.a), .int .i64 (x.b), .int .u64 (x.v.toNat : Int)] := hXO3.set_ 2 (.int .i64 (plc Wl x.a)); obtain ⟨r20, r21, r22, r23, r24, g20, g21, g22, g23, g24⟩ := (hs2.alloc (.cells #[.bool false, .bool true, .bool true, .bool V] 111)).c5; obtain ⟨n20, n21, n22, n23⟩ := (HJE.out _ (HJA.out _ (.cells #[.bool false, .bool true, .bool true, .bool V] 111) (HJS.out w3 2 (.int .i64 (plc Wl x.a)) J3))).2.1.c2; have hs3 : Blk ((w3.setCell ⟨wr.heap.size, 2, none⟩ (.int .i64 (plc Wl x.a))).setCell ⟨wr.heap.size, 3, none⟩ (.int .i64 (plc Wl x.b))) wr.heap.size 99 #[.int .i64 x.kind, .int .i64 (x.d), .int .i64 (plc Wl x.a), .int .i64 (plc Wl x.b), .int .u64 (x.v.toNat : Int)] := hs2.set_ 3 (.int .i64 (plc Wl x.b)); obtain ⟨r30, r31, r32, r33, r34, g30, g31, g32, g33, g34⟩ := (hs3.alloc (.cells #[.bool false, .bool true, .bool true, .bool V] 111)).c5; obtain ⟨n30, n31, n32, n33⟩ := (HJE.out _ (HJA.out _ (.cells #[.bool false, .bool true, .bool true, .bool V] 111) (HJS.out (w3.setCell ⟨wr.heap.size, 2, none⟩ (.int .i64 (plc Wl x.a))) 3 (.int .i64 (plc Wl x.b)) (HJS.out w3 2 (.int .i64 (plc Wl x.a)) J3)))).2.1.c2; have JF := HJA.out ((w3.setCell ⟨wr.heap.size, 2, none⟩ (.int .i64 (plc Wl x.a))).setCell ⟨wr.heap.size, 3, none⟩ (.int .i64 (plc Wl x.b))) (.cells #[.bool false, .bool true, .bool true, .bool V] 111) (HJS.out (w3.setCell ⟨wr.heap.size, 2, none⟩ (.int .i64 (plc Wl x.a))) 3 (.int .i64 (plc Wl x.b)) (HJS.out w3 2 (.int .i64 (plc Wl x.a)) J3))))
                  | (go_at_call 101; go_must ((with_reducible refine (HPL.out _ _ (by first | exact (HJE.out _ (HJA.out _ _ J3)).2.2.2 | exact (HJE.out _ (HJA.out _ _ (HJS.out _ _ _ J3))).2.2.2)).mono ?_); rintro e w7 ⟨rfl, rfl⟩))
                  | (at_builtin; go_must (refine wpList_push tyO (HJE.out _ JF).2.2.1 (⟨x.kind, x.d, plc Wl x.a, plc Wl x.b, x.v⟩ : OpD) rfl rfl rfl rfl rfl (by simp) hq.out (by have h9 := (HJE.out _ JF).2.1.lt; exact Nat.le_of_lt h9) (by omega) ?_; intro a8 c8 w8 hown8 hg8 hcs8; obtain ⟨J1, J2, J3', J4⟩ := HJE.out _ JF; have hQ8 := J2.grown hg8 (fun e => (J3'.blk_ne J2 (by decide)) e.symm); have hb8 := below_push J1 J3' hg8 (Nat.le_of_lt J2.lt); obtain ⟨t0, t1, t2, t3⟩ := hQ8.c2)))
                go_roundw
                case rel => exact ⟨i + 1, q + 1, a8, c8, by go_num, by omega, by omega, by show _ = _; rw [HTS.out]; simp [hq.out], by simpa using hQ8.set_ 1 (.slice a8 (q + 1) c8), by rw [HTS.out, HY.out]; exact hown8.far (hown8.blk_ne hQ8 (by decide)) _, hb8.setCell (p := ⟨gq, 1, none⟩) (Nat.le_refl _) _⟩
                case measure => simp [intOf]; omega
              | false =>
                clear hb13
                have HY := hide (show packO Wl x = (⟨x.kind, x.d, plc Wl x.a, x.b, x.v⟩ : OpD) by rw [HPK.out]; rfl)
                go_wp2_with (first
                  | (go_at_call 65; go_must ((with_reducible refine (HK.out _).mono ?_); rintro e w3 ⟨rfl, hb3⟩; have hn3 := HNB.out w3; have hBl := HBB.out w3; have hq3 := hb3.trans (hn3.mono hb3.size); have hXO3 := hXO.belowN hb3; obtain ⟨o0, o1, o2, o3, o4, f0, f1, f2, f3, f4⟩ := (hXO3.alloc (.cells #[.bool false, .bool true, .bool false, .bool V] 111)).c5; have J3 := HJB.out _ (hnx.trans (by have h9 := hb3.mono (show wr.heap.size ≤ (wr.alloc _).heap.size by rw [World.size_alloc]; omega); exact h9)); obtain ⟨j1, j2, j3, j4⟩ := HJE.out _ (HJA.out _ (.cells #[.bool false, .bool true, .bool false, .bool V] 111) J3); obtain ⟨u0, u1, u2, u3⟩ := j2.c2; obtain ⟨v0, v1, v2, v3, _⟩ := hBl.c4; have hga : wr.heap.size < w3.heap.size := (by have := hb3.size; rw [World.size_alloc, ← HGX.out] at this; omega); have hs2 : Blk (w3.setCell ⟨wr.heap.size, 2, none⟩ (.int .i64 (plc Wl x.a))) wr.heap.size 99 #[.int .i64 x.kind, .int .i64 (x.d), .int .i64 (plc Wl x.a), .int .i64 (x.b), .int .u64 (x.v.toNat : Int)] := hXO3.set_ 2 (.int .i64 (plc Wl x.a)); obtain ⟨r20, r21, r22, r23, r24, g20, g21, g22, g23, g24⟩ := (hs2.alloc (.cells #[.bool false, .bool true, .bool false, .bool V] 111)).c5; obtain ⟨n20, n21, n22, n23⟩ := (HJE.out _ (HJA.out _ (.cells #[.bool false, .bool true, .bool false, .bool V] 111) (HJS.out w3 2 (.int .i64 (plc Wl x.a)) J3))).2.1.c2; have JF := HJA.out (w3.setCell ⟨wr.heap.size, 2, none⟩ (.int .i64 (plc Wl x.a))) (.cells #[.bool false, .bool true, .bool false, .bool V] 111) (HJS.out w3 2 (.int .i64 (plc Wl x.a)) J3)))
                  | (go_at_call 101; go_must ((with_reducible refine (HPL.out _ _ (by first | exact (HJE.out _ (HJA.out _ _ J3)).2.2.2)).mono ?_); rintro e w7 ⟨rfl, rfl⟩))
                  | (at_builtin; go_must (refine wpList_push tyO (HJE.out _ JF).2.2.1 (⟨x.kind, x.d, plc Wl x.a, x.b, x.v⟩ : OpD) rfl rfl rfl rfl rfl (by simp) hq.out (by have h9 := (HJE.out _ JF).2.1.lt; exact Nat.le_of_lt h9) (by omega) ?_; intro a8 c8 w8 hown8 hg8 hcs8; obtain ⟨J1, J2, J3', J4⟩ := HJE.out _ JF; have hQ8 := J2.grown hg8 (fun e => (J3'.blk_ne J2 (by decide)) e.symm); have hb8 := below_push J1 J3' hg8 (Nat.le_of_lt J2.lt); obtain ⟨t0, t1, t2, t3⟩ := hQ8.c2)))
                go_roundw
                case rel => exact ⟨i + 1, q + 1, a8, c8, by go_num, by omega, by omega, by show _ = _; rw [HTS.out]; simp [hq.out], by simpa using hQ8.set_ 1 (.slice a8 (q + 1) c8), by rw [HTS.out, HY.out]; exact hown8.far (hown8.blk_ne hQ8 (by decide)) _, hb8.setCell (p := ⟨gq, 1, none⟩) (Nat.le_refl _) _⟩
                case measure => simp [intOf]; omega
            | false =>
              cases B with
              | true => cases hb13 rfl
              | false =>
                clear hb13
                have HY := hide (show packO Wl x = (⟨x.kind, x.d, x.a, x.b, x.v⟩ : OpD) by rw [HPK.out]; rfl)
                go_wp2_with (first
                  | (go_at_call 65; go_must ((with_reducible refine (HK.out _).mono ?_); rintro e w3 ⟨rfl, hb3⟩; have hn3 := HNB.out w3; have hBl := HBB.out w3; have hq3 := hb3.trans (hn3.mono hb3.size); have hXO3 := hXO.belowN hb3; obtain ⟨o0, o1, o2, o3, o4, f0, f1, f2, f3, f4⟩ := (hXO3.alloc (.cells #[.bool false, .bool false, .bool false, .bool V] 111)).c5; have J3 := HJB.out _ (hnx.trans (by have h9 := hb3.mono (show wr.heap.size ≤ (wr.alloc _).heap.size by rw [World.size_alloc]; omega); exact h9)); obtain ⟨j1, j2, j3, j4⟩ := HJE.out _ (HJA.out _ (.cells #[.bool false, .bool false, .bool false, .bool V] 111) J3); obtain ⟨u0, u1, u2, u3⟩ := j2.c2; obtain ⟨v0, v1, v2, v3, _⟩ := hBl.c4; have hga : wr.heap.size < w3.heap.size := (by have := hb3.size; rw [World.size_alloc, ← HGX.out] at this; omega); have JF := HJA.out w3 (.cells #[.bool false, .bool false, .bool false, .bool V] 111) J3))
                  | (at_builtin; go_must (refine wpList_push tyO (HJE.out _ JF).2.2.1 (⟨x.kind, x.d, x.a, x.b, x.v⟩ : OpD) rfl rfl rfl rfl rfl (by simp) hq.out (by have h9 := (HJE.out _ JF).2.1.lt; exact Nat.le_of_lt h9) (by omega) ?_; intro a8 c8 w8 hown8 hg8 hcs8; obtain ⟨J1, J2, J3', J4⟩ := HJE.out _ JF; have hQ8 := J2.grown hg8 (fun e => (J3'.blk_ne J2 (by decide)) e.symm); have hb8 := below_push J1 J3' hg8 (Nat.le_of_lt J2.lt); obtain ⟨t0, t1, t2, t3⟩ := hQ8.c2)))
                go_roundw
                case rel => exact ⟨i + 1, q + 1, a8, c8, by go_num, by omega, by omega, by show _ = _; rw [HTS.out]; simp [hq.out], by simpa using hQ8.set_ 1 (.slice a8 (q + 1) c8), by rw [HTS.out, HY.out]; exact hown8.far (hown8.blk_ne hQ8 (by decide)) _, hb8.setCell (p := ⟨gq, 1, none⟩) (Nat.le_refl _) _⟩
                case measure => simp [intOf]; omega
        · obtain rfl : n = i := by omega
          have hE9 : F.take n = F := by rw [HN.out]; exact List.take_length
          rw [hE9] at hown hq
          have hRe := hR2.belowN hbe
          obtain ⟨s0, s1, s2, s3⟩ := hRe.c2
          obtain ⟨t0, t1, t2, t3⟩ := hQ.c2
          have hWe := hownw.belowN hbe
          have hBe := hB2.trans (hbe.mono hz2)
          have HQ9 := hide hq.out
          clear hE9 hq
          go_wp2
          try simp only [Exit.then, Exit.inBlock]
          try rw [Exit.noGoto_ret]
          have hF6 := (hRe.set_ 0 (.int .i64 (m : Int))).set_ 1 (.slice ao q co)
          refine bodyPost_ret (results_row_tmp2 rfl _ _ (w.heap.size + 1) _ #[.int .i64 (m : Int), .slice ao q co] (0, 0) _ rfl hF6 Try.underlying24 rfl (by kernel_rfl)) rfl ?_
          rw [HWL.out]
          exact ⟨ao, co, q, aw, cw, m, rfl, HQ9.out, HMW.out, ((hown.farLt (p := ⟨w.heap.size + 1, 0, none⟩) hrl2 _).farLt (p := ⟨w.heap.size + 1, 1, none⟩) hrl2 _).mono (Nat.le_of_lt (Nat.lt_of_le_of_lt (Nat.le_succ _) hrl2)), ((hWe.farLt (p := ⟨w.heap.size + 1, 0, none⟩) hw1 _).farLt (p := ⟨w.heap.size + 1, 1, none⟩) hw1 _).mono hz1, ((hBe.setCell (p := ⟨w.heap.size + 1, 0, none⟩) (Nat.le_succ _) _).setCell (p := ⟨w.heap.size + 1, 1, none⟩) (Nat.le_succ _) _)⟩
end Go.Proofs.Ythncfoompoheoaa
