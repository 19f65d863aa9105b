/- Chapter 14: ref14.Pull. -/
import Derived.Deep.RegionHeld3
import Derived.Test.YthncfoompoheoaaDc
namespace Go.Proofs.Ythncfoompoheoaa
set_option linter.unusedVariables false
set_option linter.unusedSimpArgs false
open Go.RowKit
theorem pullE_dual {regs : Int} {l : List OpD} {rn wn : Nat} (h : dualE regs l rn ≠ 0) : pullE regs l rn wn = dualE regs l rn := by
  unfold dualE at h ⊢
  unfold pullE
  by_cases hc : checkS regs l ≠ 0
  · rw [if_pos hc, if_pos hc]
  · rw [if_neg hc] at h ⊢
    rw [if_neg hc]
    by_cases hn : regs < (rn : Int)
    · rw [if_pos hn, if_pos (.inl hn)]
    · rw [if_neg hn] at h; exact absurd rfl h
theorem alongE_zero {regs : Int} {l : List OpD} {rn : Nat} : alongE regs l rn 0 = dualE regs l rn := by
  unfold alongE
  by_cases h : dualE regs l rn = 0
  · obtain ⟨f, e, g, hn⟩ := dualE_good h
    have := g.r1
    rw [if_neg (by simpa using h), if_neg (by omega), h]
  · rw [if_pos h]
theorem take_snoc_some {α : Type} {l : List α} {k : Nat} {x : α} (h : l[k]? = some x) : l.take k ++ [x] = l.take (k + 1) := by
  rw [List.take_add_one, h]; rfl
set_option maxRecDepth 100000 in
set_option maxHeartbeats 1600000 in
theorem Pull14_bad (regs : Int) (a : Option Addr) (c ln : Nat) (l : List OpD) (hln : ln = l.length) (ra : Option Addr) (rn rc : Nat) (r : List UInt64) (hrn : rn = r.length) (wa : Option Addr) (wn wc : Nat) (E : Int) (hE : dualE regs l rn = E) (h0 : E ≠ 0) (w : World) (h : At w a l) (hl : ln ≤ 1000000) (hr : At w ra r) (hrb : rn ≤ 1000000) :
    Calls Try.prog 26 #[.agg #[.int .i64 regs, .slice a ln c], .slice ra rn rc, .slice wa wn wc] w fun e w' => e = .returned (.tuple #[.slice none 0 0, .int .i64 E]) ∧ Below w.heap.size w w' := by
  have hb0 := below_new12 w (.cells #[.int .i64 regs, .slice a ln c] 24)
  have hX := Blk.new w 24 #[.int .i64 regs, .slice a ln c]
  have g1 := h.belowN hb0
  have hr1 := hr.belowN hb0
  have e1 : (E == 0) = false := by simpa using h0
  have e2 : (E != 0) = true := by simpa using h0
  have HP := hide (fun w' h1 h2 => Along14_calls regs a c ln l hln ra rn rc r hrn 0 _ E rfl (by rw [alongE_zero]; exact hE) w' h1 hl h2 hrb)
  clear h0 hE hrn hln
  go_enter Try.func26, Try.ntmps26
  go_wp2_with (go_at_call 35; go_must ((with_reducible refine (HP.out _ g1 hr1).mono ?_); rintro e w2 ⟨a2, c2, rfl, hown2, hC2⟩))
  go_ret2
  exact ⟨rfl, hb0.trans (hC2.mono hb0.size)⟩
set_option maxRecDepth 100000 in
set_option maxHeartbeats 1600000 in
theorem Pull14_dims (regs : Int) (a : Option Addr) (c ln : Nat) (l : List OpD) (hln : ln = l.length) (ra : Option Addr) (rn rc : Nat) (r : List UInt64) (hrn : rn = r.length) (wa : Option Addr) (wn wc : Nat) (hE : dualE regs l rn = 0) (hw : regs < (wn : Int)) (w : World) (h : At w a l) (hl : ln ≤ 1000000) (hr : At w ra r) (hrb : rn ≤ 1000000) :
    Calls Try.prog 26 #[.agg #[.int .i64 regs, .slice a ln c], .slice ra rn rc, .slice wa wn wc] w fun e w' => e = .returned (.tuple #[.slice none 0 0, .int .i64 10]) ∧ Below w.heap.size w w' := by
  have hb0 := below_new12 w (.cells #[.int .i64 regs, .slice a ln c] 24)
  have hX := Blk.new w 24 #[.int .i64 regs, .slice a ln c]
  have g1 := h.belowN hb0
  have hr1 := hr.belowN hb0
  have HP := hide (fun w' h1 h2 => Along14_calls regs a c ln l hln ra rn rc r hrn 0 _ 0 rfl (by rw [alongE_zero]; exact hE) w' h1 hl h2 hrb)
  clear hE hrn hln
  go_enter Try.func26, Try.ntmps26
  go_wp2_with (go_at_call 35; go_must ((with_reducible refine (HP.out _ g1 hr1).mono ?_); rintro e w2 ⟨a2, c2, rfl, hown2, hC2⟩; obtain ⟨q0, q1, q2, q3⟩ := (hX.belowN hC2).c2))
  go_ret2
  exact ⟨rfl, hb0.trans (hC2.mono hb0.size)⟩
set_option maxRecDepth 100000 in
set_option maxHeartbeats 6400000 in
theorem Pull14_good (nr : Nat) (a : Option Addr) (c ln : Nat) (l : List OpD) (hln : ln = l.length) (ra : Option Addr) (rn rc : Nat) (r : List UInt64) (hrn : rn = r.length) (wa : Option Addr) (wn wc : Nat) (x : List UInt64) (hwn : wn = x.length) (f : Fo) (hf : l = f.flat) (g : Good nr f) (h1 : rn ≤ nr) (h2 : wn ≤ nr) (w : World) (h : At w a l) (hr : At w ra r) (hw : At w wa x) :
    Calls Try.prog 26 #[.agg #[.int .i64 (nr : Int), .slice a ln c], .slice ra rn rc, .slice wa wn wc] w fun e w' => ∃ a' c', e = .returned (.tuple #[.slice a' nr c', .int .i64 0]) ∧ Own w' w.heap.size 68 a' c' (pullA nr l r x) ∧ Below w.heap.size w w' := by
  have r2 : nr ≤ 64 := by have := g.r2; omega
  have hl : ln ≤ 4096 := by rw [hln, hf]; exact g.len
  have hE : dualE nr l rn = 0 := by rw [hf]; exact dualE_of g (by omega)
  have HPA := hide (fun (i : Nat) (hi : i < nr) => pull_along g (r := r) (w := x) (by omega) (by omega) i hi)
  have HAL := hide (fun (i : Nat) (hi : i < nr) => alongA_len g (r := r) (i := (i : Int)) (by omega) (by omega) (by omega))
  have HPL := hide (show (pullA nr l r x).length = nr by rw [hf, pullA_good g (by omega) (by omega), backA_length, startR_length _ _ (by omega)]; simp)
  rw [← hf] at HPA HAL
  have HP : Hid (∀ (i : Nat) (I : Int) (hI : I = (i : Int)) (hi : i < nr) (w' : World), At w' a l → At w' ra r → Calls Try.prog 35 #[.agg #[.int .i64 (nr : Int), .slice a ln c], .slice ra rn rc, .int .i64 I] w' fun e w2 => ∃ a' c', e = .returned (.tuple #[.slice a' nr c', .int .i64 0]) ∧ Own w2 w'.heap.size 68 a' c' (alongA nr l r i) ∧ Below w'.heap.size w' w2) := hide fun i I hI hi w' h1' h2' => by subst hI; exact Along_good nr a c ln l hln ra rn rc r hrn i f hf g h1 hi w' h1' h2'
  have hb0 := below_new12 w (.cells #[.int .i64 (nr : Int), .slice a ln c] 24)
  have hX := Blk.new w 24 #[.int .i64 (nr : Int), .slice a ln c]
  have g1 := h.belowN hb0
  have hr1 := hr.belowN hb0
  have hw1 := hw.belowN hb0
  have r1 : 1 ≤ nr := by have := g.r1; omega
  have HWN := hide hwn
  obtain ⟨PA, hPA⟩ : ∃ PA, pullA nr l r x = PA := ⟨_, rfl⟩
  rw [hPA] at HPA HPL ⊢
  clear g hf hE hrn hln hwn hPA
  obtain ⟨w1, hw1'⟩ : ∃ w1, w1 = w.alloc (.cells #[.int .i64 (nr : Int), .slice a ln c] 24) := ⟨_, rfl⟩
  rw [← hw1'] at hb0 hX g1 hr1 hw1
  have hz1 : w1.heap.size = w.heap.size + 1 := by rw [hw1']; simp
  have HW1 := hide hw1'.symm
  obtain ⟨o0, o1, o2, o3⟩ := hX.c2
  rw [hw1'] at o0 o1 o2 o3
  clear hw1'
  go_enter Try.func26, Try.ntmps26
  go_wp2_with (go_at_call 35; go_must (rw [HW1.out]; (with_reducible refine (HP.out 0 0 rfl (by omega) _ g1 hr1).mono ?_); rintro e w2 ⟨a2, c2, rfl, hown2, hC2⟩; obtain ⟨q0, q1, q2, q3⟩ := (hX.belowN hC2).c2))
  have hz2 := hC2.size
  clear hown2
  go_loopw [10, 11] (fun bv iv wr => ∃ (i : Nat) (ab : Option Addr) (cb : Nat), iv = .int .i64 i ∧ i ≤ nr ∧ bv = .slice ab i cb ∧ Own wr w2.heap.size 68 ab cb (PA.take i) ∧ Below w2.heap.size w2 wr) (fun _ iv _ => nr - (intOf iv).toNat)
  case atStart => exact ⟨0, _, 0, rfl, by omega, rfl, Own.new w2 (Nat.le_refl _) _ UInt64, below_new12 w2 _⟩
  case round =>
    obtain ⟨i, ab, cb, rfl, hi, rfl, hB, hb⟩ := hrel
    obtain ⟨wo, rfl⟩ : ∃ wo : World, wo = wr := ⟨_, rfl⟩
    have hzo := hb.size
    have hC3 := hC2.trans (hb.mono hz2)
    obtain ⟨q0, q1, q2, q3⟩ := (hX.belowN hC3).c2
    by_cases hlt : i < nr
    · have hpa := HPA.out i hlt
      have hal := HAL.out i hlt
      obtain ⟨L, hL⟩ : ∃ L, alongA nr l r i = L := ⟨_, rfl⟩
      have HL := hide hL
      rw [hL] at hpa hal
      obtain ⟨V, hV⟩ : ∃ V, dotU x L = V := ⟨_, rfl⟩
      rw [hV] at hpa
      have HPA2 := hide hpa
      have HLL := hide (hal.trans (by simp) : L.length = nr)
      have HV := hide hV
      clear hpa hal hL hV
      go_wp2_with (go_at_call 35; go_must ((with_reducible refine (HP.out i i rfl hlt _ (g1.belowN hC3) (hr1.belowN hC3)).mono ?_); rw [HL.out]; rintro e w4 ⟨a4, c4, rfl, hown4, hb4⟩; have hC4 := hC3.trans (hb4.mono hC3.size)))
      have hz4 := hb4.size
      have hB4 := hB.belowN hb4
      have hw4 := hw1.belowN hC4
      go_loopw [14, 15] (fun sv iv wr => ∃ k : Nat, iv = .int .i64 k ∧ k ≤ wn ∧ sv = .int .u64 ((dotU (x.take k) L).toNat : Int) ∧ Below w4.heap.size w4 wr) (fun _ iv _ => wn - (intOf iv).toNat)
      case atStart => exact ⟨0, rfl, by omega, by rw [List.take_zero, dotU_nil]; rfl, Below.refl _ _⟩
      case round =>
        obtain ⟨k, rfl, hk, rfl, hb5⟩ := hrel
        have hz5 := hb5.size
        by_cases hlt2 : k < wn
        · obtain ⟨b1, off1, y, rfl, hy, e0⟩ := hw4.getU hb5 (show k < x.length by have := HWN.out; omega)
          obtain ⟨b2, off2, z, rfl, hz, e1⟩ := hown4.at_.getU hb5 (show k < L.length by have := HLL.out; omega)
          have HD := hide (dotU_snoc x L k y z hy.out hz.out)
          obtain ⟨s, hs⟩ : ∃ s, dotU (x.take k) L = s := ⟨_, rfl⟩
          rw [hs] at HD ⊢
          clear hs
          have HT := hide (fun W => Times_calls y z W)
          obtain ⟨p, hp⟩ : ∃ p, y * z = p := ⟨_, rfl⟩
          rw [hp] at HT HD
          clear hp
          have HPP := hide (fun W => Plus_calls s p W)
          obtain ⟨q, hq⟩ : ∃ q, s + p = q := ⟨_, rfl⟩
          rw [hq] at HPP HD
          clear hq
          have hd0 : Below wr.heap.size wr wr.drew := Below.drew (Below.refl _ _)
          have hl1 := World.block_lt_of_cell? _ _ e0
          have hkn1 : (k : Int) < (nr : Int) := by omega
          have hkn2 : (0 : Int) ≤ (k : Int) := by omega
          have hl2 := World.block_lt_of_cell? _ _ e1
          go_wp2_with fail
          go_region_held3 (fun w' => w'.cell? ⟨b1, off1 + k, none⟩ = some (.int .u64 (y.toNat : Int)) ∧ w'.cell? ⟨b2, off2 + k, none⟩ = some (.int .u64 (z.toNat : Int))) (go_keep)
            (first
              | (go_at_call 78; go_must ((with_reducible refine (HPP.out _).mono ?_); rintro e w7 ⟨rfl, hb7⟩; have hB7 := hB6.trans (hb7.mono hB6.size); obtain ⟨y0, _⟩ := bcell hB7; have t0 := (y0 b1 _ hl1).trans e0; have t1 := (y0 b2 _ hl2).trans e1; clear y0))
              | (go_at_call 79; go_must ((with_reducible refine (HT.out _).mono ?_); rintro e w6 ⟨rfl, hb6⟩; have hB6 := hd0.trans (hb6.mono hd0.size); obtain ⟨y0, _⟩ := bcell hB6; have s0 := (y0 b1 _ hl1).trans e0; have s1 := (y0 b2 _ hl2).trans e1; clear y0)))
          go_wp2
          go_roundw
          case rel => exact ⟨k + 1, by go_num, by omega, by rw [HD.out], hb5.trans (hB7.mono hz5)⟩
          case measure => simp [intOf] <;> omega
        · have hkn : k = wn := by omega
          have e5 : dotU (x.take k) L = V := by rw [hkn, HWN.out, List.take_length]; exact HV.out
          rw [e5]
          have hB5 := hB4.belowN hb5
          have hC5 := hb.trans ((hb4.trans (hb5.mono hz4)).mono hzo)
          have HKL := hide (show i = (PA.take i).length by have := HPL.out; rw [List.length_take]; omega)
          have HXS := hide (take_snoc_some HPA2.out)
          have hz9 := hC5.size
          clear hkn e5
          go_wp2_with (at_builtin; refine wpList_push tyU hB5 V rfl rfl rfl rfl rfl rfl HKL.out hz9 (by omega) ?_; intro a8 c8 w8 hown8 hg8 _)
          go_roundw
          case rel => exact ⟨i + 1, by omega, by omega, a8, c8, ⟨rfl, rfl, rfl⟩, by rw [← HXS.out]; exact hown8, below_push hC5 hB5 hg8 hz9⟩
          case measure => simp [intOf] <;> omega
    · have hin : i = nr := by omega
      subst hin
      rw [show PA.take i = PA by rw [← HPL.out, List.take_length]] at hB
      clear hlt hi
      go_wp2
      go_ret2
      exact ⟨ab, cb, rfl, hB.mono (by omega), hb0.trans (hC3.mono hb0.size)⟩
theorem Pull14_calls (regs : Int) (a : Option Addr) (c ln : Nat) (l : List OpD) (hln : ln = l.length) (ra : Option Addr) (rn rc : Nat) (r : List UInt64) (hrn : rn = r.length) (wa : Option Addr) (wn wc : Nat) (x : List UInt64) (hwn : wn = x.length) (A : List UInt64) (E : Int) (hA : pullA regs l r x = A) (hE : pullE regs l rn wn = E) (w : World) (h : At w a l) (hl : ln ≤ 1000000) (hr : At w ra r) (hw : At w wa x) (b1 : rn ≤ 1000000) (b2 : wn ≤ 1000000) :
    Calls Try.prog 26 #[.agg #[.int .i64 regs, .slice a ln c], .slice ra rn rc, .slice wa wn wc] w fun e w' => ∃ a' c', e = .returned (.tuple #[.slice a' A.length c', .int .i64 E]) ∧ Own w' w.heap.size 68 a' c' A ∧ Below w.heap.size w w' := by
  by_cases hc : E = 0
  · subst hc
    obtain ⟨f, hf, g, hn, hm⟩ := pull_good hE
    obtain ⟨nr, rfl⟩ : ∃ nr : Nat, regs = nr := ⟨regs.toNat, by have := g.r1; omega⟩
    refine (Pull14_good nr a c ln l hln ra rn rc r hrn wa wn wc x hwn f hf g (by omega) (by omega) w h hr hw).mono ?_
    rintro e w' ⟨a', c', rfl, o, hb⟩
    rw [hA] at o
    have hAl : A.length = nr := by rw [← hA, hf, pullA_good g (by omega) (by omega), backA_length, startR_length _ _ (by omega)]; simp
    exact ⟨a', c', by rw [hAl], o, hb⟩
  · have hA0 : A = [] := by rw [← hA]; exact pullA_bad (by rw [← hrn, ← hwn, hE]; exact hc)
    subst hA0
    have key : Calls Try.prog 26 #[.agg #[.int .i64 regs, .slice a ln c], .slice ra rn rc, .slice wa wn wc] w fun e w' => e = .returned (.tuple #[.slice none 0 0, .int .i64 E]) ∧ Below w.heap.size w w' := by
      by_cases h0 : dualE regs l rn = 0
      · obtain ⟨f, hf, g, hn⟩ := dualE_good h0
        have hm : regs < (wn : Int) := Classical.byContradiction fun hm => hc (by rw [← hE, hf]; exact pull_of_good g hn (by omega))
        have e10 : E = 10 := by rw [← hE, hf]; exact pullE_dims g (.inr hm)
        subst e10
        exact Pull14_dims regs a c ln l hln ra rn rc r hrn wa wn wc h0 hm w h hl hr b1
      · rw [pullE_dual h0] at hE
        exact Pull14_bad regs a c ln l hln ra rn rc r hrn wa wn wc E hE hc w h hl hr b1
    refine key.mono ?_
    rintro e w' ⟨rfl, hb⟩
    exact ⟨none, 0, rfl, Own.none _ _ _, hb⟩
end Go.Proofs.Ythncfoompoheoaa
