/- Eval of both sides. -/
import Derived.Test.YtcamcnahkdiefaaPe
namespace Go.Proofs.Ytcamcnahkdiefaa
set_option linter.unusedVariables false
set_option linter.unusedSimpArgs false
open Go.RowKit
/-- powers at numbers -/
def monR : List UInt64 → List Int → UInt64
  | x :: xs, n :: es => x ^ n.toNat * monR xs es
  | _, _ => 1
/-- terms at numbers -/
def evalT (xs : List UInt64) (ts : List Tm) : UInt64 := lin (monR xs) ts
def evalE (vars : Int) (ts : List Tm) (m : Nat) : Int := if checkP vars ts = true ∧ (m : Int) = vars then 0 else 2
def evalV (vars : Int) (ts : List Tm) (xs : List UInt64) : UInt64 := if checkP vars ts = true ∧ (xs.length : Int) = vars then evalT xs ts else 0
theorem monR_step {xs : List UInt64} {es : List Int} {k : Nat} {x : UInt64} {n : Int} (hx : xs[k]? = some x) (hn : es[k]? = some n) : monR (xs.drop k) (es.drop k) = x ^ n.toNat * monR (xs.drop (k + 1)) (es.drop (k + 1)) := by
  rw [drop_at hx, drop_at hn, monR]
theorem mon_mul {c X P R : UInt64} (h : c * (P * X) = R) : c * P * X = R := by rw [← h]; grind
theorem mon_one {c x X R : UInt64} (h : c * (x ^ (0 : Nat) * X) = R) : c * X = R := by rw [← h]; rw [UInt64.pow_zero]; grind
theorem lin_sum {s c X F S R : UInt64} (h : s + (c * X + F) = R) (hc : c * X = S) : s + S + F = R := by rw [← h, hc]; grind
theorem lin_last {s R : UInt64} (h : s + 0 = R) : s = R := by rw [← h]; grind
set_option maxRecDepth 100000 in
set_option maxHeartbeats 6400000 in
theorem Eval_calls (vars : Int) (a : Option Addr) (n c : Nat) (ts : List Tm) (hn : n = ts.length) (xa : Option Addr) (m xc : Nat) (xs : List UInt64) (hm : m = xs.length) (w : World) (h : AtT w a ts) (hxa : At w xa xs) (hl : n ≤ 1000000) (hll : ∀ t ∈ ts, t.2.length ≤ 1000000) (V : UInt64) (hV : evalV vars ts xs = V) (E : Int) (hE : evalE vars ts m = E) :
    Calls Try.prog 12 #[.agg #[.int .i64 vars, .slice a n c], .slice xa m xc] w fun v w' => v = .returned (.tuple #[.int .u64 (V.toNat : Int), .int .i64 E]) ∧ Below w.heap.size w w' := by
  have hb0 := below_box w (.cells #[.int .i64 vars, .slice a n c] 24)
  have hX := Blk.new w 24 #[.int .i64 vars, .slice a n c]
  have ha0 := h.belowN hb0
  obtain ⟨Q, hQ⟩ : ∃ Q, checkP vars ts = Q := ⟨_, rfl⟩
  have HC := hide (Check_calls vars a n c ts hn _ ha0 hl hll Q hQ)
  unfold evalV at hV
  unfold evalE at hE
  rw [← hm, hQ] at hV
  rw [hQ] at hE
  cases Q with
  | false =>
    rw [if_neg (by simp)] at hV hE
    subst hV hE
    clear hQ hn hm
    go_enter Try.func12, Try.ntmps12
    go_wp2_with (go_at_call 21; go_must ((with_reducible refine (HC.out).mono ?_); rintro v w1 ⟨rfl, hb1⟩; have hB1 := hb0.trans (hb1.mono hb0.size); obtain ⟨p0, p1, p2, p3⟩ := (hX.belowN hb1).c2))
    go_ret2
    exact ⟨rfl, hB1⟩
  | true =>
    by_cases hmv : (m : Int) = vars
    case neg =>
      rw [if_neg (fun q => hmv q.2)] at hV hE
      subst hV hE
      have e1 : ((m : Int) != vars) = true := by simpa using hmv
      have e2 : ((m : Int) == vars) = false := by simpa using hmv
      clear hQ hn hm hmv
      go_enter Try.func12, Try.ntmps12
      go_wp2_with (go_at_call 21; go_must ((with_reducible refine (HC.out).mono ?_); rintro v w1 ⟨rfl, hb1⟩; have hB1 := hb0.trans (hb1.mono hb0.size); obtain ⟨p0, p1, p2, p3⟩ := (hX.belowN hb1).c2))
      go_ret2
      exact ⟨rfl, hB1⟩
    case pos =>
      rw [if_pos ⟨rfl, hmv⟩] at hV hE
      subst hE
      have hok := checkP_ok hQ
      have HRT := hide hok.rt
      have HV : Hid ((0 : UInt64) + lin (monR xs) (ts.drop 0) = V) := by show _ = V; rw [← hV]; unfold evalT; rw [List.drop_zero]; grind
      have e1 : ((m : Int) != (m : Int)) = false := by simp
      have HN := hide hn
      have HM := hide hm
      subst hmv
      have hm64 : m ≤ 64 := by have := hok.n64; omega
      clear hQ hV hn hm hok hll
      go_enter Try.func12, Try.ntmps12
      go_wp2_with (go_at_call 21; go_must ((with_reducible refine (HC.out).mono ?_); rintro v w1 ⟨rfl, hb1⟩; have hB1 := hb0.trans (hb1.mono hb0.size); have hX1 := hX.belowN hb1; have ha1 := ha0.belowN hb1; have hx1 := (hxa.belowN hb0).belowN hb1; obtain ⟨p0, p1, p2, p3⟩ := hX1.c2))
      have hz1 := hB1.size
      clear HC hb1 hb0 ha0 hX h hxa
      go_loopw [6, 25] (fun sv iv wr => ∃ (k : Nat) (s : UInt64), iv = .int .i64 k ∧ k ≤ n ∧ sv = .int .u64 (s.toNat : Int) ∧ Hid (s + lin (monR xs) (ts.drop k) = V) ∧ Below w1.heap.size w1 wr) (fun _ iv _ => n - (intOf iv).toNat)
      case atStart => exact ⟨0, 0, rfl, by omega, rfl, HV.out, Below.refl _ _⟩
      case round =>
        obtain ⟨k, s, rfl, hk, rfl, hs, hb⟩ := hrel
        have hzr := hb.size
        by_cases hlt : k < n
        · obtain ⟨b1, off1, t, ea, en, ec, rfl, ht, t0, t1, hen, he1, he2, hea⟩ := ha1.get hb (k := k) (by rw [← HN.out]; exact hlt)
          have hk0 : (0 : Int) ≤ (k : Int) := by omega
          have hk1 : (k : Int) < (n : Int) := by omega
          have hrt := HRT.out t (List.mem_of_getElem? ht.out)
          have hlen := rightT_len hrt
          have HIN := hide (rightT_in hrt)
          have hs2 := hs.out
          rw [drop_at ht.out, lin] at hs2
          obtain ⟨S, hS⟩ : ∃ S, t.1 * monR xs t.2 = S := ⟨_, rfl⟩
          have HS2 := hide (lin_sum hs2 hS)
          have hem : en = m := by rw [hen.out]; omega
          subst hem
          have hbx := below_box wr (.cells #[.int .u64 (t.1.toNat : Int), .slice ea en ec] 57)
          have hB9 := hb.trans (hbx.mono hzr)
          obtain ⟨r0, r1, r2, r3⟩ := (Blk.new wr 57 #[.int .u64 (t.1.toNat : Int), .slice ea en ec]).c2
          have hea1 := hea.belowN hbx
          have hx9 := hx1.belowN hB9
          have HC0 : Hid (t.1 * monR (xs.drop 0) (t.2.drop 0) = S) := by show _ = S; rw [List.drop_zero, List.drop_zero, hS]
          obtain ⟨wo, rfl⟩ : ∃ wo : World, wo = wr := ⟨_, rfl⟩
          have HLN := hide hen.out
          clear hrt hs2 hS hs ht hlen
          go_wp2
          go_loopw [9, 34] (fun cv jv wr => ∃ (j : Nat) (c : UInt64), jv = .int .i64 j ∧ j ≤ en ∧ cv = .int .u64 (c.toNat : Int) ∧ Hid (c * monR (xs.drop j) (t.2.drop j) = S) ∧ wr = wo.alloc (.cells #[.int .u64 (t.1.toNat : Int), .slice ea en ec] 57)) (fun _ jv _ => en - (intOf jv).toNat)
          case atStart => exact ⟨0, t.1, rfl, by omega, rfl, HC0.out, rfl⟩
          case round =>
            obtain ⟨j, cc, rfl, hj, rfl, hcj, rfl⟩ := hrel
            by_cases hjl : j < en
            · obtain ⟨b3, off3, p, rfl, hp, q0⟩ := hea1.getI (Below.refl _ _) (k := j) (by rw [← HLN.out]; exact hjl)
              obtain ⟨b4, off4, x, rfl, hx, x0⟩ := hx9.getU (Below.refl _ _) (k := j) (by rw [← HM.out]; exact hjl)
              have hpr := HIN.out p (List.mem_of_getElem? hp.out)
              have hc2 := hcj.out
              rw [monR_step hx.out hp.out] at hc2
              obtain ⟨pn, rfl⟩ : ∃ pn : Nat, p = pn := ⟨p.toNat, by omega⟩
              rw [Int.toNat_natCast] at hc2
              have hj0 : (0 : Int) ≤ (j : Int) := by omega
              have hj1 : (j : Int) < (en : Int) := by omega
              clear hp hx
              by_cases hp0 : pn = 0
              · subst hp0
                have HC2 := hide (mon_one hc2)
                have hp1 : ¬ (0 : Int) < ((0 : Nat) : Int) := by omega
                clear hc2
                go_wp2
                go_roundw
                case rel => exact ⟨j + 1, cc, by go_num, by omega, rfl, HC2.out, by first | rfl | trivial⟩
                case measure => simp [intOf]; omega
              · have hp1 : (0 : Int) < (pn : Int) := by omega
                have HC2 := hide (mon_mul hc2)
                have HPW := hide (fun W => Pow_calls x pn (by omega) W)
                obtain ⟨P, hP⟩ : ∃ P, x ^ pn = P := ⟨_, rfl⟩
                rw [hP] at HPW HC2
                have HW := hide (u64_mul cc P)
                have hwr : IntKind.u64.wrap (pn : Int) = (pn : Int) := IntWalk.u64_in _ (by omega)
                clear hc2 hP
                go_wp2_with (go_at_call 36; go_must ((with_reducible refine (HPW.out _).mono ?_); rintro v w5 ⟨rfl, rfl⟩))
                go_roundw
                case rel => exact ⟨j + 1, cc * P, by go_num, by omega, by rw [HW.out], HC2.out, by first | rfl | trivial⟩
                case measure => simp [intOf]; omega
            · obtain rfl : j = en := by omega
              have hc2 := hcj.out
              rw [show xs.drop j = [] from List.drop_eq_nil_of_le (by rw [← HM.out]; exact Nat.le_refl _)] at hc2
              have hcS : cc = S := by rw [← hc2]; simp [monR]
              subst hcS
              have HW := hide (u64_add s cc)
              clear hc2
              go_wp2
              go_roundw
              case rel => exact ⟨k + 1, s + cc, by go_num, by omega, by rw [HW.out], HS2.out, hB9⟩
              case measure => simp [intOf]; omega
        · obtain rfl : k = n := by omega
          have hs2 := hs.out
          rw [List.drop_eq_nil_of_le (by rw [← HN.out]; exact Nat.le_refl _), lin] at hs2
          have hsV := lin_last hs2
          subst hsV
          clear hs2
          go_wp2
          go_ret2
          exact ⟨rfl, hB1.trans (hb.mono hz1)⟩
set_option maxRecDepth 100000 in
set_option maxHeartbeats 6400000 in
theorem REval_calls (vars : Int) (a : Option Addr) (n c : Nat) (ts : List Tm) (hn : n = ts.length) (xa : Option Addr) (m xc : Nat) (xs : List UInt64) (hm : m = xs.length) (w : World) (h : AtT w a ts) (hxa : At w xa xs) (hl : n ≤ 1000000) (hll : ∀ t ∈ ts, t.2.length ≤ 1000000) (V : UInt64) (hV : evalV vars ts xs = V) (E : Int) (hE : evalE vars ts m = E) :
    Calls Try.prog 13 #[.agg #[.int .i64 vars, .slice a n c], .slice xa m xc] w fun v w' => v = .returned (.tuple #[.int .u64 (V.toNat : Int), .int .i64 E]) ∧ Below w.heap.size w w' := by
  have hb0 := below_box w (.cells #[.int .i64 vars, .slice a n c] 24)
  have hX := Blk.new w 24 #[.int .i64 vars, .slice a n c]
  have ha0 := h.belowN hb0
  obtain ⟨Q, hQ⟩ : ∃ Q, checkP vars ts = Q := ⟨_, rfl⟩
  have HC := hide (RCheck_calls vars a n c ts hn _ ha0 hl hll Q hQ)
  unfold evalV at hV
  unfold evalE at hE
  rw [← hm, hQ] at hV
  rw [hQ] at hE
  cases Q with
  | false =>
    rw [if_neg (by simp)] at hV hE
    subst hV hE
    clear hQ hn hm
    go_enter Try.func13, Try.ntmps13
    go_wp2_with (go_at_call 22; go_must ((with_reducible refine (HC.out).mono ?_); rintro v w1 ⟨rfl, hb1⟩; have hB1 := hb0.trans (hb1.mono hb0.size); obtain ⟨p0, p1, p2, p3⟩ := (hX.belowN hb1).c2))
    go_ret2
    exact ⟨rfl, hB1⟩
  | true =>
    by_cases hmv : (m : Int) = vars
    case neg =>
      rw [if_neg (fun q => hmv q.2)] at hV hE
      subst hV hE
      have e1 : ((m : Int) != vars) = true := by simpa using hmv
      have e2 : ((m : Int) == vars) = false := by simpa using hmv
      clear hQ hn hm hmv
      go_enter Try.func13, Try.ntmps13
      go_wp2_with (go_at_call 22; go_must ((with_reducible refine (HC.out).mono ?_); rintro v w1 ⟨rfl, hb1⟩; have hB1 := hb0.trans (hb1.mono hb0.size); obtain ⟨p0, p1, p2, p3⟩ := (hX.belowN hb1).c2))
      go_ret2
      exact ⟨rfl, hB1⟩
    case pos =>
      rw [if_pos ⟨rfl, hmv⟩] at hV hE
      subst hE
      have hok := checkP_ok hQ
      have HRT := hide hok.rt
      have HV : Hid ((0 : UInt64) + lin (monR xs) (ts.drop 0) = V) := by show _ = V; rw [← hV]; unfold evalT; rw [List.drop_zero]; grind
      have e1 : ((m : Int) != (m : Int)) = false := by simp
      have HN := hide hn
      have HM := hide hm
      subst hmv
      have hm64 : m ≤ 64 := by have := hok.n64; omega
      clear hQ hV hn hm hok hll
      go_enter Try.func13, Try.ntmps13
      go_wp2_with (go_at_call 22; go_must ((with_reducible refine (HC.out).mono ?_); rintro v w1 ⟨rfl, hb1⟩; have hB1 := hb0.trans (hb1.mono hb0.size); have hX1 := hX.belowN hb1; have ha1 := ha0.belowN hb1; have hx1 := (hxa.belowN hb0).belowN hb1; obtain ⟨p0, p1, p2, p3⟩ := hX1.c2))
      have hz1 := hB1.size
      have hX1w := hX1
      clear HC hb1 hb0 ha0 hX h hxa
      go_loopw [6, 7] (fun sv iv wr => ∃ (k : Nat) (s : UInt64), iv = .int .i64 k ∧ k ≤ n ∧ sv = .int .u64 (s.toNat : Int) ∧ Hid (s + lin (monR xs) (ts.drop k) = V) ∧ Below w1.heap.size w1 wr) (fun _ iv _ => n - (intOf iv).toNat)
      case atStart => exact ⟨0, 0, rfl, by omega, rfl, HV.out, Below.refl _ _⟩
      case round =>
        obtain ⟨k, s, rfl, hk, rfl, hs, hb⟩ := hrel
        have hzr := hb.size
        obtain ⟨y0, y1, y2, y3⟩ := (hX1w.belowN hb).c2
        by_cases hlt : k < n
        · obtain ⟨b1, off1, t, ea, en, ec, rfl, ht, t0, t1, hen, he1, he2, hea⟩ := ha1.get hb (k := k) (by rw [← HN.out]; exact hlt)
          have hk0 : (0 : Int) ≤ (k : Int) := by omega
          have hk1 : (k : Int) < (n : Int) := by omega
          have hrt := HRT.out t (List.mem_of_getElem? ht.out)
          have hlen := rightT_len hrt
          have HIN := hide (rightT_in hrt)
          have hs2 := hs.out
          rw [drop_at ht.out, lin] at hs2
          obtain ⟨S, hS⟩ : ∃ S, t.1 * monR xs t.2 = S := ⟨_, rfl⟩
          have HS2 := hide (lin_sum hs2 hS)
          have hem : en = m := by rw [hen.out]; omega
          subst hem
          have HC0 : Hid (t.1 * monR (xs.drop 0) (t.2.drop 0) = S) := by show _ = S; rw [List.drop_zero, List.drop_zero, hS]
          obtain ⟨wo, rfl⟩ : ∃ wo : World, wo = wr := ⟨_, rfl⟩
          have HLN := hide hen.out
          clear hrt hs2 hS hs ht hlen
          go_wp2
          go_loopw [8, 9] (fun cv jv wr => ∃ (j : Nat) (c : UInt64), jv = .int .i64 j ∧ j ≤ en ∧ cv = .int .u64 (c.toNat : Int) ∧ Hid (c * monR (xs.drop j) (t.2.drop j) = S) ∧ Below wo.heap.size wo wr) (fun _ jv _ => en - (intOf jv).toNat)
          case atStart => exact ⟨0, t.1, rfl, by omega, rfl, HC0.out, Below.refl _ _⟩
          case round =>
            obtain ⟨j, cc, rfl, hj, rfl, hcj, hb8⟩ := hrel
            have hz8 := hb8.size
            have hB8 := hb.trans (hb8.mono hzr)
            have hX8 := hX1w.belowN hB8
            obtain ⟨m0, m1, m2, m3⟩ := hX8.c2
            by_cases hjl : j < en
            · obtain ⟨b3, off3, p, rfl, hp, q0⟩ := hea.getI hb8 (k := j) (by rw [← HLN.out]; exact hjl)
              obtain ⟨b4, off4, x, rfl, hx, x0⟩ := hx1.getU hB8 (k := j) (by rw [← HM.out]; exact hjl)
              have g1 := cell_later hb8 t1
              have hpr := HIN.out p (List.mem_of_getElem? hp.out)
              have hc2 := hcj.out
              rw [monR_step hx.out hp.out] at hc2
              obtain ⟨pn, rfl⟩ : ∃ pn : Nat, p = pn := ⟨p.toNat, by omega⟩
              rw [Int.toNat_natCast] at hc2
              have hj0 : (0 : Int) ≤ (j : Int) := by omega
              have hj1 : (j : Int) < (en : Int) := by omega
              have HC2 := hide (mon_mul hc2)
              have HPW := hide (fun W => RPow_calls pn x W (by omega))
              obtain ⟨P, hP⟩ : ∃ P, x ^ pn = P := ⟨_, rfl⟩
              rw [hP] at HPW HC2
              have HTM := hide (fun W => Times_calls cc P W)
              obtain ⟨T, hT⟩ : ∃ T, cc * P = T := ⟨_, rfl⟩
              rw [hT] at HTM HC2
              have hwr : IntKind.u64.wrap (pn : Int) = (pn : Int) := IntWalk.u64_in _ (by omega)
              have hB := Below.drew (Below.refl wr.heap.size wr)
              clear hp hx hc2 hP hT
              go_wp2
              go_region_held3 (fun w' => w'.cell? ⟨w.heap.size, 0, none⟩ = some (.int .i64 (en : Int)) ∧ w'.cell? ⟨w.heap.size, 1, none⟩ = some (.slice (some ⟨b1, off1, none⟩) n c) ∧ w'.cell? ⟨b1, off1 + k * 2 + 1, none⟩ = some (.slice (some ⟨b3, off3, none⟩) en ec) ∧ w'.cell? ⟨b4, off4 + j, none⟩ = some (.int .u64 (x.toNat : Int)) ∧ w'.cell? ⟨b3, off3 + j, none⟩ = some (.int .i64 (pn : Int))) (go_keep)
                (first
                  | (go_at_call 37; go_must ((with_reducible refine (HPW.out _).mono ?_); rintro v w5 ⟨rfl, hb5⟩; have hB5 := hB.trans (hb5.mono hB.size); obtain ⟨o0, o1, o2, o3⟩ := (hX8.belowN hB5).c2; have g5 := cell_later hB5 g1; have x5 := cell_later hB5 x0; have q5 := cell_later hB5 q0))
                  | (go_at_call 35; go_must ((with_reducible refine (HTM.out _).mono ?_); rintro v w6 ⟨rfl, hb6⟩; have hB6 := hB5.trans (hb6.mono hB5.size); obtain ⟨o0, o1, o2, o3⟩ := (hX8.belowN hB6).c2; have g6 := cell_later hB6 g1; have x6 := cell_later hB6 x0; have q6 := cell_later hB6 q0)))
              go_wp2
              go_roundw
              case rel => exact ⟨j + 1, T, by go_num, by omega, rfl, HC2.out, hb8.trans (hB6.mono hz8)⟩
              case measure => simp [intOf]; omega
            · obtain rfl : j = en := by omega
              have hc2 := hcj.out
              rw [show xs.drop j = [] from List.drop_eq_nil_of_le (by rw [← HM.out]; exact Nat.le_refl _)] at hc2
              have hcS : cc = S := by rw [← hc2]; simp [monR]
              subst hcS
              have HPL := hide (fun W => Plus_calls s cc W)
              obtain ⟨T, hT⟩ : ∃ T, s + cc = T := ⟨_, rfl⟩
              rw [hT] at HPL HS2
              clear hc2 hT
              go_wp2_with (go_at_call 38; go_must ((with_reducible refine (HPL.out _).mono ?_); rintro v w6 ⟨rfl, hb6⟩; have hB6 := hB8.trans (hb6.mono hB8.size)))
              go_roundw
              case rel => exact ⟨k + 1, T, by go_num, by omega, rfl, HS2.out, hB6⟩
              case measure => simp [intOf]; omega
        · obtain rfl : k = n := by omega
          have hs2 := hs.out
          rw [List.drop_eq_nil_of_le (by rw [← HN.out]; exact Nat.le_refl _), lin] at hs2
          have hsV := lin_last hs2
          subst hsV
          clear hs2
          go_wp2
          go_ret2
          exact ⟨rfl, hB1.trans (hb.mono hz1)⟩
end Go.Proofs.Ytcamcnahkdiefaa
