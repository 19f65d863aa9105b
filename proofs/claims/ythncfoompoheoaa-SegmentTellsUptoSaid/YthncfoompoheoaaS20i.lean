/- Chapter 20: the law SegmentTells. -/
import Derived.Test.YthncfoompoheoaaM20d
import Derived.Test.YthncfoompoheoaaM20e
import Derived.Test.YthncfoompoheoaaM20g
import Derived.Test.YthncfoompoheoaaS20f
namespace Go.Proofs.Ythncfoompoheoaa
set_option linter.unusedVariables false
set_option linter.unusedSimpArgs false
open Go.RowKit
theorem atw_len20 (f : Fo) : ∀ n, (f.atw n).2.length ≤ f.size := by
  induction f with
  | nil => intro n; exact Nat.zero_le _
  | leaf op r ih => intro n; rw [Fo.atw, Fo.size_leaf]; split <;> first | exact Nat.zero_le _ | (have := ih (n - 1); simp only; omega)
  | rep op b fin r ihb ihr =>
    intro n
    rw [Fo.atw, Fo.size_rep]
    split
    · have := ihb (n % b.wr); simp only [List.length_cons]; omega
    · have := ihr (n - b.wr * op.v.toNat); simp only; omega
theorem rep_get (l : List OpD) : ∀ (V n : Nat), n < l.length * V → ((List.replicate V l).flatten)[n]? = l[n % l.length]? := by
  intro V
  induction V with
  | zero => intro n h; simp at h
  | succ V ih =>
    intro n h
    rw [List.replicate_succ, List.flatten_cons]
    by_cases hn : n < l.length
    · rw [List.getElem?_append_left hn, Nat.mod_eq_of_lt hn]
    · rw [List.getElem?_append_right (by omega), ih (n - l.length) (by rw [Nat.mul_succ] at h; omega), ← Nat.mod_eq_sub_mod (by omega)]
/-- the write of a number is the operation at its place -/
theorem atS_len {regs : Int} {l : List OpD} {n I E : Int} {Z : List Int} (h : atS regs l n = (I, Z, E)) : Z.length ≤ 4096 := by
  unfold atS at h
  split at h
  · injection h with _ h; injection h with h _; subst h; simp
  · rename_i hc
    obtain ⟨f, rfl, g⟩ := good_of_check (Decidable.not_not.1 hc)
    rw [fo_flat g.ok] at h
    split at h
    · injection h with _ h; injection h with h _; rw [← h]; exact Nat.le_trans (atw_len20 f _) g.len
    · injection h with _ h; injection h with h _; subst h; simp
theorem Place20N (regs : Int) (a : Option Addr) (c ln : Nat) (l : List OpD) (hln : ln = l.length) (i : Int) (ra : Option Addr) (rn rc : Nat) (rs : List Int) (hrn : rn = rs.length) (hrs : ∀ r ∈ rs, -9223372036854775808 ≤ r ∧ r ≤ 9223372036854775807) (V E : Int) (hV : placeS regs l i rs = (V, E)) (w : World) (h : At w a l) (hl : ln ≤ 1000000) (hr : At w ra rs) (hrl : rn ≤ 1000000) (hi1 : -9223372036854775808 ≤ i) (hi2 : i ≤ 9223372036854775807) :
    Calls Try.prog 18 #[.agg #[.int .i64 regs, .slice a ln c], .int .i64 i, .slice ra rn rc] w fun e w' => e = .returned (.tuple #[.int .i64 V, .int .i64 E]) ∧ Below w.heap.size w w' := by
  subst hln; exact Place20_calls regs a c l i ra rn rc rs hrn hrs V E hV w h hl hr hrl hi1 hi2
theorem At20N (regs : Int) (a : Option Addr) (c ln : Nat) (l : List OpD) (hln : ln = l.length) (n : Int) (I : Int) (Z : List Int) (zn : Nat) (hzn : zn = Z.length) (E : Int) (hV : atS regs l n = (I, Z, E)) (w : World) (h : At w a l) (hl : ln ≤ 1000000) (hn1 : -9223372036854775808 ≤ n) (hn2 : n ≤ 9223372036854775807) :
    Calls Try.prog 20 #[.agg #[.int .i64 regs, .slice a ln c], .int .i64 n] w fun e w' => ∃ ra rc, e = .returned (.tuple #[.int .i64 I, .slice ra zn rc, .int .i64 E]) ∧ At w' ra Z ∧ Below w.heap.size w w' := by
  subst hln; exact At20_calls regs a c l n I Z zn hzn E hV w h hl hn1 hn2
theorem Segment20N (regs : Int) (a : Option Addr) (c ln : Nat) (l : List OpD) (hln : ln = l.length) (i : Int) (ra : Option Addr) (rn rc : Nat) (rs : List Int) (hrn : rn = rs.length) (hrs : ∀ r ∈ rs, -9223372036854775808 ≤ r ∧ r ≤ 9223372036854775807) (U V E : Int) (hV : segS regs l i rs = (U, V, E)) (w : World) (h : At w a l) (hl : ln ≤ 1000000) (hr : At w ra rs) (hrl : rn ≤ 1000000) (hi1 : -9223372036854775808 ≤ i) (hi2 : i ≤ 9223372036854775807) :
    Calls Try.prog 23 #[.agg #[.int .i64 regs, .slice a ln c], .int .i64 i, .slice ra rn rc] w fun e w' => e = .returned (.tuple #[.int .i64 U, .int .i64 V, .int .i64 E]) ∧ Below w.heap.size w w' := by
  subst hln; exact Segment20_calls regs a c l i ra rn rc rs hrn hrs U V E hV w h hl hr hrl hi1 hi2
set_option maxRecDepth 100000 in
set_option maxHeartbeats 6400000 in
theorem SegmentTells_calls (regs : Int) (a : Option Addr) (c : Nat) (l : List OpD) (i n : Int) (ra : Option Addr) (rc : Nat) (rs : List Int) (w : World) (h : At w a l) (hr : At w ra rs) (hl : l.length ≤ 1000000) (hi1 : -9223372036854775808 ≤ i) (hi2 : i ≤ 9223372036854775807) (hn1 : -9223372036854775808 ≤ n) (hn2 : n ≤ 9223372036854775807) (hrs : ∀ r ∈ rs, -9223372036854775808 ≤ r ∧ r ≤ 9223372036854775807) :
    Calls Try.prog 3 #[.agg #[.int .i64 regs, .slice a l.length c], .int .i64 i, .int .i64 n, .slice ra rs.length rc] w fun e w' => e = .returned (.bool true) ∧ Below w.heap.size w w' := by
  have hb0 := below_new12 w (.cells #[.int .i64 regs, .slice a l.length c] 24)
  have hX := Blk.new w 24 #[.int .i64 regs, .slice a l.length c]
  have h1 := h.belowN hb0
  have hr1 := hr.belowN hb0
  have HW := hide (SizeW_calls a c l _ h1 hl)
  have hwb : 0 ≤ sizeW l ∧ sizeW l ≤ 65536 := sizeW_bd20 l
  obtain ⟨wn, hwn⟩ : ∃ wn : Nat, sizeW l = wn := ⟨(sizeW l).toNat, by omega⟩
  obtain ⟨S, hS⟩ : ∃ S, sizeE l = S := ⟨_, rfl⟩
  rw [hwn, hS] at HW
  rw [hwn] at hwb
  obtain ⟨ln, hln⟩ : ∃ ln, ln = l.length := ⟨_, rfl⟩
  obtain ⟨rn, hrn⟩ : ∃ rn, rn = rs.length := ⟨_, rfl⟩
  rw [← hln, ← hrn]
  rw [← hln] at HW hl hX hb0 h1 hr1
  obtain ⟨V, E, hV⟩ : ∃ V E, placeS regs l i rs = (V, E) := ⟨_, _, rfl⟩
  obtain ⟨I, Z, E2, hA⟩ : ∃ I Z E2, atS regs l n = (I, Z, E2) := ⟨_, _, _, rfl⟩
  obtain ⟨P, Q, E3, hG⟩ : ∃ P Q E3, segS regs l i rs = (P, Q, E3) := ⟨_, _, _, rfl⟩
  have hzl := atS_len hA
  obtain ⟨zn, hzn⟩ : ∃ zn, zn = Z.length := ⟨_, rfl⟩
  rw [← hzn] at hzl
  have HP := hide (fun W (k1 : At W a l) (k3 : At W ra rs) (b3 : rn ≤ 1000000) => PlaceN regs a c ln l hln i ra rn rc rs hrn hrs V E hV W k1 hl k3 b3)
  have HRP := hide (fun W (k1 : At W a l) (k3 : At W ra rs) (b3 : rn ≤ 1000000) => Place20N regs a c ln l hln i ra rn rc rs hrn hrs V E hV W k1 hl k3 b3 hi1 hi2)
  have HA := hide (fun W (k1 : At W a l) => AtSN regs a c ln l hln n I Z zn hzn E2 hA W k1 hl)
  have HRA := hide (fun W (k1 : At W a l) => At20N regs a c ln l hln n I Z zn hzn E2 hA W k1 hl hn1 hn2)
  have HS := hide (fun W (k1 : At W a l) (k3 : At W ra rs) (b3 : rn ≤ 1000000) => SegmentN regs a c ln l hln i ra rn rc rs hrn hrs P Q E3 hG W k1 hl k3 b3)
  have HRS := hide (fun W (k1 : At W a l) (k3 : At W ra rs) (b3 : rn ≤ 1000000) => Segment20N regs a c ln l hln i ra rn rc rs hrn hrs P Q E3 hG W k1 hl k3 b3 hi1 hi2)
  have HI := hide (fun (p q : Option Addr) (cp cq : Nat) W (k1 : At W p Z) (k2 : At W q Z) => Ints7N p q zn zn cp cq Z W hzn hzn k1 k2 (by omega))
  clear hwn hS hln hrn hrs hV hA hG hzn
  by_cases g1 : 40 < ln
  · go_enter Try.func3, Try.ntmps3
    go_wp2_with (first
      | (go_at_call 15; go_must ((with_reducible refine (HW.out).mono ?_); rintro e w1 ⟨rfl, hC1⟩; have hz1 := hC1.size; obtain ⟨q0, q1, q2, q3⟩ := (hX.belowN hC1).c2))
      | (go_at_call 16; go_must ((with_reducible refine (goes20_calls _).mono ?_); rintro e w9 ⟨rfl, hb9⟩)))
    go_ret
    exact ⟨rfl, hb0.trans ((hC1.trans (hb9.mono hC1.size)).mono hb0.size)⟩
  by_cases g0 : S = 0
  · subst g0
    by_cases g2 : 300 < wn
    · go_enter Try.func3, Try.ntmps3
      go_wp2_with (first
        | (go_at_call 15; go_must ((with_reducible refine (HW.out).mono ?_); rintro e w1 ⟨rfl, hC1⟩; have hz1 := hC1.size; obtain ⟨q0, q1, q2, q3⟩ := (hX.belowN hC1).c2))
        | (go_at_call 16; go_must ((with_reducible refine (goes20_calls _).mono ?_); rintro e w9 ⟨rfl, hb9⟩)))
      go_ret
      exact ⟨rfl, hb0.trans ((hC1.trans (hb9.mono hC1.size)).mono hb0.size)⟩
    by_cases g4 : 20 < rn
    · go_enter Try.func3, Try.ntmps3
      go_wp2_with (first
        | (go_at_call 15; go_must ((with_reducible refine (HW.out).mono ?_); rintro e w1 ⟨rfl, hC1⟩; have hz1 := hC1.size; obtain ⟨q0, q1, q2, q3⟩ := (hX.belowN hC1).c2))
        | (go_at_call 16; go_must ((with_reducible refine (goes20_calls _).mono ?_); rintro e w9 ⟨rfl, hb9⟩)))
      go_ret
      exact ⟨rfl, hb0.trans ((hC1.trans (hb9.mono hC1.size)).mono hb0.size)⟩
    go_enter Try.func3, Try.ntmps3
    go_wp2_with (first
      | (go_at_call 15; go_must ((with_reducible refine (HW.out).mono ?_); rintro e w1 ⟨rfl, hC1⟩; have hz1 := hC1.size; obtain ⟨q0, q1, q2, q3⟩ := (hX.belowN hC1).c2))
      | (go_at_call 17; go_must ((with_reducible refine (HP.out _ (h1.belowN hC1) (hr1.belowN hC1) (by omega)).mono ?_); rintro e w2 ⟨rfl, hb2⟩; have hC2 := hC1.trans (hb2.mono hC1.size); obtain ⟨u0, u1, u2, u3⟩ := (hX.belowN hC2).c2))
      | (go_at_call 18; go_must ((with_reducible refine (HRP.out _ (h1.belowN hC2) (hr1.belowN hC2) (by omega)).mono ?_); rintro e w3 ⟨rfl, hb3⟩; have hC3 := hC2.trans (hb3.mono hC2.size); obtain ⟨v0, v1, v2, v3⟩ := (hX.belowN hC3).c2))
      | (go_at_call 19; go_must ((with_reducible refine (HA.out _ (h1.belowN hC3)).mono ?_); rintro e w4 ⟨a4, c4, rfl, hown4, hb4⟩; have hC4 := hC3.trans (hb4.mono hC3.size); obtain ⟨x0, x1, x2, x3⟩ := (hX.belowN hC4).c2))
      | (go_at_call 20; go_must ((with_reducible refine (HRA.out _ (h1.belowN hC4)).mono ?_); rintro e w5 ⟨a5, c5, rfl, hat5, hb5⟩; have hC5 := hC4.trans (hb5.mono hC4.size); have hat4 := hown4.at_.belowN hb5; obtain ⟨y0, y1, y2, y3⟩ := (hX.belowN hC5).c2))
      | (go_at_call 21; go_must ((with_reducible refine (HI.out _ _ _ _ _ hat4 hat5).mono ?_); rintro e w6 ⟨rfl, q6, rfl⟩; have hC6 := below_drewN hC5 q6; obtain ⟨z0, z1, z2, z3⟩ := (hX.belowN hC6).c2))
      | (go_at_call 22; go_must ((with_reducible refine (HS.out _ (h1.belowN hC6) (hr1.belowN hC6) (by omega)).mono ?_); rintro e w7 ⟨rfl, hb7⟩; have hC7 := hC6.trans (hb7.mono hC6.size); obtain ⟨t0, t1, t2, t3⟩ := (hX.belowN hC7).c2))
      | (go_at_call 23; go_must ((with_reducible refine (HRS.out _ (h1.belowN hC7) (hr1.belowN hC7) (by omega)).mono ?_); rintro e w8 ⟨rfl, hb8⟩; have hC8 := hC7.trans (hb8.mono hC7.size)))
      | (go_at_call 16; go_must ((with_reducible refine (goes20_calls _).mono ?_); rintro e w9 ⟨rfl, hb9⟩)))
    go_ret
    exact ⟨rfl, hb0.trans ((hC8.trans (hb9.mono hC8.size)).mono hb0.size)⟩
  have e1 : (S == 0) = false := by simpa using g0
  have e2 : (S != 0) = true := by simpa using g0
  clear g0
  by_cases g4 : 20 < rn
  · go_enter Try.func3, Try.ntmps3
    go_wp2_with (first
      | (go_at_call 15; go_must ((with_reducible refine (HW.out).mono ?_); rintro e w1 ⟨rfl, hC1⟩; have hz1 := hC1.size; obtain ⟨q0, q1, q2, q3⟩ := (hX.belowN hC1).c2))
      | (go_at_call 16; go_must ((with_reducible refine (goes20_calls _).mono ?_); rintro e w9 ⟨rfl, hb9⟩)))
    go_ret
    exact ⟨rfl, hb0.trans ((hC1.trans (hb9.mono hC1.size)).mono hb0.size)⟩
  go_enter Try.func3, Try.ntmps3
  go_wp2_with (first
    | (go_at_call 15; go_must ((with_reducible refine (HW.out).mono ?_); rintro e w1 ⟨rfl, hC1⟩; have hz1 := hC1.size; obtain ⟨q0, q1, q2, q3⟩ := (hX.belowN hC1).c2))
    | (go_at_call 17; go_must ((with_reducible refine (HP.out _ (h1.belowN hC1) (hr1.belowN hC1) (by omega)).mono ?_); rintro e w2 ⟨rfl, hb2⟩; have hC2 := hC1.trans (hb2.mono hC1.size); obtain ⟨u0, u1, u2, u3⟩ := (hX.belowN hC2).c2))
    | (go_at_call 18; go_must ((with_reducible refine (HRP.out _ (h1.belowN hC2) (hr1.belowN hC2) (by omega)).mono ?_); rintro e w3 ⟨rfl, hb3⟩; have hC3 := hC2.trans (hb3.mono hC2.size); obtain ⟨v0, v1, v2, v3⟩ := (hX.belowN hC3).c2))
    | (go_at_call 19; go_must ((with_reducible refine (HA.out _ (h1.belowN hC3)).mono ?_); rintro e w4 ⟨a4, c4, rfl, hown4, hb4⟩; have hC4 := hC3.trans (hb4.mono hC3.size); obtain ⟨x0, x1, x2, x3⟩ := (hX.belowN hC4).c2))
    | (go_at_call 20; go_must ((with_reducible refine (HRA.out _ (h1.belowN hC4)).mono ?_); rintro e w5 ⟨a5, c5, rfl, hat5, hb5⟩; have hC5 := hC4.trans (hb5.mono hC4.size); have hat4 := hown4.at_.belowN hb5; obtain ⟨y0, y1, y2, y3⟩ := (hX.belowN hC5).c2))
    | (go_at_call 21; go_must ((with_reducible refine (HI.out _ _ _ _ _ hat4 hat5).mono ?_); rintro e w6 ⟨rfl, q6, rfl⟩; have hC6 := below_drewN hC5 q6; obtain ⟨z0, z1, z2, z3⟩ := (hX.belowN hC6).c2))
    | (go_at_call 22; go_must ((with_reducible refine (HS.out _ (h1.belowN hC6) (hr1.belowN hC6) (by omega)).mono ?_); rintro e w7 ⟨rfl, hb7⟩; have hC7 := hC6.trans (hb7.mono hC6.size); obtain ⟨t0, t1, t2, t3⟩ := (hX.belowN hC7).c2))
    | (go_at_call 23; go_must ((with_reducible refine (HRS.out _ (h1.belowN hC7) (hr1.belowN hC7) (by omega)).mono ?_); rintro e w8 ⟨rfl, hb8⟩; have hC8 := hC7.trans (hb8.mono hC7.size)))
    | (go_at_call 16; go_must ((with_reducible refine (goes20_calls _).mono ?_); rintro e w9 ⟨rfl, hb9⟩)))
  go_ret
  exact ⟨rfl, hb0.trans ((hC8.trans (hb9.mono hC8.size)).mono hb0.size)⟩
end Go.Proofs.Ythncfoompoheoaa
