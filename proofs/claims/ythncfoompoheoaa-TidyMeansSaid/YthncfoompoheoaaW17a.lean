/- Chapter 17: a list without some of its places (tidy.sift), and what tells which. -/
import Derived.Test.YthncfoompoheoaaTe
import Derived.Test.YthncfoompoheoaaL16i
namespace Go.Proofs.Ythncfoompoheoaa
set_option linter.unusedVariables false
set_option linter.unusedSimpArgs false
open Go.RowKit

/-- the places that stay -/
def pickF (st : Nat → Bool) : Nat → List OpD → List OpD
  | _, [] => []
  | o, x :: r => if st o = true then x :: pickF st (o + 1) r else pickF st (o + 1) r
theorem pickF_append (st : Nat → Bool) (a b : List OpD) (o : Nat) : pickF st o (a ++ b) = pickF st o a ++ pickF st (o + a.length) b := by
  induction a generalizing o with
  | nil => rfl
  | cons x r ih =>
    simp only [List.cons_append, pickF, List.length_cons, ih]
    rw [show o + 1 + r.length = o + (r.length + 1) by omega]
    split <;> rfl
theorem pickF_snoc (st : Nat → Bool) (l : List OpD) (k : Nat) (x : OpD) (h : l[k]? = some x) : pickF st 0 (l.take (k + 1)) = if st k = true then pickF st 0 (l.take k) ++ [x] else pickF st 0 (l.take k) := by
  have hk : k < l.length := (List.getElem?_eq_some_iff.1 h).1
  rw [List.take_add_one, h, pickF_append, List.length_take, Nat.zero_add, Nat.min_eq_left (by omega)]
  simp only [Option.toList, pickF]
  split <;> simp
theorem pickF_length (st : Nat → Bool) (l : List OpD) (o : Nat) : (pickF st o l).length ≤ l.length := by
  induction l generalizing o with
  | nil => exact Nat.le_refl _
  | cons x r ih =>
    unfold pickF
    split
    · simp only [List.length_cons]; have := ih (o + 1); omega
    · simp only [List.length_cons]; have := ih (o + 1); omega
theorem pickF_stays (keep st : Nat → Bool) (l : List OpD) (o : Nat) (h : ∀ k x, l[k]? = some x → st (o + k) = (keep (o + k) || (decide (x.kind = 7) || decide (x.kind = 0)))) : pickF st o l = staysF keep o l := by
  induction l generalizing o with
  | nil => rfl
  | cons x r ih =>
    have h0 := h 0 x rfl
    rw [Nat.add_zero] at h0
    unfold pickF staysF
    rw [h0, ih (o + 1) (fun k y hy => by
      have := h (k + 1) y (by simpa using hy)
      rwa [show o + (k + 1) = o + 1 + k by omega] at this)]
theorem pickF_gone (st : Nat → Bool) (l : List OpD) : ∀ (g : List Bool) (o : Nat), g.length = l.length → (∀ k b, g[k]? = some b → st (o + k) = !b) → pickF st o l = staysG g l := by
  induction l with
  | nil =>
    intro g o h1 h2
    cases g <;> rfl
  | cons x r ih =>
    intro g o h1 h2
    cases g with
    | nil => cases h1
    | cons b g =>
      have h0 := h2 0 b rfl
      rw [Nat.add_zero] at h0
      unfold pickF staysG
      rw [h0, ih g (o + 1) (by simpa using h1) (fun k y hy => by
        have := h2 (k + 1) y (by simpa using hy)
        rwa [show o + (k + 1) = o + 1 + k by omega] at this)]
      cases b <;> rfl
set_option maxHeartbeats 1600000 in
theorem bracket_calls (x : OpD) (w : World) : Calls Try.prog 89 #[.agg #[.int .i64 x.kind, .int .i64 x.d, .int .i64 x.a, .int .i64 x.b, .int .u64 (x.v.toNat : Int)]] w fun e w' => e = .returned (.bool (decide (x.kind = 7) || decide (x.kind = 0))) ∧ Below w.heap.size w w' := by
  have hb := below_new12 w (.cells #[.int .i64 x.kind, .int .i64 x.d, .int .i64 x.a, .int .i64 x.b, .int .u64 (x.v.toNat : Int)] 99)
  by_cases h7 : x.kind = 7
  · have k7 : (x.kind == 7) = true := by simpa using h7
    have e : (decide (x.kind = 7) || decide (x.kind = 0)) = true := by simp [h7]
    rw [e]
    clear e h7
    go_enter Try.func89, Try.ntmps89
    go_wp2
    go_ret
    exact ⟨rfl, hb⟩
  · have k7 : (x.kind == 7) = false := by simpa using h7
    have e : (decide (x.kind = 7) || decide (x.kind = 0)) = decide (x.kind = 0) := by simp [h7]
    rw [e]
    clear e h7
    by_cases h0 : x.kind = 0
    · have k0 : (x.kind == 0) = true := by simpa using h0
      have e : decide (x.kind = 0) = true := by simp [h0]
      rw [e]
      clear e h0
      go_enter Try.func89, Try.ntmps89
      go_wp2
      go_ret
      exact ⟨rfl, hb⟩
    · have k0 : (x.kind == 0) = false := by simpa using h0
      have e : decide (x.kind = 0) = false := by simp [h0]
      rw [e]
      clear e h0
      go_enter Try.func89, Try.ntmps89
      go_wp2
      go_ret
      exact ⟨rfl, hb⟩
theorem getB_eq {w wr : World} {a : Option Addr} {l : List Bool} (h : At w a l) (hb : Below w.heap.size w wr) {k : Nat} {x : Bool} (hk : l[k]? = some x) :
    ∃ b off, a = some ⟨b, off, none⟩ ∧ wr.cell? ⟨b, off + k, none⟩ = some (.bool x) := by
  obtain ⟨b, off, y, e, hy, h0⟩ := h.getBo hb (List.getElem?_eq_some_iff.1 hk).1
  obtain rfl : x = y := by have := hk.symm.trans hy.out; simpa using this
  exact ⟨b, off, e, h0⟩
set_option maxHeartbeats 1600000 in
theorem SiftClo_calls (regs : Int) (a : Option Addr) (c n : Nat) (l : List OpD) (hn : n = l.length) (oa : Option Addr) (oc m : Nat) (O : List Bool) (hm : m = O.length) (go gp : Nat) (k : Nat) (x : OpD) (o : Bool) (hx : l[k]? = some x) (ho : O[k]? = some o) (hl : n ≤ 1000000) (w : World) (h : At w a l) (hO : At w oa O) (hG : Blk w go 138 #[.slice oa m oc]) (hP : Blk w gp 24 #[.int .i64 regs, .slice a n c]) :
    Calls Try.prog 88 #[.int .i64 k, .pointer (some ⟨go, 0, none⟩), .pointer (some ⟨gp, 0, none⟩)] w fun e w' => e = .returned (.bool (o || (decide (x.kind = 7) || decide (x.kind = 0)))) ∧ Below w.heap.size w w' := by
  have hk : k < n := by rw [hn]; exact (List.getElem?_eq_some_iff.1 hx).1
  have hkm : k < m := by rw [hm]; exact (List.getElem?_eq_some_iff.1 ho).1
  obtain ⟨b1, off1, rfl, x0, x1, x2, x3, x4⟩ := getOp_eq h (Below.refl _ _) hx
  obtain ⟨b2, off2, rfl, y0⟩ := getB_eq hO (Below.refl _ _) ho
  obtain ⟨g0, _⟩ := hG.c1
  obtain ⟨p0, p1, _⟩ := hP.c2
  have HB := hide (fun W => bracket_calls x W)
  clear hn hm hx ho
  cases o with
  | true =>
    rw [Bool.true_or]
    go_enter Try.func88, Try.ntmps88
    go_wp2
    go_ret
    exact ⟨rfl, Below.refl _ _⟩
  | false =>
    rw [Bool.false_or]
    obtain ⟨R, hR⟩ : ∃ R, (decide (x.kind = 7) || decide (x.kind = 0)) = R := ⟨_, rfl⟩
    rw [hR] at HB ⊢
    clear hR
    go_enter Try.func88, Try.ntmps88
    go_wp2_with (go_at_call 89; go_must ((with_reducible refine (HB.out _).mono ?_); rintro e w2 ⟨rfl, hb2⟩))
    go_ret
    exact ⟨rfl, hb2⟩
set_option maxRecDepth 100000 in
set_option maxHeartbeats 1600000 in
theorem siftS_calls (x1 x2 : Value) (a : Option Addr) (c ln : Nat) (l : List OpD) (hln : ln = l.length) (st : Nat → Bool) (w : World) (h : At w a l) (hl : ln ≤ 1000000)
    (hst : ∀ k, k < ln → ∀ W, Below w.heap.size w W → Calls Try.prog 88 #[.int .i64 k, x1, x2] W fun e W' => e = .returned (.bool (st k)) ∧ Below W.heap.size W W') :
    Calls Try.prog 87 #[.slice a ln c, .func (.func 88) #[] #[x1, x2]] w fun e w' => ∃ a' c' n, e = .returned (.slice a' n c') ∧ n = (pickF st 0 l).length ∧ Own w' w.heap.size 99 a' c' (pickF st 0 l) ∧ Below w.heap.size w w' := by
  have HLN := hide hln
  have HST := hide hst
  have HLE := hide (fun k => (pickF_length st (l.take k) 0))
  clear hln hst
  go_enter Try.func87, Try.ntmps87
  go_wp2
  go_loopw [5, 10] (fun ov iv wr => ∃ (k m : Nat) (ao : Option Addr) (co : Nat), iv = .int .i64 k ∧ k ≤ ln ∧ ov = .slice ao m co ∧ m ≤ k ∧ Hid (m = (pickF st 0 (l.take k)).length) ∧ Own wr w.heap.size 99 ao co (pickF st 0 (l.take k)) ∧ Below w.heap.size w wr) (fun _ iv _ => ln - (intOf iv).toNat)
  case atStart => exact ⟨0, 0, _, _, rfl, by omega, rfl, by omega, by show _ = _; rfl, Own.none _ _ _, Below.refl _ _⟩
  case round =>
    obtain ⟨k, m, ao, co, rfl, hk, rfl, hmk, hm, hown, hb⟩ := hrel
    have hzr := hb.size
    by_cases hlt : k < ln
    · obtain ⟨b1, off1, x, rfl, hx, x0, x1, x2, x3, x4⟩ := h.getOp hb (by rw [← HLN.out]; exact hlt)
      have HP := hide (pickF_snoc st l k x hx.out)
      have hbn := below_new12 wr (.cells #[.int .i64 x.kind, .int .i64 x.d, .int .i64 x.a, .int .i64 x.b, .int .u64 (x.v.toNat : Int)] 99)
      have hbB := hb.trans (hbn.mono hzr)
      have hX := Blk.new wr 99 #[.int .i64 x.kind, .int .i64 x.d, .int .i64 x.a, .int .i64 x.b, .int .u64 (x.v.toNat : Int)]
      have hownA := hown.belowN hbn
      obtain ⟨sk, hsk⟩ : ∃ s, st k = s := ⟨_, rfl⟩
      have HC := hide (HST.out k hlt _ hbB)
      rw [hsk] at HC HP
      clear hsk
      cases sk with
      | false =>
        go_wp2_with (go_at_call 88; go_must ((with_reducible refine (HC.out).mono ?_); rintro e w2 ⟨rfl, hb2⟩; have hB2 := hbB.trans (hb2.mono hbB.size); have hown2 := hownA.belowN hb2))
        go_roundw
        case rel => exact ⟨k + 1, m, ao, co, by go_num, by omega, rfl, by omega, by show _ = _; rw [HP.out]; exact hm.out, by rw [HP.out]; exact hown2, hB2⟩
        case measure => simp [intOf]; omega
      | true =>
        go_wp2_with (first
          | (at_builtin; refine wpList_push tyO hown2 x rfl rfl rfl rfl rfl (by simp) hm.out hB2.size (by omega) ?_; intro a3 c3 w3 hown3 hg3 _)
          | (go_at_call 88; go_must ((with_reducible refine (HC.out).mono ?_); rintro e w2 ⟨rfl, hb2⟩; have hB2 := hbB.trans (hb2.mono hbB.size); have hown2 := hownA.belowN hb2; obtain ⟨z0, z1, z2, z3, z4, _⟩ := (hX.belowN hb2).c5)))
        go_roundw
        case rel => exact ⟨k + 1, m + 1, a3, c3, by go_num, by omega, rfl, by omega, by show _ = _; rw [HP.out]; simp [hm.out], by rw [HP.out]; exact hown3, below_push hB2 hown2 hg3 hB2.size⟩
        case measure => simp [intOf]; omega
    · obtain rfl : ln = k := by omega
      have hE : l.take ln = l := by rw [HLN.out]; exact List.take_length
      rw [hE] at hm hown
      go_wp2
      go_ret
      exact ⟨ao, co, m, rfl, hm.out, hown, hb⟩
set_option maxHeartbeats 1600000 in
theorem OpenClo_calls (oa : Option Addr) (oc m : Nat) (O : List Bool) (hm : m = O.length) (go : Nat) (k : Nat) (o : Bool) (ho : O[k]? = some o) (hl : m ≤ 1000000) (w : World) (hO : At w oa O) (hG : Blk w go 138 #[.slice oa m oc]) :
    Calls Try.prog 94 #[.int .i64 k, .pointer (some ⟨go, 0, none⟩)] w fun e w' => e = .returned (.bool (!o)) ∧ Below w.heap.size w w' := by
  have hkm : k < m := by rw [hm]; exact (List.getElem?_eq_some_iff.1 ho).1
  obtain ⟨b2, off2, rfl, y0⟩ := getB_eq hO (Below.refl _ _) ho
  obtain ⟨g0, _⟩ := hG.c1
  clear hm ho
  go_enter Try.func94, Try.ntmps94
  go_wp2
  go_ret
  exact ⟨rfl, Below.refl _ _⟩
set_option maxRecDepth 100000 in
set_option maxHeartbeats 1600000 in
theorem siftO_calls (x1 : Value) (a : Option Addr) (c ln : Nat) (l : List OpD) (hln : ln = l.length) (st : Nat → Bool) (w : World) (h : At w a l) (hl : ln ≤ 1000000)
    (hst : ∀ k, k < ln → ∀ W, Below w.heap.size w W → Calls Try.prog 94 #[.int .i64 k, x1] W fun e W' => e = .returned (.bool (st k)) ∧ Below W.heap.size W W') :
    Calls Try.prog 87 #[.slice a ln c, .func (.func 94) #[] #[x1]] w fun e w' => ∃ a' c' n, e = .returned (.slice a' n c') ∧ n = (pickF st 0 l).length ∧ Own w' w.heap.size 99 a' c' (pickF st 0 l) ∧ Below w.heap.size w w' := by
  have HLN := hide hln
  have HST := hide hst
  have HLE := hide (fun k => (pickF_length st (l.take k) 0))
  clear hln hst
  go_enter Try.func87, Try.ntmps87
  go_wp2
  go_loopw [5, 10] (fun ov iv wr => ∃ (k m : Nat) (ao : Option Addr) (co : Nat), iv = .int .i64 k ∧ k ≤ ln ∧ ov = .slice ao m co ∧ m ≤ k ∧ Hid (m = (pickF st 0 (l.take k)).length) ∧ Own wr w.heap.size 99 ao co (pickF st 0 (l.take k)) ∧ Below w.heap.size w wr) (fun _ iv _ => ln - (intOf iv).toNat)
  case atStart => exact ⟨0, 0, _, _, rfl, by omega, rfl, by omega, by show _ = _; rfl, Own.none _ _ _, Below.refl _ _⟩
  case round =>
    obtain ⟨k, m, ao, co, rfl, hk, rfl, hmk, hm, hown, hb⟩ := hrel
    have hzr := hb.size
    by_cases hlt : k < ln
    · obtain ⟨b1, off1, x, rfl, hx, x0, x1, x2, x3, x4⟩ := h.getOp hb (by rw [← HLN.out]; exact hlt)
      have HP := hide (pickF_snoc st l k x hx.out)
      have hbn := below_new12 wr (.cells #[.int .i64 x.kind, .int .i64 x.d, .int .i64 x.a, .int .i64 x.b, .int .u64 (x.v.toNat : Int)] 99)
      have hbB := hb.trans (hbn.mono hzr)
      have hX := Blk.new wr 99 #[.int .i64 x.kind, .int .i64 x.d, .int .i64 x.a, .int .i64 x.b, .int .u64 (x.v.toNat : Int)]
      have hownA := hown.belowN hbn
      obtain ⟨sk, hsk⟩ : ∃ s, st k = s := ⟨_, rfl⟩
      have HC := hide (HST.out k hlt _ hbB)
      rw [hsk] at HC HP
      clear hsk
      cases sk with
      | false =>
        go_wp2_with (go_at_call 94; go_must ((with_reducible refine (HC.out).mono ?_); rintro e w2 ⟨rfl, hb2⟩; have hB2 := hbB.trans (hb2.mono hbB.size); have hown2 := hownA.belowN hb2))
        go_roundw
        case rel => exact ⟨k + 1, m, ao, co, by go_num, by omega, rfl, by omega, by show _ = _; rw [HP.out]; exact hm.out, by rw [HP.out]; exact hown2, hB2⟩
        case measure => simp [intOf]; omega
      | true =>
        go_wp2_with (first
          | (at_builtin; refine wpList_push tyO hown2 x rfl rfl rfl rfl rfl (by simp) hm.out hB2.size (by omega) ?_; intro a3 c3 w3 hown3 hg3 _)
          | (go_at_call 94; go_must ((with_reducible refine (HC.out).mono ?_); rintro e w2 ⟨rfl, hb2⟩; have hB2 := hbB.trans (hb2.mono hbB.size); have hown2 := hownA.belowN hb2; obtain ⟨z0, z1, z2, z3, z4, _⟩ := (hX.belowN hb2).c5)))
        go_roundw
        case rel => exact ⟨k + 1, m + 1, a3, c3, by go_num, by omega, rfl, by omega, by show _ = _; rw [HP.out]; simp [hm.out], by rw [HP.out]; exact hown3, below_push hB2 hown2 hg3 hB2.size⟩
        case measure => simp [intOf]; omega
    · obtain rfl : ln = k := by omega
      have hE : l.take ln = l := by rw [HLN.out]; exact List.take_length
      rw [hE] at hm hown
      go_wp2
      go_ret
      exact ⟨ao, co, m, rfl, hm.out, hown, hb⟩
end Go.Proofs.Ythncfoompoheoaa
