/- The walks of chapter 5: the document's reader, and the program's. -/
import Derived.Test.YtgakjkeigoiekaaW5a
namespace Go.Proofs.Ytgakjkeigoiekaa
set_option linter.unusedVariables false
set_option linter.unusedSimpArgs false
open Go.RowKit

/-- What a reader of the words `l`, standing at `at_` with the error `e`, answers when it is asked for a word. -/
def wordS (l : List UInt64) (at_ : Nat) (e : Int) : UInt64 × Nat × Int :=
  if e = 0 then (match l[at_]? with | none => (0, at_, 4) | some x => (x, at_ + 1, 0)) else (0, at_, e)
def intS (l : List UInt64) (at_ : Nat) (e : Int) (most : Int) : Int × Nat × Int :=
  if (wordS l at_ e).2.2 = 0 then (if most < 0 ∨ most < (wordS l at_ e).1.toNat then (0, at_, 2) else ((wordS l at_ e).1.toNat, (wordS l at_ e).2)) else (0, (wordS l at_ e).2)
def listS (l : List UInt64) (at_ : Nat) (e : Int) (most : Int) : List UInt64 × Nat × Int :=
  if (intS l at_ e most).2.2 = 0 then (if l.length - (intS l at_ e most).2.1 < (intS l at_ e most).1.toNat then ([], at_, 4) else ((l.drop (intS l at_ e most).2.1).take (intS l at_ e most).1.toNat, (intS l at_ e most).2.1 + (intS l at_ e most).1.toNat, 0)) else ([], (intS l at_ e most).2)

set_option maxHeartbeats 400000 in
theorem Word5_calls (a : Option Addr) (c : Nat) (l : List UInt64) (at_ : Nat) (e : Int) (w : World) (h : At w a l) (hl : l.length ≤ 1000000) (hat : at_ ≤ l.length) :
    Calls Try.prog 41 #[.agg #[.slice a l.length c, .int .i64 at_, .int .i64 e]] w fun r w' => r = .returned (.tuple #[.int .u64 ((wordS l at_ e).1.toNat : Int), .agg #[.slice a l.length c, .int .i64 (wordS l at_ e).2.1, .int .i64 (wordS l at_ e).2.2]]) ∧ Below w.heap.size w w' := by
  by_cases he : e = 0
  · by_cases hlt : at_ < l.length
    · obtain ⟨b, off, x, rfl, hx, hc⟩ := h.getU (Below.refl _ _) hlt
      have hb := World.block_lt_of_cell? w _ hc
      have hs : wordS l at_ e = (x, at_ + 1, 0) := by simp [wordS, he, hx.out]
      rw [hs]
      subst he
      clear hs
      go_enter Try.func41, Try.ntmps41
      go_wp2
      go_region
      go_wp2
      exact bodyPost_ret (v := .tuple #[.int .u64 (x.toNat : Int), .agg #[.slice (some ⟨b, off, none⟩) l.length c, .int .i64 (at_ + 1 : Nat), .int .i64 0]]) (by simp [results, Try.results41, go_sem]) rfl ⟨rfl, (by with_reducible repeat first | exact Below.refl _ _ | assumption | refine below_drewN ?_ _ | refine Below.drew ?_ | refine Below.alloc ?_ (by simp <;> omega) _ | refine Below.setCell ?_ (by simp <;> omega) _)⟩
    · have hs : wordS l at_ e = (0, at_, 4) := by simp [wordS, he, List.getElem?_eq_none (show l.length ≤ at_ by omega)]
      rw [hs]
      subst he
      clear hs
      go_enter Try.func41, Try.ntmps41
      go_wp2
      go_region
      go_wp2
      exact bodyPost_ret (v := .tuple #[.int .u64 0, .agg #[.slice a l.length c, .int .i64 (at_ : Nat), .int .i64 4]]) (by simp [results, Try.results41, go_sem]) rfl ⟨rfl, (by with_reducible repeat first | exact Below.refl _ _ | assumption | refine below_drewN ?_ _ | refine Below.drew ?_ | refine Below.alloc ?_ (by simp <;> omega) _ | refine Below.setCell ?_ (by simp <;> omega) _)⟩
  · have hs : wordS l at_ e = (0, at_, e) := by simp [wordS, he]
    rw [hs]
    have he' : (e != 0) = true := by simpa using he
    clear hs
    go_enter Try.func41, Try.ntmps41
    go_wp2
    go_region
    go_wp2
    exact bodyPost_ret (v := .tuple #[.int .u64 0, .agg #[.slice a l.length c, .int .i64 (at_ : Nat), .int .i64 e]]) (by simp [results, Try.results41, go_sem]) rfl ⟨rfl, (by with_reducible repeat first | exact Below.refl _ _ | assumption | refine below_drewN ?_ _ | refine Below.drew ?_ | refine Below.alloc ?_ (by simp <;> omega) _ | refine Below.setCell ?_ (by simp <;> omega) _)⟩

theorem wordS_at (l : List UInt64) (at_ : Nat) (e : Int) (h : at_ ≤ l.length) : (wordS l at_ e).2.1 ≤ l.length ∧ at_ ≤ (wordS l at_ e).2.1 := by
  unfold wordS
  split
  · cases hx : l[at_]? with
    | none => exact ⟨h, Nat.le_refl _⟩
    | some x => have := (List.getElem?_eq_some_iff.1 hx).1; exact ⟨by simp; omega, by simp⟩
  · exact ⟨h, Nat.le_refl _⟩

set_option maxHeartbeats 400000 in
theorem Int5_calls (a : Option Addr) (c : Nat) (l : List UInt64) (at_ : Nat) (e : Int) (most : Int) (w : World) (h : At w a l) (hl : l.length ≤ 1000000) (hat : at_ ≤ l.length) (hm1 : -9223372036854775808 ≤ most) (hm2 : most ≤ 9223372036854775807) :
    Calls Try.prog 42 #[.agg #[.slice a l.length c, .int .i64 at_, .int .i64 e], .int .i64 most] w fun r w' => r = .returned (.tuple #[.int .i64 (intS l at_ e most).1, .agg #[.slice a l.length c, .int .i64 (intS l at_ e most).2.1, .int .i64 (intS l at_ e most).2.2]]) ∧ Below w.heap.size w w' := by
  rcases hR : wordS l at_ e with ⟨x, p, er⟩
  have hW : ∀ w : World, At w a l → Calls Try.prog 41 #[.agg #[.slice a l.length c, .int .i64 at_, .int .i64 e]] w fun r w' => r = .returned (.tuple #[.int .u64 (x.toNat : Int), .agg #[.slice a l.length c, .int .i64 (p : Int), .int .i64 er]]) ∧ Below w.heap.size w w' := by
    intro w h
    have := Word5_calls a c l at_ e w h hl hat
    rw [hR] at this
    exact this
  have HW := hide hW
  have hx := x.toNat_lt
  by_cases her : er = 0
  · by_cases hx : most < 0 ∨ most < x.toNat
    · have hs : intS l at_ e most = (0, at_, 2) := by simp [intS, hR, her, hx]
      rw [hs]
      subst her
      clear hs hW hR
      rcases Int.lt_or_le most 0 with hm | hm
      all_goals
        have hxx : most < 0 ∨ most < x.toNat := hx
        clear hx
        go_enter Try.func42, Try.ntmps42
        go_wp2_with (go_at_call 41; refine (HW.out _ (h.belowN (by with_reducible repeat first | exact Below.refl _ _ | assumption | refine below_drewN ?_ _ | refine Below.drew ?_ | refine Below.alloc ?_ (by simp <;> omega) _ | refine Below.setCell ?_ (by simp <;> omega) _))).mono ?_; rintro e1 w1 ⟨rfl, hb1⟩; have hz0 : w.heap.size + 2 ≤ w1.heap.size := (by have := hb1.size; simpa using this); have hz1 : w.heap.size < w1.heap.size := (by omega); have hz2 : w.heap.size + 1 < w1.heap.size := (by omega); obtain ⟨p0, p1, p2, p3, p4, p5⟩ := (((Blk.new w _ _).alloc _).belowN hb1).c3; obtain ⟨q0, q1, q2, q3, q4, q5⟩ := ((Blk.new (w.alloc _) _ _).belowN hb1).c3; simp only [World.size_alloc] at q0 q1 q2 q3 q4 q5)
        have hB := Below.trans (a := w) (by with_reducible repeat first | exact Below.refl _ _ | assumption | refine below_drewN ?_ _ | refine Below.drew ?_ | refine Below.alloc ?_ (by simp <;> omega) _ | refine Below.setCell ?_ (by simp <;> omega) _) (Below.mono hb1 (B' := w.heap.size) (by simp <;> omega))
        go_region
        go_wp2
        exact bodyPost_ret (v := .tuple #[.int .i64 0, .agg #[.slice a l.length c, .int .i64 (at_ : Nat), .int .i64 2]]) (by simp [results, Try.results42, go_sem, q0, q1, q2, q3, q4, q5, hz1, hz2]) rfl ⟨rfl, (by with_reducible repeat first | exact Below.refl _ _ | assumption | refine below_drewN ?_ _ | refine Below.drew ?_ | refine Below.alloc ?_ (by simp <;> omega) _ | refine Below.setCell ?_ (by simp <;> omega) _)⟩
    · have hs : intS l at_ e most = ((x.toNat : Int), p, 0) := by simp [intS, hR, her, hx]
      rw [hs]
      subst her
      clear hs hW hR
      have hm : ¬ most < 0 := by omega
      have hmx : (x.toNat : Int) ≤ most := by omega
      clear hx
      go_enter Try.func42, Try.ntmps42
      go_wp2_with (go_at_call 41; refine (HW.out _ (h.belowN (by with_reducible repeat first | exact Below.refl _ _ | assumption | refine below_drewN ?_ _ | refine Below.drew ?_ | refine Below.alloc ?_ (by simp <;> omega) _ | refine Below.setCell ?_ (by simp <;> omega) _))).mono ?_; rintro e1 w1 ⟨rfl, hb1⟩; have hz0 : w.heap.size + 2 ≤ w1.heap.size := (by have := hb1.size; simpa using this); have hz1 : w.heap.size < w1.heap.size := (by omega); have hz2 : w.heap.size + 1 < w1.heap.size := (by omega); obtain ⟨p0, p1, p2, p3, p4, p5⟩ := (((Blk.new w _ _).alloc _).belowN hb1).c3; obtain ⟨q0, q1, q2, q3, q4, q5⟩ := ((Blk.new (w.alloc _) _ _).belowN hb1).c3; simp only [World.size_alloc] at q0 q1 q2 q3 q4 q5)
      have hB := Below.trans (a := w) (by with_reducible repeat first | exact Below.refl _ _ | assumption | refine below_drewN ?_ _ | refine Below.drew ?_ | refine Below.alloc ?_ (by simp <;> omega) _ | refine Below.setCell ?_ (by simp <;> omega) _) (Below.mono hb1 (B' := w.heap.size) (by simp <;> omega))
      go_region
      go_wp2
      exact bodyPost_ret (v := .tuple #[.int .i64 (x.toNat : Int), .agg #[.slice a l.length c, .int .i64 (p : Nat), .int .i64 0]]) (by simp [results, Try.results42, go_sem, q0, q1, q2, q3, q4, q5, hz1, hz2]) rfl ⟨rfl, (by with_reducible repeat first | exact Below.refl _ _ | assumption | refine below_drewN ?_ _ | refine Below.drew ?_ | refine Below.alloc ?_ (by simp <;> omega) _ | refine Below.setCell ?_ (by simp <;> omega) _)⟩
  · have hs : intS l at_ e most = (0, p, er) := by simp [intS, hR, her]
    rw [hs]
    have her' : (er != 0) = true := by simpa using her
    clear hs hW hR
    go_enter Try.func42, Try.ntmps42
    go_wp2_with (go_at_call 41; refine (HW.out _ (h.belowN (by with_reducible repeat first | exact Below.refl _ _ | assumption | refine below_drewN ?_ _ | refine Below.drew ?_ | refine Below.alloc ?_ (by simp <;> omega) _ | refine Below.setCell ?_ (by simp <;> omega) _))).mono ?_; rintro e1 w1 ⟨rfl, hb1⟩; have hz0 : w.heap.size + 2 ≤ w1.heap.size := (by have := hb1.size; simpa using this); have hz1 : w.heap.size < w1.heap.size := (by omega); have hz2 : w.heap.size + 1 < w1.heap.size := (by omega); obtain ⟨p0, p1, p2, p3, p4, p5⟩ := (((Blk.new w _ _).alloc _).belowN hb1).c3; obtain ⟨q0, q1, q2, q3, q4, q5⟩ := ((Blk.new (w.alloc _) _ _).belowN hb1).c3; simp only [World.size_alloc] at q0 q1 q2 q3 q4 q5)
    have hB := Below.trans (a := w) (by with_reducible repeat first | exact Below.refl _ _ | assumption | refine below_drewN ?_ _ | refine Below.drew ?_ | refine Below.alloc ?_ (by simp <;> omega) _ | refine Below.setCell ?_ (by simp <;> omega) _) (Below.mono hb1 (B' := w.heap.size) (by simp <;> omega))
    go_region
    go_wp2
    exact bodyPost_ret (v := .tuple #[.int .i64 0, .agg #[.slice a l.length c, .int .i64 (p : Nat), .int .i64 er]]) (by simp [results, Try.results42, go_sem, q0, q1, q2, q3, q4, q5, hz1, hz2]) rfl ⟨rfl, (by with_reducible repeat first | exact Below.refl _ _ | assumption | refine below_drewN ?_ _ | refine Below.drew ?_ | refine Below.alloc ?_ (by simp <;> omega) _ | refine Below.setCell ?_ (by simp <;> omega) _)⟩

theorem intS_at (l : List UInt64) (at_ : Nat) (e : Int) (most : Int) (h : at_ ≤ l.length) : (intS l at_ e most).2.1 ≤ l.length ∧ at_ ≤ (intS l at_ e most).2.1 ∧ 0 ≤ (intS l at_ e most).1 ∧ (intS l at_ e most).1 ≤ 18446744073709551615 := by
  have h1 := wordS_at l at_ e h
  have h2 := (wordS l at_ e).1.toNat_lt
  unfold intS
  split
  · split
    · exact ⟨h, Nat.le_refl _, by simp, by simp⟩
    · exact ⟨h1.1, h1.2, by simp, by simp; omega⟩
  · exact ⟨h1.1, h1.2, by simp, by simp⟩

set_option maxHeartbeats 800000 in
theorem List5_calls (a : Option Addr) (c : Nat) (l : List UInt64) (at_ : Nat) (e : Int) (most : Int) (w : World) (h : At w a l) (hl : l.length ≤ 1000000) (hat : at_ ≤ l.length) (hm1 : -9223372036854775808 ≤ most) (hm2 : most ≤ 9223372036854775807) :
    Calls Try.prog 43 #[.agg #[.slice a l.length c, .int .i64 at_, .int .i64 e], .int .i64 most] w fun r w' => ∃ a1 c1, r = .returned (.tuple #[.slice a1 (listS l at_ e most).1.length c1, .agg #[.slice a l.length c, .int .i64 (listS l at_ e most).2.1, .int .i64 (listS l at_ e most).2.2]]) ∧ Own w' w.heap.size 38 a1 c1 (listS l at_ e most).1 ∧ Below w.heap.size w w' := by
  rcases hR : intS l at_ e most with ⟨n, p, er⟩
  have hp := intS_at l at_ e most hat
  rw [hR] at hp
  obtain ⟨hp1, hp2, hp3, hp4⟩ := hp
  simp only at hp1 hp2 hp3 hp4
  obtain ⟨n, rfl⟩ := Int.eq_ofNat_of_zero_le hp3
  have hW : ∀ w : World, At w a l → Calls Try.prog 42 #[.agg #[.slice a l.length c, .int .i64 at_, .int .i64 e], .int .i64 most] w fun r w' => r = .returned (.tuple #[.int .i64 (n : Int), .agg #[.slice a l.length c, .int .i64 (p : Int), .int .i64 er]]) ∧ Below w.heap.size w w' := by
    intro w h
    have := Int5_calls a c l at_ e most w h hl hat hm1 hm2
    rw [hR] at this
    exact this
  have HW := hide hW
  by_cases her : er = 0
  · by_cases hx : l.length - p < n
    · have hs : listS l at_ e most = ([], at_, 4) := by simp [listS, hR, her, hx]
      rw [hs]
      subst her
      clear hs hW hR hp3 hp4
      go_enter Try.func43, Try.ntmps43
      go_wp2_with (go_at_call 42; refine (HW.out _ (h.belowN (by with_reducible repeat first | exact Below.refl _ _ | assumption | refine below_drewN ?_ _ | refine Below.drew ?_ | refine Below.alloc ?_ (by simp <;> omega) _ | refine Below.setCell ?_ (by simp <;> omega) _))).mono ?_; rintro e1 w1 ⟨rfl, hb1⟩; have hz0 : w.heap.size + 2 ≤ w1.heap.size := (by have := hb1.size; simpa using this); have hz1 : w.heap.size < w1.heap.size := (by omega); have hz2 : w.heap.size + 1 < w1.heap.size := (by omega); obtain ⟨p0, p1, p2, p3, p4, p5⟩ := (((Blk.new w _ _).alloc _).belowN hb1).c3; obtain ⟨q0, q1, q2, q3, q4, q5⟩ := ((Blk.new (w.alloc _) _ _).belowN hb1).c3; simp only [World.size_alloc] at q0 q1 q2 q3 q4 q5)
      have hB := Below.trans (a := w) (by with_reducible repeat first | exact Below.refl _ _ | assumption | refine below_drewN ?_ _ | refine Below.drew ?_ | refine Below.alloc ?_ (by simp <;> omega) _ | refine Below.setCell ?_ (by simp <;> omega) _) (Below.mono hb1 (B' := w.heap.size) (by simp <;> omega))
      go_region
      go_wp2
      exact bodyPost_ret (v := .tuple #[.slice none 0 0, .agg #[.slice a l.length c, .int .i64 (at_ : Nat), .int .i64 4]]) (by simp [results, Try.results43, go_sem, q0, q1, q2, q3, q4, q5, hz1, hz2]) rfl ⟨none, 0, rfl, Own.none _ _ _, (by with_reducible repeat first | exact Below.refl _ _ | assumption | refine below_drewN ?_ _ | refine Below.drew ?_ | refine Below.alloc ?_ (by simp <;> omega) _ | refine Below.setCell ?_ (by simp <;> omega) _)⟩
    · have hs : listS l at_ e most = ((l.drop p).take n, p + n, 0) := by simp [listS, hR, her, hx]
      rw [hs]
      subst her
      clear hs hW hR hp3 hp4
      have hn : n ≤ l.length - p := by omega
      go_enter Try.func43, Try.ntmps43
      go_wp2_with (go_at_call 42; refine (HW.out _ (h.belowN (by with_reducible repeat first | exact Below.refl _ _ | assumption | refine below_drewN ?_ _ | refine Below.drew ?_ | refine Below.alloc ?_ (by simp <;> omega) _ | refine Below.setCell ?_ (by simp <;> omega) _))).mono ?_; rintro e1 w1 ⟨rfl, hb1⟩; have hz0 : w.heap.size + 2 ≤ w1.heap.size := (by have := hb1.size; simpa using this); have hz1 : w.heap.size < w1.heap.size := (by omega); have hz2 : w.heap.size + 1 < w1.heap.size := (by omega); have PB := (((Blk.new w _ _).alloc _).belowN hb1); have QB := ((Blk.new (w.alloc _) _ _).belowN hb1); simp only [World.size_alloc] at QB; obtain ⟨p0, p1, p2, p3, p4, p5⟩ := PB.c3; obtain ⟨q0, q1, q2, q3, q4, q5⟩ := QB.c3)
      have hB := Below.trans (a := w) (by with_reducible repeat first | exact Below.refl _ _ | assumption | refine below_drewN ?_ _ | refine Below.drew ?_ | refine Below.alloc ?_ (by simp <;> omega) _ | refine Below.setCell ?_ (by simp <;> omega) _) (Below.mono hb1 (B' := w.heap.size) (by simp <;> omega))
      obtain ⟨X, hX⟩ : ∃ X : Obj, X = .cells #[.slice a l.length c, .int .i64 (p : Int), .int .i64 0] 77 := ⟨_, rfl⟩
      go_loopw [8, 9] (fun out i wr => ∃ (a2 : Option Addr) (c2 k : Nat), out = .slice a2 k c2 ∧ i = .int .i64 k ∧ k ≤ n ∧ Own wr (w1.heap.size + 1) 38 a2 c2 ((l.drop p).take k) ∧ Below (w1.heap.size + 1) (w1.alloc (.cells #[.slice a l.length c, .int .i64 (p : Int), .int .i64 0] 77)) wr)
        (fun _ i _ => n - (intOf i).toNat)
      case atStart => exact ⟨_, 0, 0, rfl, rfl, by omega, by simpa using Own.new (w1.alloc _) (by simp) _ UInt64, (by with_reducible repeat first | exact Below.refl _ _ | assumption | refine below_drewN ?_ _ | refine Below.drew ?_ | refine Below.alloc ?_ (by simp <;> omega) _ | refine Below.setCell ?_ (by simp <;> omega) _)⟩
      case round =>
        obtain ⟨a2, c2, k, rfl, rfl, hk, hown, hbel⟩ := hrel
        have hs0 : w1.heap.size + 1 ≤ wr.heap.size := by have := hbel.size; simpa using this
        have hs1 : w.heap.size < wr.heap.size := by omega
        have hs2 : w.heap.size + 1 < wr.heap.size := by omega
        have hs3 : w1.heap.size < wr.heap.size := by omega
        obtain ⟨r0, r1, r2, r3, r4, r5⟩ := ((PB.alloc _).below hbel (by omega)).c3
        obtain ⟨t0, t1, t2, t3, t4, t5⟩ := ((QB.alloc _).below hbel (by omega)).c3
        obtain ⟨u0, u1, u2, u3, u4, u5⟩ := ((Blk.new w1 _ _).below hbel (by omega)).c3
        have hBw : Below w.heap.size w wr := Below.trans (Below.alloc hB (by omega) _) (hbel.mono (by omega))
        by_cases hlt : k < n
        · obtain ⟨b, off, x, rfl, hx, hc⟩ := h.getU hBw (k := p + k) (by omega)
          have hpk : p + k < l.length := by omega
          go_wp2_with (at_builtin; refine wpList_push tyU hown x rfl rfl (by simp [Flat.enc]) rfl rfl rfl (by simp; omega) (by omega) (by omega) ?_; intro a5 c5 w5 hown5 hg5 _)
          have ht : (l.drop p).take (k + 1) = (l.drop p).take k ++ [x] := by rw [List.take_add_one, List.getElem?_drop, hx.out]; rfl
          go_roundw
          case rel => exact ⟨a5, c5, k + 1, by simp, by go_num, by omega, by rw [ht]; exact hown5, below_push hbel hown hg5 hs0⟩
          case measure => simp [intOf]; omega
        · have ek : k = n := by omega
          subst ek
          have hlen : ((l.drop p).take k).length = k := by simp; omega
          go_wp2
          go_region
          go_wp2
          exact bodyPost_ret (v := .tuple #[.slice a2 k c2, .agg #[.slice a l.length c, .int .i64 (p + k : Nat), .int .i64 0]]) (by simp [results, Try.results43, go_sem, t0, t1, t2, t3, t4, t5, u0, u1, u2, u3, u4, u5, hs1, hs2, hs3]) rfl ⟨a2, c2, by rw [hlen], Own.mono (B := w1.heap.size + 1) (by with_reducible repeat first | assumption | refine Own.drew ?_ | refine Own.drewN ?_ _ | refine Own.setCell ?_ (by simp <;> omega) _ | refine Own.alloc ?_ _) (by omega), (by with_reducible repeat first | exact Below.refl _ _ | assumption | refine below_drewN ?_ _ | refine Below.drew ?_ | refine Below.alloc ?_ (by simp <;> omega) _ | refine Below.setCell ?_ (by simp <;> omega) _)⟩
  · have hs : listS l at_ e most = ([], p, er) := by simp [listS, hR, her]
    rw [hs]
    have her' : (er != 0) = true := by simpa using her
    clear hs hW hR
    go_enter Try.func43, Try.ntmps43
    go_wp2_with (go_at_call 42; refine (HW.out _ (h.belowN (by with_reducible repeat first | exact Below.refl _ _ | assumption | refine below_drewN ?_ _ | refine Below.drew ?_ | refine Below.alloc ?_ (by simp <;> omega) _ | refine Below.setCell ?_ (by simp <;> omega) _))).mono ?_; rintro e1 w1 ⟨rfl, hb1⟩; have hz0 : w.heap.size + 2 ≤ w1.heap.size := (by have := hb1.size; simpa using this); have hz1 : w.heap.size < w1.heap.size := (by omega); have hz2 : w.heap.size + 1 < w1.heap.size := (by omega); obtain ⟨p0, p1, p2, p3, p4, p5⟩ := (((Blk.new w _ _).alloc _).belowN hb1).c3; obtain ⟨q0, q1, q2, q3, q4, q5⟩ := ((Blk.new (w.alloc _) _ _).belowN hb1).c3; simp only [World.size_alloc] at q0 q1 q2 q3 q4 q5)
    have hB := Below.trans (a := w) (by with_reducible repeat first | exact Below.refl _ _ | assumption | refine below_drewN ?_ _ | refine Below.drew ?_ | refine Below.alloc ?_ (by simp <;> omega) _ | refine Below.setCell ?_ (by simp <;> omega) _) (Below.mono hb1 (B' := w.heap.size) (by simp <;> omega))
    go_region
    go_wp2
    exact bodyPost_ret (v := .tuple #[.slice none 0 0, .agg #[.slice a l.length c, .int .i64 (p : Nat), .int .i64 er]]) (by simp [results, Try.results43, go_sem, q0, q1, q2, q3, q4, q5, hz1, hz2]) rfl ⟨none, 0, rfl, Own.none _ _ _, (by with_reducible repeat first | exact Below.refl _ _ | assumption | refine below_drewN ?_ _ | refine Below.drew ?_ | refine Below.alloc ?_ (by simp <;> omega) _ | refine Below.setCell ?_ (by simp <;> omega) _)⟩

end Go.Proofs.Ytgakjkeigoiekaa
