/- Chapter 5: what must come at any rate; whether lists are small; the law WordsFrames. -/
import Derived.Test.YtgakjkeigoiekaaW5c
namespace Go.Proofs.Ytgakjkeigoiekaa
set_option linter.unusedVariables false
set_option linter.unusedSimpArgs false
open Go.RowKit

def smallB (ls : List (List UInt64)) (most : Int) : Bool := decide ((ls.length : Int) ≤ most) && ls.all fun l => decide (l.length ≤ 200)

set_option maxHeartbeats 400000 in
theorem Small_calls (a : Option Addr) (c : Nat) (ls : List (List UInt64)) (most : Int) (w : World) (h : AtL w a ls) (hl : ls.length ≤ 9223372036854775807) (hls : ∀ l ∈ ls, l.length ≤ 9223372036854775807) :
    Calls Try.prog 13 #[.slice a ls.length c, .int .i64 most] w fun e w' => e = .returned (.bool (smallB ls most)) ∧ w = w' := by
  by_cases hm : (ls.length : Int) ≤ most
  · have hs : smallB ls most = ls.all fun l => decide (l.length ≤ 200) := by simp [smallB, hm]
    rw [hs]
    have HL := hide hls
    clear hs hls
    obtain ⟨R, hR⟩ : ∃ R, R = ls.all fun l => decide (l.length ≤ 200) := ⟨_, rfl⟩
    rw [← hR]
    have HR := hide hR
    clear hR
    go_enter Try.func13, Try.ntmps13
    go_wp2
    go_loopw [5] (fun i wr => ∃ k : Nat, k ≤ ls.length ∧ i = .int .i64 k ∧ wr = w ∧ Hid (R = (ls.drop k).all fun l => decide (l.length ≤ 200))) (fun i _ => ls.length - (intOf i).toNat)
    case atStart => exact ⟨0, by omega, rfl, rfl, HR⟩
    case round =>
      obtain ⟨k, hk, rfl, rfl, hR⟩ := hrel
      by_cases hlt : k < ls.length
      · obtain ⟨b, off, a1, c1, x, rfl, hx, hc, hcap, hat⟩ := h.get (Below.refl _ _) hlt
        have hxl := HL.out x (List.mem_of_getElem? hx.out)
        have hd : R = (decide (x.length ≤ 200) && (ls.drop (k + 1)).all fun l => decide (l.length ≤ 200)) := by rw [hR.out, drop_at hx.out]; rfl
        have HD := hide hd
        clear hd hR
        by_cases hx2 : x.length ≤ 200
        · go_wp2
          go_roundw
          case rel => exact ⟨k + 1, by omega, by go_num, by trivial, by have := HD.out; simpa [Hid, hx2] using this⟩
          case measure => simp [intOf]; omega
        · go_wp2
          go_ret
          exact ⟨by rw [HD.out]; simp [hx2], by trivial⟩
      · go_wp2
        go_ret
        exact ⟨by rw [hR.out, List.drop_eq_nil_of_le (by omega)]; rfl, by trivial⟩
  · have hs : smallB ls most = false := by simp [smallB, hm]
    rw [hs]
    clear hs hls
    go_enter Try.func13, Try.ntmps13
    go_wp2
    go_ret
    exact ⟨rfl, rfl⟩

set_option maxHeartbeats 800000 in
theorem goes5_calls (w : World) : Calls Try.prog 14 #[] w fun e w' => e = .returned (.bool true) ∧ Below w.heap.size w w' := by
  have hf : frame [[7, 8], [], [9]] = [2, 7, 8, 0, 1, 9] := by decide
  have hF : ∀ (a : Option Addr) (w : World), AtL w a [[7, 8], [], [9]] → Calls Try.prog 18 #[.slice a 3 3] w fun e w' => ∃ a' c', e = .returned (.slice a' 6 c') ∧ Own w' w.heap.size 38 a' c' ([2, 7, 8, 0, 1, 9] : List UInt64) ∧ Below w.heap.size w w' := by
    intro a w h
    have := Frame_calls a 3 [[7, 8], [], [9]] w h (by decide) (by rw [hf]; decide)
    rw [hf] at this
    exact this
  have hs : split [2, 7, 8, 0, 1, 9] 1 = ([[7, 8]], [0, 1, 9], 0) := by decide
  have hS : ∀ (a : Option Addr) (c : Nat) (w : World), At w a ([2, 7, 8, 0, 1, 9] : List UInt64) → 6 ≤ c → Calls Try.prog 15 #[.slice a 6 c, .int .i64 1] w fun e w' => ∃ a1 c1 a2 c2, e = .returned (.tuple #[.slice a1 1 c1, .slice a2 3 c2, .int .i64 0]) ∧
      AtL w' a1 [[7, 8]] ∧ At w' a2 ([0, 1, 9] : List UInt64) ∧ Below w.heap.size w w' := by
    intro a c w h hc
    have := Split_calls a c [2, 7, 8, 0, 1, 9] 1 w h hc (by decide) (by decide) (by decide)
    rw [hs] at this
    exact this
  have HF := hide hF
  have HS := hide hS
  clear hF hS hs hf
  go_enter Try.func14, Try.ntmps14
  go_wp2_with (go_at_call 18; refine (HF.out _ _ ?_).mono ?_; rotate_right; rintro e w1 ⟨a1, c1, rfl, hown1, hbel1⟩)
  · obtain ⟨g, rfl, hg, hg1⟩ := hown1.some_ (by simp)
    have hc1 := hown1.cap.1
    have c0 := hown1.at_.one 0 _ rfl 0 _ rfl
    have c4 := hown1.at_.one 4 _ rfl 0 _ rfl
    simp only [Flat.n, Nat.zero_mul, Nat.add_zero, Nat.mul_one] at c0 c4
    have hat := hown1.at_
    have hB1 : Below w.heap.size w w1 := Below.trans (a := w) (by with_reducible repeat first | exact Below.refl _ _ | assumption | refine below_drewN ?_ _ | refine Below.drew ?_ | refine Below.alloc ?_ (by simp <;> omega) _ | refine Below.setCell ?_ (by simp <;> omega) _) (Below.mono hbel1 (by simp <;> omega))
    go_wp2_with (go_at_call 15; refine (HS.out _ _ _ hat hc1).mono ?_; rintro e w2 ⟨a3, c3, a4, c4', rfl, hl3, hl4, hbel2⟩; have d0 := (hbel2.cell (p := ⟨g, 0, none⟩) hg1).trans c0; have d4 := (hbel2.cell (p := ⟨g, 4, none⟩) hg1).trans c4; obtain ⟨b5, off5, a5, c5, l5, rfl, hx5, hc5, hcap5, hat5⟩ := hl3.get (Below.refl _ _) (k := 0) (by decide); obtain rfl : [7, 8] = l5 := (by simpa [Hid] using hx5); obtain ⟨b6, off6, x6, rfl, hx6, hc6⟩ := hat5.getU (Below.refl _ _) (k := 1) (by decide); obtain rfl : (8 : UInt64) = x6 := (by simpa [Hid] using hx6); simp at hc5 hc6)
    go_ret
    exact ⟨rfl, hB1.trans (hbel2.mono hB1.size)⟩
  · refine ⟨[⟨some ⟨w.heap.size, 0, none⟩, 2, 2⟩, ⟨none, 0, 0⟩, ⟨some ⟨w.heap.size + 1, 0, none⟩, 1, 1⟩], ?_, rfl, ?_⟩
    · have := At.ofBlk (Blk.new ((w.alloc (.cells #[.int .u64 7, .int .u64 8] 38)).alloc (.cells #[.int .u64 9] 38)) 23 #[.slice (some ⟨w.heap.size, 0, none⟩) 2 2, .slice none 0 0, .slice (some ⟨w.heap.size + 1, 0, none⟩) 1 1])
        [(⟨some ⟨w.heap.size, 0, none⟩, 2, 2⟩ : Hd), ⟨none, 0, 0⟩, ⟨some ⟨w.heap.size + 1, 0, none⟩, 1, 1⟩] rfl
      simpa using this
    · intro i x l hx hl
      match i, hx, hl with
      | 0, hx, hl =>
        simp at hx hl
        subst hx hl
        exact ⟨rfl, by simp, At.ofBlk (((Blk.new w 38 #[.int .u64 7, .int .u64 8]).alloc _).alloc _) [7, 8] rfl⟩
      | 1, hx, hl =>
        simp at hx hl
        subst hx hl
        exact ⟨rfl, by decide, At.nil _ _⟩
      | 2, hx, hl =>
        simp at hx hl
        subst hx hl
        have := At.ofBlk ((Blk.new (w.alloc (.cells #[.int .u64 7, .int .u64 8] 38)) 38 #[.int .u64 9]).alloc (.cells #[.slice (some ⟨w.heap.size, 0, none⟩) 2 2, .slice none 0 0, .slice (some ⟨w.heap.size + 1, 0, none⟩) 1 1] 23)) [(9 : UInt64)] rfl
        exact ⟨rfl, by simp, by simpa using this⟩

theorem splitF_small : ∀ (n : Nat) (l : List UInt64) (p : List (List UInt64) × List UInt64), splitF n l = some p → p.1.length ≤ l.length ∧ (∀ m ∈ p.1, m.length ≤ l.length) ∧ p.2.length ≤ l.length := by
  intro n
  induction n with
  | zero => intro l p h; simp [splitF] at h; subst h; simp
  | succ n ih =>
    intro l p h
    cases l with
    | nil => simp [splitF] at h
    | cons x t =>
      unfold splitF at h
      split at h
      · cases h
      · rename_i hx
        cases hq : splitF n (t.drop x.toNat) with
        | none => rw [hq] at h; cases h
        | some q =>
          rw [hq] at h
          simp at h
          subst h
          obtain ⟨h1, h2, h3⟩ := ih _ _ hq
          simp only [List.length_drop] at h1 h2 h3
          refine ⟨by simp; omega, fun m hm => ?_, by simp; omega⟩
          rcases List.mem_cons.1 hm with rfl | hm
          · simp; omega
          · have := h2 m hm; simp; omega
theorem split_small (l : List UInt64) (n : Int) : (split l n).1.length ≤ l.length ∧ (∀ m ∈ (split l n).1, m.length ≤ l.length) ∧ (split l n).2.1.length ≤ l.length := by
  unfold split
  split
  · simp
  · cases h : splitF n.toNat l with
    | none => simp
    | some p => exact splitF_small _ _ _ h

set_option maxHeartbeats 800000 in
theorem WordsFrames_calls (a b : Option Addr) (ca cb : Nat) (ls : List (List UInt64)) (l : List UInt64) (n : Int) (w : World) (h : AtL w a ls) (hb : At w b l) (hcb : l.length ≤ cb) (hl : ls.length ≤ 9223372036854775807) (hls : ∀ l ∈ ls, l.length ≤ 9223372036854775807)
    (hl2 : l.length ≤ 9223372036854775807) (hn1 : -9223372036854775808 ≤ n) (hn2 : n ≤ 9223372036854775807) :
    Calls Try.prog 3 #[.slice a ls.length ca, .slice b l.length cb, .int .i64 n] w fun e w' => e = .returned (.bool true) ∧ Below w.heap.size w w' := by
  have HL := hide hls
  by_cases hS : smallB ls 20 = true
  · by_cases hl5 : l.length ≤ 500
    · have hlen : ls.length ≤ 20 := by
        unfold smallB at hS
        simp at hS
        omega
      have hall : ∀ m ∈ ls, m.length ≤ 200 := by
        unfold smallB at hS
        simp at hS
        exact hS.2
      have hfr : (frame ls).length ≤ 1000000000 := by
        have : ∀ xs : List (List UInt64), (∀ m ∈ xs, m.length ≤ 200) → (frame xs).length ≤ xs.length * 201 := by
          intro xs
          induction xs with
          | nil => intro _; simp [frame]
          | cons x r ih =>
            intro hx
            have h1 := hx x (by simp)
            have h2 := ih fun m hm => hx m (by simp [hm])
            simp [frame] at h2 ⊢
            omega
        have := this ls hall
        omega
      have hsl : (split l n).1.length ≤ 1000000000 ∧ (∀ m ∈ (split l n).1, m.length ≤ 1000000000) ∧ (split l n).2.1.length ≤ 1000000000 := by
        have := split_small l n
        exact ⟨by omega, fun m hm => by have := this.2.1 m hm; omega, by omega⟩
      have HA := hide hall
      have HSL := hide hsl
      clear hall hsl hls
      generalize hR : split l n = R at *
      go_enter Try.func3, Try.ntmps3
      go_wp2_with (first
        | (go_at_call 13; refine (Small_calls _ _ ls _ _ h hl HL.out).mono ?_; rintro e w1 ⟨rfl, rfl⟩)
        | (go_at_call 15; refine (Split_calls _ _ l n _ hb hcb (by omega) hn1 hn2).mono ?_; rw [hR]; rintro e w1 ⟨a1, c1, a2, c2, rfl, hp1, hp2, hbel1⟩)
        | (go_at_call 16; refine (Split5_calls _ _ l n _ (hb.belowN hbel1) hcb (by omega) hn1 hn2).mono ?_; rw [hR]; rintro e w2 ⟨b1, d1, b2, d2, rfl, hq1, hq2, hbel2⟩; have hs1 := hbel1.size; have hs2 := hbel2.size; have hB2 := hbel1.trans (hbel2.mono hs1))
        | (go_at_call 18; refine (Frame_calls _ _ ls _ (h.belowN hB2) (by omega) hfr).mono ?_; rintro e w3 ⟨a3, c3, rfl, hown3, hbel3⟩; have hs3 := hbel3.size; have hB3 := hB2.trans (hbel3.mono (by omega)))
        | (go_at_call 19; refine (Frame5_calls _ _ ls _ (h.belowN hB3) (by omega) hfr).mono ?_; rintro e w4 ⟨a4, c4, rfl, hown4, hbel4⟩; have hs4 := hbel4.size; have hB4 := hB3.trans (hbel4.mono (by omega)); have hL1 := ((hp1.belowN hbel2).belowN hbel3).belowN hbel4; have hL2 := (hq1.belowN hbel3).belowN hbel4; have hM1 := ((hp2.belowN hbel2).belowN hbel3).belowN hbel4; have hM2 := (hq2.belowN hbel3).belowN hbel4; have hF1 := hown3.at_.belowN hbel4; have hF2 := hown4.at_)
        | (go_at_call 17; (with_reducible refine (Same5_calls _ _ _ _ (frame ls) _ hF1 hF2 hfr).mono ?_); rintro e w5 ⟨rfl, q5, rfl⟩)
        | (go_at_call 20; refine (Lists_calls _ _ _ _ R.1 _ (hL1.belowN (below_drawn _ _ _)) (hL2.belowN (below_drawn _ _ _)) HSL.out.1 HSL.out.2.1).mono ?_; rintro e w6 ⟨rfl, q6, rfl⟩)
        | (go_at_call 17; (with_reducible refine (Same5_calls _ _ _ _ R.2.1 _ (hM1.drewN _) (hM2.drewN _) HSL.out.2.2).mono ?_); rintro e w7 ⟨rfl, q7, rfl⟩)
        | (go_at_call 14; refine (goes5_calls _).mono ?_; rintro e w8 ⟨rfl, hbel8⟩))
      go_ret
      exact ⟨rfl, (below_drewN hB4 _).trans (hbel8.mono (by simp; omega))⟩
    · clear hls
      go_enter Try.func3, Try.ntmps3
      go_wp2_with (first
        | (go_at_call 13; refine (Small_calls _ _ ls _ _ h hl HL.out).mono ?_; rintro e w1 ⟨rfl, rfl⟩)
        | (go_at_call 14; refine (goes5_calls _).mono ?_; rintro e w8 ⟨rfl, hbel8⟩))
      go_ret
      exact ⟨rfl, hbel8⟩
  · have hS' : smallB ls 20 = false := by simpa using hS
    clear hls hS
    go_enter Try.func3, Try.ntmps3
    go_wp2_with (first
      | (go_at_call 13; refine (Small_calls _ _ ls _ _ h hl HL.out).mono ?_; rintro e w1 ⟨rfl, rfl⟩)
      | (go_at_call 14; refine (goes5_calls _).mono ?_; rintro e w8 ⟨rfl, hbel8⟩))
    go_ret
    exact ⟨rfl, hbel8⟩
end Go.Proofs.Ytgakjkeigoiekaa
