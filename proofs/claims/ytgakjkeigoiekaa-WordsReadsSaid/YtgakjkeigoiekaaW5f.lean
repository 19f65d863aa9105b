/- The walks of chapter 5: the program's reader, one contract a method. -/
import Derived.Test.YtgakjkeigoiekaaW5e
namespace Go.Proofs.Ytgakjkeigoiekaa
set_option linter.unusedVariables false
set_option linter.unusedSimpArgs false
open Go.RowKit

/-- The reader in block `rb` has the words `r` left, and keeps the error `e`. -/
def Rdr (w : World) (rb : Nat) (ab : Option Nat) (r : List UInt64) (e : Int) : Prop :=
  ∃ a c, Blk w rb 89 #[.slice a r.length c, .int .i64 e] ∧ At w a r ∧ r.length ≤ c ∧ a.map (·.block) = ab ∧ ab ≠ some rb

theorem Rdr.drew {w : World} {rb : Nat} {ab : Option Nat} {r : List UInt64} {e : Int} (h : Rdr w rb ab r e) : Rdr w.drew rb ab r e := h
theorem Rdr.drewN {w : World} {rb : Nat} {ab : Option Nat} {r : List UInt64} {e : Int} (h : Rdr w rb ab r e) (n : Nat) : Rdr (w.drewN n) rb ab r e := h
theorem Rdr.keep {w w' : World} {rb : Nat} {ab : Option Nat} {r : List UInt64} {e : Int} (h : Rdr w rb ab r e) (h1 : w'.heap[rb]? = w.heap[rb]?) (h2 : ∀ k, ab = some k → w'.heap[k]? = w.heap[k]?) : Rdr w' rb ab r e := by
  obtain ⟨a, c, hb, hat, hc, ha, hne⟩ := h
  exact ⟨a, c, h1.trans hb, hat.keep fun b off e _ => h2 b (by rw [← ha, e]; rfl), hc, ha, hne⟩
theorem Rdr.lt {w : World} {rb : Nat} {ab : Option Nat} {r : List UInt64} {e : Int} (h : Rdr w rb ab r e) : rb < w.heap.size := by
  obtain ⟨a, c, hb, _⟩ := h
  exact hb.lt

def wS (r : List UInt64) (e : Int) : UInt64 × List UInt64 × Int :=
  if e = 0 then (match r with | [] => (0, [], 4) | x :: t => (x, t, 0)) else (0, r, e)
def iS (r : List UInt64) (e most : Int) : Int × List UInt64 × Int :=
  if e = 0 then (match r with | [] => (0, [], 4) | x :: t => if most < 0 ∨ most < x.toNat then (0, x :: t, 2) else ((x.toNat : Int), t, 0)) else (0, r, e)
def lS (r : List UInt64) (e most : Int) : List UInt64 × List UInt64 × Int :=
  if e = 0 then (match r with | [] => ([], [], 4) | x :: t => if most < 0 ∨ most < x.toNat then ([], x :: t, 2) else if t.length < x.toNat then ([], x :: t, 4) else (t.take x.toNat, t.drop x.toNat, 0)) else ([], r, e)

section
variable {w : World} {rb : Nat} {ab : Option Nat} {r : List UInt64} {e : Int}
theorem at_setFar {a : Option Addr} {l : List UInt64} (h : At w a l) {p : Addr} (hp : a.map (·.block) ≠ some p.block) (u : Value) : At (w.setCell p u) a l :=
  h.keep fun b off e _ => Below.heap_setCell w p u b (fun h => hp (by rw [e]; simp [h]))
theorem Rdr.setE {a : Option Addr} {c : Nat} {e0 : Int} {ab : Option Nat} (h : Blk w rb 89 #[.slice a r.length c, .int .i64 e0]) (hat : At w a r) (hc : r.length ≤ c) (ha : a.map (·.block) = ab) (hne : ab ≠ some rb) (e : Int) : Rdr (w.setCell ⟨rb, 1, none⟩ (.int .i64 e)) rb ab r e :=
  ⟨a, c, by simpa using h.set_ 1 (.int .i64 e), at_setFar hat (by rw [ha]; exact hne) _, hc, ha, hne⟩
theorem Rdr.setW {a a' : Option Addr} {c c' n : Nat} {l : List UInt64} {ab : Option Nat} (h : Blk w rb 89 #[.slice a n c, .int .i64 e]) (hat : At w a' r) (hc : r.length ≤ c') (ha : a'.map (·.block) = ab) (hne : ab ≠ some rb) {m : Nat} (hm : m = r.length) : Rdr (w.setCell ⟨rb, 0, none⟩ (.slice a' m c')) rb ab r e := by
  subst hm
  exact ⟨a', c', by simpa using h.set_ 0 (.slice a' r.length c'), at_setFar hat (by rw [ha]; exact hne) _, hc, ha, hne⟩

set_option maxHeartbeats 400000 in
theorem Word_calls (h : Rdr w rb ab r e) (hl : r.length ≤ 1000000000) :
    Calls Try.prog 38 #[.pointer (some ⟨rb, 0, none⟩)] w fun o w' => o = .returned (.int .u64 ((wS r e).1.toNat : Int)) ∧ Rdr w' rb ab (wS r e).2.1 (wS r e).2.2 ∧ w.grownBy w' (some rb) := by
  obtain ⟨a, c, hb, hat, hc, ha, hne⟩ := h
  by_cases he : e = 0
  · subst he
    cases r with
    | nil =>
      have hR := Rdr.setE hb hat hc ha hne 4
      have hs : wS [] 0 = (0, [], 4) := rfl
      rw [hs]
      replace hb : Blk w rb 89 #[.slice a 0 c, .int .i64 0] := hb
      clear hs
      go_enter Try.func38, Try.ntmps38
      go_wp2_with (go_at_call 55; refine (peek2 hb).mono ?_; rintro o w1 ⟨rfl, rfl⟩)
      go_ret
      exact ⟨rfl, hR, grown_setCell _ _ _ _⟩
    | cons x t =>
      have hs : wS (x :: t) 0 = (x, t, 0) := rfl
      rw [hs]
      clear hs
      have hat2 : At w (cutA a 1 c 1) t := hat.cut (k := 1) hc
      have ha2 : (cutA a 1 c 1).map (·.block) = ab := by rw [cutA_block]; exact ha
      have hp := peek3 x hb hat rfl
      have hc2 : t.length ≤ c - 1 := by simp at hc; omega
      have hR := Rdr.setW (l := t) (m := t.length) hb hat2 hc2 ha2 hne rfl
      simp only [List.length_cons] at hb hp hc hl
      obtain ⟨p0, p1, p2, p3⟩ := hb.c2
      have HP := hide hp
      clear hp
      go_enter Try.func38, Try.ntmps38
      go_wp2_with (go_at_call 55; refine HP.out.mono ?_; rintro o w1 ⟨rfl, rfl⟩)
      go_ret
      exact ⟨rfl, hR, grown_setCell _ _ _ _⟩
  · have hs : wS r e = (0, r, e) := by simp [wS, he]
    rw [hs]
    clear hs
    have hR : Rdr w rb ab r e := ⟨a, c, hb, hat, hc, ha, hne⟩
    go_enter Try.func38, Try.ntmps38
    go_wp2_with (go_at_call 55; refine (peek1 r.length he hb).mono ?_; rintro o w1 ⟨rfl, rfl⟩)
    go_ret
    exact ⟨rfl, hR, World.grownBy.refl _ _⟩

set_option maxHeartbeats 400000 in
theorem Int_calls (most : Int) (h : Rdr w rb ab r e) (hl : r.length ≤ 1000000000) (hm1 : -9223372036854775808 ≤ most) (hm2 : most ≤ 9223372036854775807) :
    Calls Try.prog 39 #[.pointer (some ⟨rb, 0, none⟩), .int .i64 most] w fun o w' => o = .returned (.int .i64 (iS r e most).1) ∧ Rdr w' rb ab (iS r e most).2.1 (iS r e most).2.2 ∧ w.grownBy w' (some rb) := by
  obtain ⟨a, c, hb, hat, hc, ha, hne⟩ := h
  by_cases he : e = 0
  · subst he
    cases r with
    | nil =>
      have hR := Rdr.setE hb hat hc ha hne 4
      have hs : iS [] 0 most = (0, [], 4) := rfl
      rw [hs]
      replace hb : Blk w rb 89 #[.slice a 0 c, .int .i64 0] := hb
      clear hs
      go_enter Try.func39, Try.ntmps39
      go_wp2_with (go_at_call 45; refine (small2 most hb).mono ?_; rintro o w1 ⟨rfl, rfl⟩)
      go_ret
      exact ⟨rfl, hR, grown_setCell _ _ _ _⟩
    | cons x t =>
      by_cases hm : most < 0 ∨ most < x.toNat
      · have hs : iS (x :: t) 0 most = (0, x :: t, 2) := by simp [iS, hm]
        rw [hs]
        clear hs
        have hR := Rdr.setE hb hat hc ha hne 2
        have HP := hide (small3 x most hb hat rfl hm hm1 hm2)
        clear hm
        go_enter Try.func39, Try.ntmps39
        go_wp2_with (go_at_call 45; refine HP.out.mono ?_; rintro o w1 ⟨rfl, rfl⟩)
        go_ret
        exact ⟨rfl, hR, grown_setCell _ _ _ _⟩
      · have hs : iS (x :: t) 0 most = ((x.toNat : Int), t, 0) := by simp [iS, hm]
        rw [hs]
        clear hs
        have hat2 : At w (cutA a 1 c 1) t := hat.cut (k := 1) hc
        have ha2 : (cutA a 1 c 1).map (·.block) = ab := by rw [cutA_block]; exact ha
        have HP := hide (small4 x most hb hat rfl (by omega) (by omega) hm2)
        have hc2 : t.length ≤ c - 1 := by simp at hc; omega
        have hR := Rdr.setW (l := t) (m := t.length) hb hat2 hc2 ha2 hne rfl
        simp only [List.length_cons] at hb HP hc hl
        obtain ⟨p0, p1, p2, p3⟩ := hb.c2
        clear hm
        go_enter Try.func39, Try.ntmps39
        go_wp2_with (go_at_call 45; refine HP.out.mono ?_; rintro o w1 ⟨rfl, rfl⟩)
        go_ret
        exact ⟨rfl, hR, grown_setCell _ _ _ _⟩
  · have hs : iS r e most = (0, r, e) := by simp [iS, he]
    rw [hs]
    clear hs
    have hR : Rdr w rb ab r e := ⟨a, c, hb, hat, hc, ha, hne⟩
    go_enter Try.func39, Try.ntmps39
    go_wp2_with (go_at_call 45; refine (small1 r.length most he hb).mono ?_; rintro o w1 ⟨rfl, rfl⟩)
    go_ret
    exact ⟨rfl, hR, World.grownBy.refl _ _⟩

set_option maxHeartbeats 400000 in
theorem List_calls (most : Int) (h : Rdr w rb ab r e) (hl : r.length ≤ 1000000000) (hm1 : -9223372036854775808 ≤ most) (hm2 : most ≤ 9223372036854775807) :
    Calls Try.prog 22 #[.pointer (some ⟨rb, 0, none⟩), .int .i64 most] w fun o w' => ∃ a1 c1, o = .returned (.slice a1 (lS r e most).1.length c1) ∧ Own w' w.heap.size 38 a1 c1 (lS r e most).1 ∧ Rdr w' rb ab (lS r e most).2.1 (lS r e most).2.2 ∧ w.grownBy w' (some rb) := by
  obtain ⟨a, c, hb, hat, hc, ha, hne⟩ := h
  by_cases he : e = 0
  · subst he
    cases r with
    | nil =>
      have hR := Rdr.setE hb hat hc ha hne 4
      have hs : lS [] 0 most = ([], [], 4) := rfl
      rw [hs]
      replace hb : Blk w rb 89 #[.slice a 0 c, .int .i64 0] := hb
      clear hs
      go_enter Try.func22, Try.ntmps22
      go_wp2_with (go_at_call 45; refine (small2 most hb).mono ?_; rintro o w1 ⟨rfl, rfl⟩)
      go_ret
      exact ⟨none, 0, rfl, Own.none _ _ _, hR, grown_setCell _ _ _ _⟩
    | cons x t =>
      by_cases hm : most < 0 ∨ most < x.toNat
      · have hs : lS (x :: t) 0 most = ([], x :: t, 2) := by simp [lS, hm]
        rw [hs]
        clear hs
        have hR := Rdr.setE hb hat hc ha hne 2
        have HP := hide (small3 x most hb hat rfl hm hm1 hm2)
        clear hm
        go_enter Try.func22, Try.ntmps22
        go_wp2_with (go_at_call 45; refine HP.out.mono ?_; rintro o w1 ⟨rfl, rfl⟩)
        go_ret
        exact ⟨none, 0, rfl, Own.none _ _ _, hR, grown_setCell _ _ _ _⟩
      · have HP := hide (small4 x most hb hat rfl (by omega) (by omega) hm2)
        by_cases hx : t.length < x.toNat
        · have hs : lS (x :: t) 0 most = ([], x :: t, 4) := by simp [lS, hm, hx]
          rw [hs]
          clear hs
          have hR := Rdr.setE hb hat hc ha hne 4
          simp only [List.length_cons] at hb HP hc hl
          obtain ⟨p0, p1, p2, p3⟩ := hb.c2
          clear hm
          go_enter Try.func22, Try.ntmps22
          go_wp2_with (first
            | (go_at_call 45; refine HP.out.mono ?_; rintro o w1 ⟨rfl, rfl⟩)
            | (go_at_call 46; refine (fail_calls (t.length + 1) 4 hb).mono ?_; rintro o w1 ⟨rfl, rfl⟩))
          go_ret
          exact ⟨none, 0, rfl, Own.none _ _ _, hR, grown_setCell _ _ _ _⟩
        · have hs : lS (x :: t) 0 most = (t.take x.toNat, t.drop x.toNat, 0) := by simp [lS, hm, hx]
          rw [hs]
          clear hs
          have hat2 : At w (cutA a 1 c 1) t := hat.cut (k := 1) hc
          have hat3 : At w (cutA a (x.toNat + 1) c 1) (t.drop x.toNat) := by
            have := hat.cut (k := x.toNat + 1) hc
            simpa [Flat.n] using this
          have ha3 : (cutA a (x.toNat + 1) c 1).map (·.block) = ab := by rw [cutA_block]; exact ha
          have htl : (t.take x.toNat).length = x.toNat := by simp; omega
          have hdl : (t.drop x.toNat).length = t.length + 1 - (x.toNat + 1) := by simp
          simp only [List.length_cons] at hb HP hc hl
          obtain ⟨p0, p1, p2, p3⟩ := hb.c2
          have HT := hide htl
          have HD := hide hdl
          clear hm htl hdl
          obtain ⟨T, hT⟩ : ∃ T, T = t.take x.toNat := ⟨_, rfl⟩
          obtain ⟨D, hD⟩ : ∃ D, D = t.drop x.toNat := ⟨_, rfl⟩
          rw [← hT] at HT ⊢
          rw [← hD] at HD hat3 ⊢
          have hatT : At w (cutA a 1 c 1) T := by rw [hT]; exact hat2.take _
          clear hT hD
          go_enter Try.func22, Try.ntmps22
          go_wp2_with (first
            | (go_at_call 45; refine HP.out.mono ?_; rintro o w1 ⟨rfl, rfl⟩)
            | (go_at_call 44; refine (CloneU_calls _ _ _ T _ HT.out.symm hatT (by omega)).mono ?_; rintro o w2 ⟨a2, c2, rfl, hown, hbel⟩; have hb2 := hb.belowN hbel; obtain ⟨q0, q1, q2, q3⟩ := hb2.c2))
          go_ret
          have hR := Rdr.setW (l := t) hb2 (hat3.belowN hbel) (by rw [HD.out]; omega : _ ≤ c - (x.toNat + 1)) ha3 hne (m := t.length + 1 - (x.toNat + 1)) HD.out.symm
          have hlt := hb.lt
          refine ⟨a2, c2, by rw [HT.out]; rfl, hown.setCell hlt _, ?_, grown_trans (grown_of_below hbel _) (grown_setCell _ _ _ _)⟩
          simpa using hR
  · have hs : lS r e most = ([], r, e) := by simp [lS, he]
    rw [hs]
    clear hs
    have hR : Rdr w rb ab r e := ⟨a, c, hb, hat, hc, ha, hne⟩
    go_enter Try.func22, Try.ntmps22
    go_wp2_with (go_at_call 45; refine (small1 r.length most he hb).mono ?_; rintro o w1 ⟨rfl, rfl⟩)
    go_ret
    exact ⟨none, 0, rfl, Own.none _ _ _, hR, World.grownBy.refl _ _⟩
end
end Go.Proofs.Ytgakjkeigoiekaa
