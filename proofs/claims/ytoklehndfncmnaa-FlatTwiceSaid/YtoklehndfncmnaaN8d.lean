/- Chapter 8: Deep, Around, Inside, Parts. -/
import Derived.Test.YtoklehndfncmnaaN8c
namespace Go.Proofs.Ytoklehndfncmnaa
set_option linter.unusedVariables false
set_option linter.unusedSimpArgs false
open Go.RowKit


/-- how deep: `n` blocks are open, `m` were at the most -/
def dpF : Nat → Nat → List OpD → Nat
  | _, m, [] => m
  | n, m, x :: r => if x.kind = 7 then dpF (n + 1) (max m (n + 1)) r else if x.kind = 0 then dpF (n - 1) m r else dpF n m r
def htF : Nat → List OpD → Nat
  | n, [] => n
  | n, x :: r => htF (if x.kind = 7 then n + 1 else if x.kind = 0 then n - 1 else n) r
theorem dpF_append (n m : Nat) (a b : List OpD) : dpF n m (a ++ b) = dpF (htF n a) (dpF n m a) b := by
  induction a generalizing n m with
  | nil => rfl
  | cons x r ih =>
    simp only [List.cons_append, dpF, htF]
    split
    · exact ih _ _
    · split
      · exact ih _ _
      · exact ih _ _
theorem stF_ht (i : Nat) (st : List Int) (l : List OpD) : (stF i st l).length = htF st.length l := by
  induction l generalizing i st with
  | nil => rfl
  | cons x r ih =>
    simp only [stF, htF]
    rw [ih]
    congr 1
    unfold stk
    split
    · simp
    · split <;> simp
def deepAt (l : List OpD) (k : Nat) : Nat := dpF 0 0 (l.take k)
def deepL (l : List OpD) : Nat := dpF 0 0 l
theorem deepAt_succ (l : List OpD) (k : Nat) (x : OpD) (h : l[k]? = some x) : deepAt l (k + 1) = if x.kind = 7 then max (deepAt l k) ((stAt l k).length + 1) else deepAt l k := by
  unfold deepAt stAt
  rw [List.take_add_one, h, dpF_append, stF_ht]
  simp only [Option.toList, dpF, List.length_nil]
  split
  · rfl
  · split <;> rfl
theorem dpF_le (n m : Nat) (l : List OpD) : dpF n m l ≤ max m (n + l.length) := by
  induction l generalizing n m with
  | nil => simp [dpF]; omega
  | cons x r ih =>
    simp only [dpF, List.length_cons]
    split
    · have := ih (n + 1) (max m (n + 1)); omega
    · split
      · have := ih (n - 1) m; omega
      · have := ih n m; omega
theorem deepAt_le (l : List OpD) (k : Nat) : deepAt l k ≤ k := by
  have := dpF_le 0 0 (l.take k)
  unfold deepAt
  simp at this
  omega
def deepS (l : List OpD) : Int × Int := if well l = true then ((deepL l : Int), 0) else (0, 6)

/-- What a callee of the walk leaves. -/
def CloPost (J : Nat → List Nat → World → Prop) (k : Nat) (F : List Nat) (w : World) (e : Ending) (w' : World) : Prop :=
  e = .returned (.tuple #[]) ∧ ∃ F', J (k + 1) F' w' ∧ Turned F w w' ∧ ∀ b ∈ F', b ∈ F ∨ w.heap.size ≤ b

section
variable {bl bd c : Nat} {a : Option Addr} {l : List OpD}
def JD (bl bd c : Nat) (a : Option Addr) (l : List OpD) (k : Nat) (F : List Nat) (w : World) : Prop :=
  F = [bl, bd] ∧ Blk w bl 22 #[.slice a l.length c] ∧ Blk w bd 3 #[.int .i64 (deepAt l k : Int)]

set_option maxHeartbeats 800000 in
theorem JD.call {w' : World} {F : List Nat} {k : Nat} {x : OpD} {b : Option Addr} {n d : Nat} (hx : l[k]? = some x) (h7 : x.kind ≤ 7) (hJ : JD bl bd c a l k F w') (hat : At w' a l) (hn : n = (arnd (stAt l k) x).length) (hl : l.length ≤ 1000000) :
    Calls Try.prog 92 #[.int .i64 k, .slice b n d, .pointer (some ⟨bl, 0, none⟩), .pointer (some ⟨bd, 0, none⟩)] w' (CloPost (JD bl bd c a l) k F w') := by
  obtain ⟨rfl, h1, h2⟩ := hJ
  have hkl : k < l.length := (List.getElem?_eq_some_iff.1 hx).1
  have hne : bl ≠ bd := by rintro rfl; unfold Blk at h1 h2; rw [h1] at h2; injection h2 with h2; injection h2 with _ h2; cases h2
  obtain ⟨b1, off1, y, rfl, hy, x0, x1, x2, x3, x4⟩ := hat.getOp (Below.refl _ _) hkl
  obtain rfl : x = y := by have := hx.symm.trans hy.out; simpa using this
  obtain ⟨p0, p1⟩ := h1.c1
  obtain ⟨q0, q1⟩ := h2.c1
  have hs := deepAt_succ l k x hx
  have hle := deepAt_le l k
  have hsl := stAt_length_le l k
  have HS := hide hs
  clear hs hx hy
  by_cases hk : x.kind = 7
  · have hn' : n = (stAt l k).length := by rw [hn]; unfold arnd; rw [if_neg (by omega)]
    have hnk : n ≤ k := by omega
    have HN := hide hn'
    have hkk : (x.kind == 7) = true := by simpa using hk
    have HK := hide hk
    clear hn hn' hk
    have hcs : deepAt l k < n + 1 ∨ n + 1 ≤ deepAt l k := by omega
    rcases hcs with hc1 | hc1
    all_goals
      go_enter Try.func92, Try.ntmps92
      go_wp2
      go_end0
      unfold CloPost
      refine ⟨rfl, [bl, bd], ⟨rfl, h1.far (p := ⟨bd, 0, none⟩) hne _, ?_⟩, Turned.ofGrown (grown_setCell _ bd 0 _) (fun g hg => .inl (by injection hg with hg; simp [hg])), fun g hg => .inl hg⟩
      rw [HS.out, if_pos HK.out, ← HN.out]
    · rw [Nat.max_eq_right (by omega)]
      exact h2.set_ 0 (.int .i64 ((n : Int) + 1))
    · rw [Nat.max_eq_left hc1]
      exact h2.set_ 0 (.int .i64 (deepAt l k : Int))
  · have hkk : (x.kind == 7) = false := by simpa using hk
    have HK := hide hk
    clear hk hn
    go_enter Try.func92, Try.ntmps92
    go_wp2
    go_end0
    unfold CloPost
    refine ⟨rfl, [bl, bd], ⟨rfl, h1, ?_⟩, Turned.refl _ _, fun g hg => .inl hg⟩
    rw [HS.out, if_neg HK.out]
    exact h2
end


set_option maxHeartbeats 1600000 in
theorem Deep_calls (a : Option Addr) (c : Nat) (l : List OpD) (w : World) (h : At w a l) (hl : l.length ≤ 1000000) :
    Calls Try.prog 86 #[.slice a l.length c] w fun e w' => e = .returned (.tuple #[.int .i64 (deepS l).1, .int .i64 (deepS l).2]) ∧ Below w.heap.size w w' := by
  have haw : l ≠ [] → ∀ g, a.map (·.block) = some g → g < w.heap.size := by
    intro h0 g hg
    obtain ⟨b, off, rfl, hlt⟩ := h.lt h0
    simp at hg
    omega
  have HAW := hide haw
  obtain ⟨Wl, hWl⟩ : ∃ b, b = well l := ⟨_, rfl⟩
  have HWL := hide hWl
  have hs : deepS l = if Wl = true then ((deepL l : Int), 0) else (0, 6) := by rw [hWl]; rfl
  have HS := hide hs
  rw [hs]
  clear haw hWl hs
  have hcase : Wl = true ∨ Wl = false := by cases Wl <;> simp
  have hBa : Below w.heap.size w ((w.alloc (.cells #[.slice a l.length c] 22)).alloc (.cells #[.int .i64 0] 3)) := Below.alloc (Below.alloc (Below.refl _ _) (Nat.le_refl _) _) (by simp) _
  rcases hcase with rfl | rfl
  · go_enter Try.func86, Try.ntmps86
    go_wp2_with (go_at_call 48; (refine (walkD_calls _ _ a c l _ (h.belowN hBa) hl (JD w.heap.size (w.heap.size + 1) c a l) [w.heap.size, w.heap.size + 1] (fun k F w w' hJ _ hb => (by obtain ⟨rfl, e1, e2⟩ := hJ; exact ⟨rfl, (hb _ (by simp)).trans e1, (hb _ (by simp)).trans e2⟩)) (fun k F w hJ => (by obtain ⟨rfl, e1, e2⟩ := hJ; intro b hb; simp at hb; rcases hb with rfl | rfl; exact e1.lt; exact e2.lt)) ?_ ?_ ?_).mono ?_); rotate_right; rintro e w3 ⟨rfl, hT3, hW3⟩; rw [← HWL.out]; obtain ⟨F', ⟨hFF, h1, h2⟩, _⟩ := hW3 HWL.out.symm; obtain ⟨q0, q1⟩ := h2.c1; have HFF := hide hFF; clear hFF hW3)
    · go_ret2
      exact ⟨by simp [deepL, deepAt], hT3.below hBa (fun g hg => by simp at hg; omega) (by simp; omega)⟩
    · intro k x F w' b n d hx h0 h7 hk0 hJ hat hn hT
      have hata : At w' a l := (h.belowN hBa).turned hT (fun h0 g hg e => by have := HAW.out h0 g e; simp at hg; omega)
      refine (JD.call hx h7 hJ hata hn hl).mono ?_
      rintro e w2 h2
      unfold CloPost at h2
      exact h2
    · exact ⟨rfl, (Blk.new w _ _).alloc _, by simpa [deepAt, dpF] using Blk.new (w.alloc (.cells #[.slice a l.length c] 22)) 3 #[.int .i64 0]⟩
    · intro h0
      first
      | (intro g hg e; have := HAW.out h0 g e; simp at hg; omega)
      | (constructor
         all_goals
           intro x hx e
           have := HAW.out h0 x.block (by simp [hx])
           omega)
  · go_enter Try.func86, Try.ntmps86
    go_wp2_with (go_at_call 48; (refine (walkD_calls _ _ a c l _ (h.belowN hBa) hl (JD w.heap.size (w.heap.size + 1) c a l) [w.heap.size, w.heap.size + 1] (fun k F w w' hJ _ hb => (by obtain ⟨rfl, e1, e2⟩ := hJ; exact ⟨rfl, (hb _ (by simp)).trans e1, (hb _ (by simp)).trans e2⟩)) (fun k F w hJ => (by obtain ⟨rfl, e1, e2⟩ := hJ; intro b hb; simp at hb; rcases hb with rfl | rfl; exact e1.lt; exact e2.lt)) ?_ ?_ ?_).mono ?_); rotate_right; rintro e w3 ⟨rfl, hT3, hW3⟩; rw [← HWL.out]; clear hW3)
    · go_ret2
      exact ⟨by simp, hT3.below hBa (fun g hg => by simp at hg; omega) (by simp; omega)⟩
    · intro k x F w' b n d hx h0 h7 hk0 hJ hat hn hT
      have hata : At w' a l := (h.belowN hBa).turned hT (fun h0 g hg e => by have := HAW.out h0 g e; simp at hg; omega)
      refine (JD.call hx h7 hJ hata hn hl).mono ?_
      rintro e w2 h2
      unfold CloPost at h2
      exact h2
    · exact ⟨rfl, (Blk.new w _ _).alloc _, by simpa [deepAt, dpF] using Blk.new (w.alloc (.cells #[.slice a l.length c] 22)) 3 #[.int .i64 0]⟩
    · intro h0
      first
      | (intro g hg e; have := HAW.out h0 g e; simp at hg; omega)
      | (constructor
         all_goals
           intro x hx e
           have := HAW.out h0 x.block (by simp [hx])
           omega)
end Go.Proofs.Ytoklehndfncmnaa
