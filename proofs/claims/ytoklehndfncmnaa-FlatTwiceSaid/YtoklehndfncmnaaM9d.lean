/- Chapter 9: Writes, Sizes, Rounds. -/
import Derived.Test.YtoklehndfncmnaaM9c
namespace Go.Proofs.Ytoklehndfncmnaa
set_option linter.unusedVariables false
set_option linter.unusedSimpArgs false
open Go.RowKit

theorem msF_bd (l : List OpD) (N : Nat) : ∀ (r : List OpD) (k : Nat) (s s' : Ms), MsBd k N s → msF l k s r = some s' → MsBd (k + r.length) N s' := by
  intro r
  induction r with
  | nil => intro k s s' h e; simp [msF] at e; subst e; exact h
  | cons x r ih =>
    intro k s s' h e
    simp only [msF] at e
    cases hs : msStep l k x s with
    | none => rw [hs] at e; cases e
    | some s1 =>
      rw [hs] at e
      have := ih (k + 1) s1 s' (h.step hs) e
      rwa [show k + 1 + r.length = k + (x :: r).length by simp; omega] at this
theorem measL_lengths {l : List OpD} {S : Ms} (h : measL l = some S) : S.sz.length = l.length ∧ S.rd.length = l.length ∧ 0 ≤ (S.st.getLast?.getD (0, 0)).2 ∧ (S.st.getLast?.getD (0, 0)).2 ≤ 65536 := by
  unfold measL at h
  cases hm : msF l 0 ⟨[(0, 0)], List.replicate l.length 0, List.replicate l.length 0⟩ l with
  | none => rw [hm] at h; cases h
  | some s =>
    rw [hm] at h
    simp only [Option.bind_some] at h
    split at h
    · rename_i hc
      injection h with h
      subst h
      have := msF_bd l l.length l 0 _ s ⟨fun x hx => by simp at hx; subst hx; simp, by simp, by simp⟩ hm
      refine ⟨this.2.1, this.2.2, ?_, hc⟩
      by_cases h0 : s.st = []
      · simp [h0]
      · exact (this.1 _ (mem_last h0)).2.2.1
    · cases h
def measO (l : List OpD) : Option Ms := if well l = true then measL l else none
/-- the errors -/
def sizeE (l : List OpD) : Int := if well l = true then (if (measL l).isSome = true then 0 else 9) else 6
def sizeW (l : List OpD) : Int := match measO l with | some S => (S.st.getLast?.getD (0, 0)).2 | none => 0
def sizeZ (l : List OpD) : List Int := match measO l with | some S => S.sz | none => []
def sizeR (l : List OpD) : List Int := match measO l with | some S => S.rd | none => []

def MeasAll (w : World) (l : List OpD) (e : Ending) (w' : World) : Prop :=
  ∃ a1 c1 a2 c2, e = .returned (.tuple #[.slice a1 (sizeZ l).length c1, .slice a2 (sizeR l).length c2, .int .i64 (sizeW l), .int .i64 (sizeE l)]) ∧ Own w' w.heap.size 3 a1 c1 (sizeZ l) ∧ Own w' w.heap.size 3 a2 c2 (sizeR l) ∧ Below w.heap.size w w'
theorem measure_calls (a : Option Addr) (c : Nat) (l : List OpD) (w : World) (h : At w a l) (hl : l.length ≤ 1000000) : Calls Try.prog 39 #[.slice a l.length c] w (MeasAll w l) := by
  cases hw : well l with
  | true =>
    refine (measure_well a c l w h hl hw).mono ?_
    rintro e w' ⟨h1, h2, h3⟩
    unfold MeasAll sizeZ sizeR sizeW sizeE measO
    simp only [hw, if_true]
    rcases h1 hw with ⟨S, a1, c1, a2, c2, hm, rfl, o1, o2⟩ | ⟨hm, rfl⟩
    · obtain ⟨l1, l2, _⟩ := measL_lengths hm
      rw [hm]
      exact ⟨a1, c1, a2, c2, by simp [l1, l2], o1, o2, h3⟩
    · rw [hm]
      exact ⟨none, 0, none, 0, rfl, Own.none _ _ _, Own.none _ _ _, h3⟩
  | false =>
    refine (measure_bad a c l w h hl hw).mono ?_
    rintro e w' ⟨h1, h2, h3⟩
    unfold MeasAll sizeZ sizeR sizeW sizeE measO
    simp only [hw]
    rw [h2 hw]
    exact ⟨none, 0, none, 0, rfl, Own.none _ _ _, Own.none _ _ _, h3⟩
theorem SizeW_calls (a : Option Addr) (c : Nat) (l : List OpD) (w : World) (h : At w a l) (hl : l.length ≤ 1000000) : Calls Try.prog 20 #[.slice a l.length c] w fun e w' => e = .returned (.tuple #[.int .i64 (sizeW l), .int .i64 (sizeE l)]) ∧ Below w.heap.size w w' := by
  have HM := hide (measure_calls a c l w h hl)
  unfold MeasAll at HM
  generalize sizeW l = W at *
  generalize sizeE l = E at *
  go_enter Try.func20, Try.ntmps20
  go_wp2_with (go_at_call 39; ((with_reducible refine (HM.out).mono ?_); rintro e w1 ⟨a1, c1, a2, c2, rfl, o1, o2, hb⟩))
  go_ret2
  exact ⟨rfl, hb⟩
theorem SizeZ_calls (a : Option Addr) (c : Nat) (l : List OpD) (w : World) (h : At w a l) (hl : l.length ≤ 1000000) : Calls Try.prog 33 #[.slice a l.length c] w fun e w' => ∃ a' c', e = .returned (.tuple #[.slice a' (sizeZ l).length c', .int .i64 (sizeE l)]) ∧ Own w' w.heap.size 3 a' c' (sizeZ l) ∧ Below w.heap.size w w' := by
  have HM := hide (measure_calls a c l w h hl)
  unfold MeasAll at HM
  generalize sizeW l = W at *
  generalize sizeE l = E at *
  obtain ⟨P, hP⟩ : ∃ P, P = (fun e w' => ∃ a' c', e = Ending.returned (.tuple #[.slice a' (sizeZ l).length c', .int .i64 E]) ∧ Own w' w.heap.size 3 a' c' (sizeZ l) ∧ Below w.heap.size w w') := ⟨_, rfl⟩
  rw [← hP]
  have HP := hide hP
  clear hP
  go_enter Try.func33, Try.ntmps33
  go_wp2_with (go_at_call 39; ((with_reducible refine (HM.out).mono ?_); rintro e w1 ⟨a1, c1, a2, c2, rfl, o1, o2, hb⟩))
  rw [HP.out]
  first
    | exact ⟨a1, c1, rfl, o1, hb⟩
    | exact ⟨a2, c2, rfl, o2, hb⟩
end Go.Proofs.Ytoklehndfncmnaa
