/- Marks of chapter 20 in memory. -/
import Derived.Test.YthncfoompoheoaaMk
import Derived.Test.YthncfoompoheoaaQa
namespace Go.Proofs.Ythncfoompoheoaa
set_option linter.unusedVariables false
set_option linter.unusedSimpArgs false
open Go.RowKit
/-- a mark in memory: its place, its rounds' slice -/
structure HdM where
  at' : Int
  a : Option Addr
  n : Nat
  c : Nat
instance : Flat HdM := ⟨2, fun x => [.int .i64 x.at', .slice x.a x.n x.c], fun _ => rfl, fun x u hu => by simp at hu; rcases hu with rfl | rfl <;> rfl, by decide⟩
def HdM.of (w : World) (h : HdM) (x : Nat × List Int) : Prop := h.at' = (x.1 : Int) ∧ h.n = x.2.length ∧ At w h.a x.2
/-- marks that are the call's own: what their rounds lie in -/
structure OwnK (w : World) (B : Nat) (E : TypeId) (ra : Option Addr) (a : Option Addr) (c : Nat) (hs : List HdM) (L : List (Nat × List Int)) : Prop where
  out : Own w B E a c hs
  len : hs.length = L.length
  row : ∀ (i : Nat) (h : HdM) (x : Nat × List Int), hs[i]? = some h → L[i]? = some x → HdM.of w h x
  far : ∀ (i : Nat) (h : HdM) (q : Nat), hs[i]? = some h → h.a.map (·.block) = some q → (ra.map (·.block) = some q ∨ B ≤ q) ∧ q < w.heap.size ∧ a.map (·.block) ≠ some q
  cap : ∀ (i : Nat) (h : HdM), hs[i]? = some h → h.n ≤ h.c
theorem OwnK.nil {w : World} {B : Nat} {E : TypeId} {ra a : Option Addr} {c : Nat} (h : Own w B E a c ([] : List HdM)) : OwnK w B E ra a c [] [] := ⟨h, rfl, fun i h x hx => by simp at hx, fun i h q hx => by simp at hx, fun i h hx => by simp at hx⟩
theorem HdM.of.belowN {w w' : World} {h : HdM} {x : Nat × List Int} (k : HdM.of w h x) (hb : Below w.heap.size w w') : HdM.of w' h x := ⟨k.1, k.2.1, k.2.2.belowN hb⟩
theorem OwnK.belowN {w w' : World} {B : Nat} {E : TypeId} {ra a : Option Addr} {c : Nat} {hs : List HdM} {L : List (Nat × List Int)} (h : OwnK w B E ra a c hs L) (hb : Below w.heap.size w w') : OwnK w' B E ra a c hs L :=
  ⟨h.out.belowN hb, h.len, fun i y x h1 h2 => (h.row i y x h1 h2).belowN hb, fun i y q h1 h2 => let ⟨k1, k2, k3⟩ := h.far i y q h1 h2; ⟨k1, Nat.lt_of_lt_of_le k2 hb.size, k3⟩, h.cap⟩
theorem HdM.of.grown {w w' : World} {h : HdM} {x : Nat × List Int} {row : Option Nat} (k : HdM.of w h x) (hg : w.grownBy w' row) (hr : ∀ q, h.a.map (·.block) = some q → row ≠ some q) : HdM.of w' h x :=
  ⟨k.1, k.2.1, k.2.2.grown hg (fun hne => by
    obtain ⟨b, off, e, _⟩ := k.2.2.lt hne
    exact .inl (fun e' => hr b (by rw [e]; rfl) (by rw [← e', e]; rfl)))⟩
/-- more marks behind -/
theorem OwnK.pushAll {w w' : World} {B : Nat} {E : TypeId} {ra a a' : Option Addr} {c c' : Nat} {hs hs2 : List HdM} {L L2 : List (Nat × List Int)} (h : OwnK w B E ra a c hs L) (own : Own w' B E a' c' (hs ++ hs2)) (hg : w.grownBy w' (a.map (·.block)))
    (hm : a'.map (·.block) = a.map (·.block) ∨ ∃ g, a'.map (·.block) = some g ∧ w.heap.size ≤ g) (hl : hs2.length = L2.length) (hrow : ∀ (i : Nat) (h : HdM) (x : Nat × List Int), hs2[i]? = some h → L2[i]? = some x → HdM.of w h x)
    (hfar : ∀ (i : Nat) (h : HdM) (q : Nat), hs2[i]? = some h → h.a.map (·.block) = some q → (ra.map (·.block) = some q ∨ B ≤ q) ∧ q < w.heap.size ∧ a.map (·.block) ≠ some q) (hcap : ∀ (i : Nat) (h : HdM), hs2[i]? = some h → h.n ≤ h.c) : OwnK w' B E ra a' c' (hs ++ hs2) (L ++ L2) := by
  have hf : ∀ (i : Nat) (y : HdM) (q : Nat), (hs ++ hs2)[i]? = some y → y.a.map (·.block) = some q → (ra.map (·.block) = some q ∨ B ≤ q) ∧ q < w.heap.size ∧ a.map (·.block) ≠ some q := by
    intro i y q hy hq
    by_cases hi : i < hs.length
    · rw [List.getElem?_append_left hi] at hy; exact h.far i y q hy hq
    · rw [List.getElem?_append_right (by omega)] at hy; exact hfar _ y q hy hq
  refine ⟨own, by simp [h.len, hl], fun i y x hy hx => ?_, fun i y q hy hq => ?_, fun i y hy => by
    by_cases hi : i < hs.length
    · rw [List.getElem?_append_left hi] at hy; exact h.cap i y hy
    · rw [List.getElem?_append_right (by omega)] at hy; exact hcap _ y hy⟩
  · refine HdM.of.grown (w := w) ?_ hg (fun q hq => (hf i y q hy hq).2.2)
    by_cases hi : i < hs.length
    · rw [List.getElem?_append_left hi] at hy
      rw [List.getElem?_append_left (by rw [← h.len]; exact hi)] at hx
      exact h.row i y x hy hx
    · rw [List.getElem?_append_right (by omega)] at hy
      rw [List.getElem?_append_right (by rw [← h.len]; omega), ← h.len] at hx
      exact hrow _ y x hy hx
  · obtain ⟨k1, k2, k3⟩ := hf i y q hy hq
    refine ⟨k1, Nat.lt_of_lt_of_le k2 hg.size, ?_⟩
    rcases hm with e | ⟨g, e, hg'⟩
    · rw [e]; exact k3
    · rw [e]; intro e'; injection e' with e'; omega
theorem OwnK.push {w w' : World} {B : Nat} {E : TypeId} {ra a a' : Option Addr} {c c' : Nat} {hs : List HdM} {y : HdM} {L : List (Nat × List Int)} {x : Nat × List Int} (h : OwnK w B E ra a c hs L) (own : Own w' B E a' c' (hs ++ [y])) (hg : w.grownBy w' (a.map (·.block)))
    (hm : a'.map (·.block) = a.map (·.block) ∨ ∃ g, a'.map (·.block) = some g ∧ w.heap.size ≤ g) (hrow : HdM.of w y x) (hfar : ∀ q, y.a.map (·.block) = some q → (ra.map (·.block) = some q ∨ B ≤ q) ∧ q < w.heap.size ∧ a.map (·.block) ≠ some q) (hcap : y.n ≤ y.c) : OwnK w' B E ra a' c' (hs ++ [y]) (L ++ [x]) :=
  h.pushAll own hg hm rfl (fun i h' x' h1 h2 => by
    have hi : i = 0 := by have := (List.getElem?_eq_some_iff.1 h1).1; simp at this; exact this
    subst hi
    simp at h1 h2
    subst h1 h2
    exact hrow) (fun i h' q h1 h2 => by
    have hi : i = 0 := by have := (List.getElem?_eq_some_iff.1 h1).1; simp at this; exact this
    subst hi
    simp at h1
    subst h1
    exact hfar q h2) (fun i h' h1 => by
    have hi : i = 0 := by have := (List.getElem?_eq_some_iff.1 h1).1; simp at this; exact this
    subst hi
    simp at h1
    subst h1
    exact hcap)
theorem OwnK.mono {w : World} {B B' : Nat} {E : TypeId} {ra a : Option Addr} {c : Nat} {hs : List HdM} {L : List (Nat × List Int)} (h : OwnK w B E ra a c hs L) (hB : B' ≤ B) : OwnK w B' E ra a c hs L :=
  ⟨h.out.mono hB, h.len, h.row, fun i y q h1 h2 => let ⟨k1, k2, k3⟩ := h.far i y q h1 h2; ⟨k1.imp id (fun k => Nat.le_trans hB k), k2, k3⟩, h.cap⟩
/-- marks that a call has made, behind those of its caller -/
theorem OwnK.app {w w' : World} {B B2 : Nat} {E : TypeId} {ra ra2 a a2 a' : Option Addr} {c c2 c' : Nat} {hs hs2 : List HdM} {L L2 : List (Nat × List Int)} (h : OwnK w B E ra a c hs L) (h2 : OwnK w B2 E ra2 a2 c2 hs2 L2) (own : Own w' B E a' c' (hs ++ hs2)) (hg : w.grownBy w' (a.map (·.block)))
    (hm : a'.map (·.block) = a.map (·.block) ∨ ∃ g, a'.map (·.block) = some g ∧ w.heap.size ≤ g) (hB : B ≤ B2) (ha : ∀ q, a.map (·.block) = some q → q < B2) (hra : ∀ q, ra2.map (·.block) = some q → (ra.map (·.block) = some q ∨ B ≤ q) ∧ a.map (·.block) ≠ some q) : OwnK w' B E ra a' c' (hs ++ hs2) (L ++ L2) :=
  h.pushAll own hg hm h2.len h2.row (fun i y q h1 h3 => by
    obtain ⟨k1, k2, _⟩ := h2.far i y q h1 h3
    rcases k1 with k1 | k1
    · obtain ⟨m1, m2⟩ := hra q k1; exact ⟨m1, k2, m2⟩
    · exact ⟨.inr (Nat.le_trans hB k1), k2, fun e => by have := ha q e; omega⟩) h2.cap
end Go.Proofs.Ythncfoompoheoaa
