/- A law for a range over a function (as in XRf), whose body is told what has turned since the loop began. -/
import Derived.Test.YthncfoompoheoaaQb
namespace Go.Proofs.Ythncfoompoheoaa
set_option linter.unusedVariables false
set_option linter.unusedSimpArgs false
open Go.RowKit Go.Shelf
variable {F : Fence} {n : Nat} {P : Program}
theorem wpIn_rangeFunc_allT {α : Type} {g : Operand} {ps : Array Tmp} {assign body : Code} {Q : Exit → Act → World → Prop} {a : Act} {w : World}
    (hro : F.round = none) (h1 : 1 ≤ n) {gf : Nat} {lb : Array Value} (hg : a.eval g = .func (.func gf) #[] lb) (hFg : F.fn gf) (eg : ∀ args w, (callFunc gf args).run P w = .ok (.enter gf args) w)
    {encs : α → Array Value} {xs : List α} {w0 : World} {far : Nat → Prop} (hseq : SeqAll F (n - 1) P gf lb encs xs far w0) (hfar : ∀ b, w0.heap.size ≤ b → far b) (hb0 : Below w0.heap.size w0 w) (hps : ∀ x, (encs x).size = ps.size)
    (I : List α → List Nat → World → Prop) (hI : Foot I) (F0 : List Nat) (hF0 : ∀ b ∈ F0, far b) (h0 : I [] F0 w) (Ax : α → Act → World → Prop)
    (hAx : ∀ x a' W W', Ax x a' W → W.heap.size ≤ W'.heap.size → (∀ k, k ≠ w.heap.size + 1 → W'.heap[k]? = W.heap[k]?) → Ax x a' W')
    (hassign : ∀ (l : Nat) (pre : List α) (x : α) (G : List Nat) (W : World) (K : Act → World → Prop), I pre G W → (∃ t, xs = pre ++ x :: t) → w.heap.size + 1 < W.heap.size → (∀ b ∈ G, b ∈ F0 ∨ w.heap.size ≤ b) → (∀ a' W', Ax x a' W' → Below W.heap.size W W' → K a' W') →
      assign.wpIn (F.inRound l) (n - 1 - 1) P (Exit.then K (fun _ _ _ => False)) { tmps := (ps.zip (encs x)).foldl (fun t (p, v) => t.setIfInBounds p v) a.tmps, defers := [] } W)
    (hbody : ∀ (l : Nat) (pre : List α) (x : α) (G : List Nat) (W : World) (a' : Act), I pre G W → Ax x a' W → (∃ t, xs = pre ++ x :: t) → w.heap.size + 1 < W.heap.size → (∀ b ∈ G, b ∈ F0 ∨ w.heap.size ≤ b) → Turned F0 w W → body.wpIn (F.inRound l) (n - 1 - 1) P (allPost I (pre ++ [x]) G W) a' W)
    (hdone : ∀ (G : List Nat) (W : World), I xs G W → Turned F0 w W → W.heap[w.heap.size]? = some (.deferred (some [])) → w.heap.size + 1 < W.heap.size → w.heap.size ∉ G → Q .normal { a with defers := { target := .collected w.heap.size, args := #[] } :: a.defers } W) :
    (Code.rangeFunc g ps assign body).wpIn F n P Q a w := by
  refine wpIn_rangeFunc ?_
  intro fn hfn
  rw [hro]
  obtain ⟨rec, hrec⟩ : ∃ rec : LoopState → Option Code → Loop, rec = fun st pe => { state := st, pending := pe, fn, tmps := a.tmps, params := ps, assign, body, defers := w.heap.size } := ⟨_, rfl⟩
  obtain ⟨W1, hW1⟩ : ∃ W1, (w.alloc (.deferred (some []))).alloc (.loop (rec .ready none)) = W1 := ⟨_, rfl⟩
  have hL1 : W1.heap[w.heap.size + 1]? = some (.loop (rec .ready none)) := by
    rw [← hW1]; have := World.alloc_heap_new (w.alloc (.deferred (some []))) (.loop (rec .ready none)); rwa [World.size_alloc] at this
  have hK1 : W1.heap[w.heap.size]? = some (.deferred (some [])) := by
    rw [← hW1]; exact (Below.heap_alloc _ _ _ (by simp)).trans (World.alloc_heap_new w _)
  have hbw : Below w.heap.size w W1 := by rw [← hW1]; exact ((Below.refl _ w).alloc (Nat.le_refl _) _).alloc (by simp) _
  have hs1 : W1.heap.size = w.heap.size + 2 := by rw [← hW1]; simp
  have hlt0 := hI.lt _ _ _ h0
  have hI1 : I [] F0 W1 := hI.keep _ _ _ _ h0 hbw.size (fun b hb => hbw.block b (hlt0 b hb))
  have hb1 : Below w0.heap.size w0 W1 := hb0.trans (hbw.mono hb0.size)
  have hw0 := hb0.size
  refine ⟨w.heap.size + 1, [{ target := .collected w.heap.size, args := #[] }], W1, { target := .fn (.func gf) lb, args := #[.func (.yield (w.heap.size + 1)) #[] #[]] }, W1, gf,
    #[.func (.yield (w.heap.size + 1)) #[] #[]] ++ lb, W1, ?_, ?_, ?_, ?_, fun _ => h1, ?_⟩
  · rw [← hW1, hrec]; exact run_enterLoop_outer _ _ _ _ _
  · simp only [resolve, hg]
    simp [go_sem]
  · intro f' hf'; simp [Target.leads] at hf'; subst hf'; exact hFg
  · simp [invoke, go_sem, eg]
  · refine (hseq (w.heap.size + 1)
      (fun pre G W => ∃ G0, G = w.heap.size :: (w.heap.size + 1) :: G0 ∧ I pre G0 W ∧ W.heap[w.heap.size + 1]? = some (.loop (rec .ready none)) ∧ W.heap[w.heap.size]? = some (.deferred (some [])) ∧ (∀ b ∈ G0, b ≠ w.heap.size ∧ b ≠ w.heap.size + 1) ∧ (∀ b ∈ G0, b ∈ F0 ∨ w.heap.size ≤ b))
      (w.heap.size :: (w.heap.size + 1) :: F0) W1 hb1 ⟨?_, ?_⟩ ?_ ?_ ?_).mono ?_
    · rintro pre G W W' ⟨G0, rfl, k1, k2, k3, k4, k5⟩ hsz hk
      exact ⟨G0, rfl, hI.keep _ _ _ _ k1 hsz (fun b hb => hk b (by simp [hb])), (hk _ (by simp)).trans k2, (hk _ (by simp)).trans k3, k4, k5⟩
    · rintro pre G W ⟨G0, rfl, k1, k2, k3, k4, k5⟩ b hb
      simp only [List.mem_cons] at hb
      rcases hb with rfl | rfl | hb
      · exact (Array.getElem?_eq_some_iff.1 k3).1
      · exact (Array.getElem?_eq_some_iff.1 k2).1
      · exact hI.lt _ _ _ k1 b hb
    · intro b hb
      simp only [List.mem_cons] at hb
      rcases hb with rfl | rfl | hb
      · exact hfar _ hw0
      · exact hfar _ (by omega)
      · exact hF0 b hb
    · rintro pre x G W ⟨G0, rfl, hi, hl, hk, hne, hin⟩ hT hx
      have hlt : w.heap.size + 1 < W.heap.size := (Array.getElem?_eq_some_iff.1 hl).1
      have hy := run_yield (P := P) (args := encs x) hl (by rw [hrec]; exact hps x)
      rw [hrec] at hy
      refine ⟨fn, _, assign, body, hy, roundIn_of_wpIn hfn (hassign _ pre x G0 W _ hi hx hlt hin fun a' W0 hax hbl => ⟨_, run_beginRound ((hbl.block _ hlt).trans hl) (by rw [hrec]), ?_⟩)⟩
      have hz0 := hbl.size
      have hl0 := (hbl.block _ hlt).trans hl
      have hk0 : W0.heap[w.heap.size]? = some (.deferred (some [])) := (hbl.block _ (by omega)).trans hk
      have hi0 : I pre G0 W0 := hI.keep _ _ _ _ hi hz0 (fun b hb => hbl.block b (hI.lt _ _ _ hi b hb))
      obtain ⟨W2, hW2⟩ : ∃ W2, W2 = W0.putObj (w.heap.size + 1) (.loop { rec .ready none with state := .busy }) := ⟨_, rfl⟩
      have hl2 : W2.heap[w.heap.size + 1]? = some (.loop { rec .ready none with state := .busy }) := by rw [hW2]; exact World.putObj_heap_same (by omega)
      have hk2 : W2.heap[w.heap.size]? = some (.deferred (some [])) := by rw [hW2]; exact (World.putObj_heap_other (by omega)).trans hk0
      have hT2 : Turned [w.heap.size + 1] W0 W2 := by rw [hW2]; exact turned_putObj _ _ _
      have hs2 : W2.heap.size = W0.heap.size := by rw [hW2]; simp
      have hi2 : I pre G0 W2 := hI.keep _ _ _ _ hi0 hT2.size (fun b hb => hT2.block b (hI.lt _ _ _ hi0 b hb) (by simp; exact (hne b hb).2))
      have hax2 : Ax x a' W2 := hAx _ _ _ _ hax (by omega) (fun k hk => by rw [hW2]; exact World.putObj_heap_other hk)
      have hT0 : Turned (w.heap.size :: (w.heap.size + 1) :: G0) W W2 := (Turned.mono (F' := w.heap.size :: (w.heap.size + 1) :: G0) (Turned.ofBelow (F := []) hbl) (fun b hb => by cases hb)).trans (Turned.mono (F' := w.heap.size :: (w.heap.size + 1) :: G0) hT2 (fun b hb => .inl (by simp at hb; simp [hb]))) (fun b hb => .inl hb)
      rw [← hW2]
      have hTw : Turned F0 w W2 := ((Turned.mono (F' := F0) (Turned.ofBelow (F := []) hbw) (fun b hb => by cases hb)).trans hT (fun b hb => by simp only [List.mem_cons] at hb; rcases hb with rfl | rfl | hb; exact .inr (Nat.le_refl _); exact .inr (by omega); exact .inl hb)).trans ((Turned.mono (F' := [w.heap.size + 1]) (Turned.ofBelow (F := []) hbl) (fun b hb => by cases hb)).trans hT2 (fun b hb => .inl hb)) (fun b hb => by simp at hb; exact .inr (by omega))
      refine wpIn_mono (hbody _ pre x G0 W2 a' hi2 hax2 hx (by omega) hin hTw) ?_
      rintro e a3 W3 hp
      cases e with
      | normal =>
        obtain ⟨G', hi3, hT3, hG3⟩ := hp
        have hl3 : W3.heap[w.heap.size + 1]? = some (.loop { rec .ready none with state := .busy }) := (hT3.block _ (by omega) (fun hm => (hne _ hm).2 rfl)).trans hl2
        have hk3 : W3.heap[w.heap.size]? = some (.deferred (some [])) := (hT3.block _ (by omega) (fun hm => (hne _ hm).1 rfl)).trans hk2
        have hne' : ∀ b ∈ G', b ≠ w.heap.size ∧ b ≠ w.heap.size + 1 := fun b hb => (hG3 b hb).elim (fun h => hne b h) (fun h => by omega)
        have hlt3 : w.heap.size + 1 < W3.heap.size := (Array.getElem?_eq_some_iff.1 hl3).1
        have hr := run_endRound (P := P) none hl3
        refine ⟨_, _, hr, rfl, w.heap.size :: (w.heap.size + 1) :: G', ⟨G', rfl, ?_, ?_, ?_, hne', ?_⟩, ?_, ?_⟩
        · exact hI.keep _ _ _ _ hi3 (by simp) (fun b hb => World.putObj_heap_other (hne' b hb).2)
        · rw [World.putObj_heap_same hlt3, hrec]; rfl
        · exact (World.putObj_heap_other (by omega)).trans hk3
        · exact fun b hb => (hG3 b hb).elim (hin b) (fun h => .inr (by omega))
        · exact (hT0.trans hT3 (fun b hb => .inl (by simp [hb]))).trans (turned_putObj _ _ _) (fun b hb => .inl (by simp at hb; simp [hb]))
        · intro b hb
          simp only [List.mem_cons] at hb ⊢
          rcases hb with rfl | rfl | hb
          · exact .inl (.inl rfl)
          · exact .inl (.inr (.inl rfl))
          · exact (hG3 b hb).imp (fun h => .inr (.inr h)) (fun h => by omega)
      | ret => exact hp.elim
      | exit id => exact hp.elim
      | goto t => exact hp.elim
      | panic ch => exact hp.elim
      | outgrown => exact hp.elim
    · exact ⟨F0, rfl, hI1, hL1, hK1, fun b hb => by have := hlt0 b hb; omega, fun b hb => .inl hb⟩
    · rintro e W2 ⟨⟨v, rfl⟩, G, ⟨G0, rfl, hi, hl, hk, hne, hin⟩, hT, hG⟩
      have hlt : w.heap.size + 1 < W2.heap.size := (Array.getElem?_eq_some_iff.1 hl).1
      refine ⟨none, _, by have := run_endLoop (P := P) hl (by rw [hrec]; simp); rw [hrec] at this; exact this, hdone G0 _ (hI.keep _ _ _ _ hi (by simp) (fun b hb => World.putObj_heap_other (hne b hb).2)) ?_ ((World.putObj_heap_other (by omega)).trans hk) (by simpa using hlt) (fun hm => (hne _ hm).1 rfl)⟩
      exact ((Turned.mono (F' := F0) (Turned.ofBelow (F := []) hbw) (fun b hb => by cases hb)).trans hT (fun b hb => by simp only [List.mem_cons] at hb; rcases hb with rfl | rfl | hb; exact .inr (Nat.le_refl _); exact .inr (by omega); exact .inl hb)).trans (turned_putObj _ _ _) (fun b hb => by simp at hb; exact .inr (by omega))
end Go.Proofs.Ythncfoompoheoaa
