/- Chapter 8: Match. -/
import Derived.Test.YtoklehndfncmnaaN8b
namespace Go.Proofs.Ytoklehndfncmnaa
set_option linter.unusedVariables false
set_option linter.unusedSimpArgs false
open Go.RowKit

/-- A slice type whose elements are of one cell, and their zero. -/
structure TyZ (P : Program) (T E : TypeId) {α : Type} [Flat α] (z0 : α) (v : Value) : Prop where
  und : P.underlying T = some (.slice E)
  info : ∃ i, P.info? E = some i ∧ i.zero = some v ∧ i.size = 1 ∧ i.bytes ≤ 128
  enc : Flat.enc z0 = [v]
  cells : v.cells = #[v]
theorem TyZ.of {P : Program} {T E : TypeId} {α : Type} [Flat α] {z0 : α} {v : Value} {bytes : Nat} (h0 : P.underlying T = some (.slice E)) (h : (P.info? E).map (fun i => (i.zero, i.size, i.bytes)) = some (some v, 1, bytes))
    (h2 : bytes ≤ 128) (h3 : Flat.enc z0 = [v]) (h4 : v.cells = #[v]) : TyZ P T E z0 v := by
  obtain ⟨i, hi, hz0, hz1, hz2⟩ := info_parts h
  exact ⟨h0, ⟨i, hi, hz0, hz1, by omega⟩, h3, h4⟩
theorem tyI0 : TyZ Try.prog 67 3 (0 : Int) (.int .i64 0) := TyZ.of (bytes := 8) Try.underlying67 (by kernel_rfl) (by decide) rfl rfl

theorem wpList_mk {P : Program} {ops : Array Oper} {rest : List Oper} {o : Oper} {act : Act} {Q : Exit → Act → World → Prop} {w : World} {T E : TypeId} {α : Type} [Flat α] {z0 : α} {v : Value} (ty : TyZ P T E z0 v) {B n : Nat} {x y : Operand} {k1 k2 : IntKind} {n1 n2 : Int}
    (hgd : o.guard = none) (ho : o.op = .makeSlice T x y) (hx : act.eval x = .int k1 n1) (hy : act.eval y = .int k2 n2) (h1 : n1 = (n : Int)) (h2 : n2 = (n : Int)) (hB : B ≤ w.heap.size) (hn : n ≤ 1000000000)
    (h : ∀ w', Own w' B E (some ⟨w.heap.size, 0, none⟩) n (List.replicate n z0) → w.grownBy w' none → wpList P ops Q rest (act.put o.dst (.slice (some ⟨w.heap.size, 0, none⟩) n n)) w') :
    wpList P ops Q (o :: rest) act w := by
  obtain ⟨i, hi, hz, hs, hb⟩ := ty.info
  have hlen : Flat.n α = 1 := by rw [← Flat.len z0, ty.enc]; rfl
  refine wpList_make_full w hgd x y T ho B E i v 1 ty.und hi hz hs k1 k2 n1 n2 n hx hy h1 h2 (Nat.le_trans (Nat.mul_le_mul hb hn) (by decide)) (by simp only [maxLen]; omega) hB fun w' g1 g2 => h w' ?_ g2
  unfold Own
  rw [List.length_replicate, hlen]
  have e : (madeCells v.cells (n * 1)).toList = (List.replicate n z0).flatMap Flat.enc := by
    rw [ty.cells, Nat.mul_one, toList_madeCells_one]
    clear h g1 hx hy h1 h2 hn
    induction n with
    | zero => rfl
    | succ n ih => rw [List.replicate_succ, List.replicate_succ, List.flatMap_cons, ← ih, ty.enc]; rfl
  rw [← e]
  exact g1

def JM (B bo bl bp go co N c : Nat) (a : Option Addr) (l : List OpD) (k : Nat) (F : List Nat) (w : World) : Prop :=
  ∃ ap cp n, F = bo :: bl :: bp :: go :: (ap.map (·.block)).toList ∧ Blk w bo 67 #[.slice (some ⟨go, 0, none⟩) N co] ∧ Blk w bl 22 #[.slice a N c] ∧ Blk w bp 67 #[.slice ap n cp] ∧ n = (stAt l k).length ∧
    Own w B 3 (some ⟨go, 0, none⟩) co (outAt l k) ∧ Own w B 3 ap cp (stAt l k) ∧ ap.map (·.block) ≠ some go

/-- What belongs together, or that operations are not well nested. -/
def matchS (l : List OpD) : List Int × Int := if well l = true then (matchL l, 0) else ([], 6)
theorem stAt_length_le (l : List OpD) (k : Nat) : (stAt l k).length ≤ k := by
  have : ∀ (m : List OpD) (i : Nat) (st : List Int), (stF i st m).length ≤ st.length + m.length := by
    intro m
    induction m with
    | nil => intro i st; simp [stF]
    | cons x r ih =>
      intro i st
      have := ih (i + 1) (stk st i x)
      have h2 : (stk st i x).length ≤ st.length + 1 := by unfold stk; split; · simp
                                                          split <;> simp; omega
      simp only [stF, List.length_cons]
      omega
  have := this (l.take k) 0 []
  unfold stAt
  simp at this
  omega

def MatchPost (w : World) (l : List OpD) (e : Ending) (w' : World) : Prop :=
  ∃ a c, e = .returned (.tuple #[.slice a (matchS l).1.length c, .int .i64 (matchS l).2]) ∧ Own w' w.heap.size 3 a c (matchS l).1 ∧ Below w.heap.size w w'

section
variable {B bo bl bp go co N c : Nat} {a : Option Addr} {l : List OpD}
theorem JM.keep {k : Nat} {F : List Nat} {w w' : World} (h : JM B bo bl bp go co N c a l k F w) (hb : ∀ b ∈ F, w'.heap[b]? = w.heap[b]?) : JM B bo bl bp go co N c a l k F w' := by
  obtain ⟨ap, cp, n, rfl, h1, h2, h3, h4, h5, h6, h7⟩ := h
  exact ⟨ap, cp, n, rfl, (hb bo (by simp)).trans h1, (hb bl (by simp)).trans h2, (hb bp (by simp)).trans h3, h4, h5.keep (fun k hk _ => hb k (by injection hk with hk; simp [← hk])), h6.keep (fun k hk _ => hb k (by simp [hk])), h7⟩
theorem JM.lt {k : Nat} {F : List Nat} {w : World} (h : JM B bo bl bp go co N c a l k F w) : ∀ b ∈ F, b < w.heap.size := by
  obtain ⟨ap, cp, n, rfl, h1, h2, h3, h4, h5, h6, h7⟩ := h
  intro b hb
  simp at hb
  rcases hb with rfl | rfl | rfl | rfl | hb
  · exact h1.lt
  · exact h2.lt
  · exact h3.lt
  · exact (h5.blk _ rfl).2
  · exact (h6.blk b (by simpa using hb)).2

theorem JM.call {w' : World} {F : List Nat} {k : Nat} {x : OpD} {b : Option Addr} {n d : Nat} (hx : l[k]? = some x) (h0 : x.kind = 0 → stAt l k ≠ []) (hJ : JM B bo bl bp go co N c a l k F w') (hat : At w' a l) (hN : N = l.length) (hl : l.length ≤ 1000000) (e1 : bo ≠ bp)
    (e3 : a.map (·.block) ≠ some go) (e4 : a.map (·.block) ≠ some bp) :
    Calls Try.prog 49 #[.int .i64 k, .slice b n d, .pointer (some ⟨bo, 0, none⟩), .pointer (some ⟨bl, 0, none⟩), .pointer (some ⟨bp, 0, none⟩)] w' fun e w'' => e = .returned (.tuple #[]) ∧ ∃ F', JM B bo bl bp go co N c a l (k + 1) F' w'' ∧ Turned F w' w'' ∧ ∀ b ∈ F', b ∈ F ∨ w'.heap.size ≤ b := by
  have hlt := hJ.lt
  obtain ⟨ap, cp, m, rfl, h1, h2, h3, h4, h5, h6, h7⟩ := hJ
  have hkl : k < l.length := (List.getElem?_eq_some_iff.1 hx).1
  have hm := stAt_length_le l k
  refine (MatchClo_calls k x b n d hx h0 (stAt_lt l k (by omega)) hN (outAt_length l k) hl h4 (by omega) h1 h2 h3 hat h5 h6 e1 h7 e3 e4).mono ?_
  rintro e w2 ⟨rfl, ap', cp', m', g1, g2, g3, g4, g5, g6⟩
  have f1 : go ≠ bo := by have := h5.blk_ne h1 (by decide); simpa using this
  have f2 : go ≠ bl := by have := h5.blk_ne h2 (by decide); simpa using this
  have f4 : bl ≠ bp := by rintro rfl; unfold Blk at h2 h3; rw [h2] at h3; injection h3 with h3; injection h3 with _ h3; cases h3
  have f6 : ap.map (·.block) ≠ some bo := h6.blk_ne h1 (by decide)
  have f7 : ap.map (·.block) ≠ some bl := h6.blk_ne h2 (by decide)
  refine ⟨rfl, _, ⟨ap', cp', m', rfl, ?_, ?_, g3, ?_, ?_, ?_, ?_⟩, ?_, ?_⟩
  · exact (g5.block bo (hlt bo (by simp)) (by simp only [List.mem_cons, not_or, Option.mem_toList]; exact ⟨f1.symm, e1, f6⟩)).trans h1
  · exact (g5.block bl (hlt bl (by simp)) (by simp only [List.mem_cons, not_or, Option.mem_toList]; exact ⟨f2.symm, f4, f7⟩)).trans h2
  · rw [stAt_succ l k x hx]; exact g1
  · rw [outAt_succ l k x hx]; exact g2
  · rw [stAt_succ l k x hx]; exact g4
  · rcases g6 with e | ⟨g, e, hle⟩
    · rw [e]; exact h7
    · rw [e]; have := hlt go (by simp); simp; omega
  · refine g5.mono (fun g hg => .inl ?_)
    simp at hg ⊢
    rcases hg with hg | hg | hg
    · exact .inr (.inr (.inr (.inl hg)))
    · exact .inr (.inr (.inl hg))
    · exact .inr (.inr (.inr (.inr hg)))
  · intro g hg
    simp at hg
    rcases hg with hg | hg | hg | hg | hg
    · exact .inl (by simp [hg])
    · exact .inl (by simp [hg])
    · exact .inl (by simp [hg])
    · exact .inl (by simp [hg])
    · rcases g6 with e | ⟨g', e, hle⟩
      · exact .inl (by rw [show ap'.map (·.block) = some g by simpa using hg] at e; simp [← e])
      · right
        rw [show ap'.map (·.block) = some g by simpa using hg] at e
        injection e with e
        omega
end

set_option maxHeartbeats 1600000 in
theorem Match_calls (a : Option Addr) (c : Nat) (l : List OpD) (w : World) (h : At w a l) (hl : l.length ≤ 1000000) :
    Calls Try.prog 32 #[.slice a l.length c] w (MatchPost w l) := by
  have haw : l ≠ [] → ∀ g, a.map (·.block) = some g → g < w.heap.size := by
    intro h0 g hg
    obtain ⟨b, off, rfl, hlt⟩ := h.lt h0
    simp at hg
    omega
  have HAW := hide haw
  obtain ⟨Wl, hWl⟩ : ∃ b, b = well l := ⟨_, rfl⟩
  have HWL := hide hWl
  clear haw hWl
  have hcase : Wl = true ∨ Wl = false := by cases Wl <;> simp
  rcases hcase with rfl | rfl
  · go_enter Try.func32, Try.ntmps32
    go_wp2_with (first
      | (at_make; refine wpList_mk tyI0 (B := w.heap.size) (n := l.length) rfl rfl rfl rfl rfl rfl (by simp) (by omega) ?_; intro w2 hown2 hg2; have hb2 := (Blk.new w 22 #[.slice a l.length c]).grown hg2 (by simp); obtain ⟨p0, p1⟩ := hb2.c1; have hs2 := hg2.size; simp only [World.size_alloc] at hs2; have hz2 : w.heap.size < w2.heap.size := (by omega); simp only [World.size_alloc] at hown2; have hB2 : Below w.heap.size w w2 := Below.grown (Below.alloc (Below.refl _ _) (Nat.le_refl _) _) hg2 (by simp) (fun k hk => by cases hk))
      | (go_at_call 48; (refine (walkM_calls _ _ _ a c l _ (h.belowN (Below.alloc (Below.alloc (hB2) (by omega) _) (by simp; omega) _)) hl (JM w.heap.size w2.heap.size w.heap.size (w2.heap.size + 1) (w.heap.size + 1) l.length l.length c a l) [w2.heap.size, w.heap.size, w2.heap.size + 1, w.heap.size + 1] (fun k F w w' hJ _ hb => hJ.keep hb) (fun k F w hJ => hJ.lt) ?_ ?_ ?_).mono ?_); rotate_right; rintro e w3 ⟨rfl, hT3, hW3⟩; rw [← HWL.out]; obtain ⟨F', ⟨ap, cp, n, hFF, h1, h2, h3, h4, h5, h6, h7⟩, hF'⟩ := hW3 HWL.out.symm; obtain ⟨q0, q1⟩ := h1.c1; have HFF := hide hFF; have H4 := hide h4; clear hFF h4 hW3))
    · go_ret2
      have hB3 : Below w.heap.size w w3 := hT3.below (Below.alloc (Below.alloc hB2 (by omega) _) (by simp; omega) _) (fun g hg => by simp at hg; omega) (by simp; omega)
      unfold MatchPost
      have e : matchS l = (outAt l l.length, 0) := by unfold matchS; rw [if_pos HWL.out.symm]; simp [matchL, outAt]
      rw [e]
      exact ⟨some ⟨w.heap.size + 1, 0, none⟩, l.length, by rw [outAt_length]; rfl, h5, hB3⟩
    · intro k x F w' b n d hx h0 h7 hk0 hJ hat hn hT
      have hata : At w' a l := (h.belowN (Below.alloc (Below.alloc (hB2) (by omega) _) (by simp; omega) _)).turned hT (fun h0 g hg e => by have := HAW.out h0 g e; simp at hg; omega)
      have hne : ∀ g, w.heap.size ≤ g → l ≠ [] → a.map (·.block) ≠ some g := fun g hg h0 e => by have := HAW.out h0 g e; omega
      have hl0 : l ≠ [] := by intro e; subst e; simp at hx
      exact JM.call hx hk0 hJ hata rfl hl (by omega) (hne _ (by omega) hl0) (hne _ (by omega) hl0)
    · refine ⟨none, 0, 0, rfl, (Blk.new w2 _ _).alloc _, (hb2.alloc _).alloc _, by simpa using Blk.new (w2.alloc _) _ _, rfl, ?_, Own.none _ _ _, by simp⟩
      have : outAt l 0 = List.replicate l.length 0 := by simp [outAt, mF]
      rw [this]
      exact (hown2.alloc _).alloc _
    · intro h0 g hg e
      have := HAW.out h0 g e
      simp at hg
      omega
  · go_enter Try.func32, Try.ntmps32
    go_wp2_with (first
      | (at_make; refine wpList_mk tyI0 (B := w.heap.size) (n := l.length) rfl rfl rfl rfl rfl rfl (by simp) (by omega) ?_; intro w2 hown2 hg2; have hb2 := (Blk.new w 22 #[.slice a l.length c]).grown hg2 (by simp); obtain ⟨p0, p1⟩ := hb2.c1; have hs2 := hg2.size; simp only [World.size_alloc] at hs2; have hz2 : w.heap.size < w2.heap.size := (by omega); simp only [World.size_alloc] at hown2; have hB2 : Below w.heap.size w w2 := Below.grown (Below.alloc (Below.refl _ _) (Nat.le_refl _) _) hg2 (by simp) (fun k hk => by cases hk))
      | (go_at_call 48; (refine (walkM_calls _ _ _ a c l _ (h.belowN (Below.alloc (Below.alloc (hB2) (by omega) _) (by simp; omega) _)) hl (JM w.heap.size w2.heap.size w.heap.size (w2.heap.size + 1) (w.heap.size + 1) l.length l.length c a l) [w2.heap.size, w.heap.size, w2.heap.size + 1, w.heap.size + 1] (fun k F w w' hJ _ hb => hJ.keep hb) (fun k F w hJ => hJ.lt) ?_ ?_ ?_).mono ?_); rotate_right; rintro e w3 ⟨rfl, hT3, hW3⟩; rw [← HWL.out]; clear hW3))
    · go_ret2
      have hB3 : Below w.heap.size w w3 := hT3.below (Below.alloc (Below.alloc hB2 (by omega) _) (by simp; omega) _) (fun g hg => by simp at hg; omega) (by simp; omega)
      unfold MatchPost
      have e : matchS l = ([], 6) := by unfold matchS; rw [← HWL.out]; rfl
      rw [e]
      exact ⟨none, 0, rfl, Own.none _ _ _, hB3⟩
    · intro k x F w' b n d hx h0 h7 hk0 hJ hat hn hT
      have hata : At w' a l := (h.belowN (Below.alloc (Below.alloc (hB2) (by omega) _) (by simp; omega) _)).turned hT (fun h0 g hg e => by have := HAW.out h0 g e; simp at hg; omega)
      have hne : ∀ g, w.heap.size ≤ g → l ≠ [] → a.map (·.block) ≠ some g := fun g hg h0 e => by have := HAW.out h0 g e; omega
      have hl0 : l ≠ [] := by intro e; subst e; simp at hx
      exact JM.call hx hk0 hJ hata rfl hl (by omega) (hne _ (by omega) hl0) (hne _ (by omega) hl0)
    · refine ⟨none, 0, 0, rfl, (Blk.new w2 _ _).alloc _, (hb2.alloc _).alloc _, by simpa using Blk.new (w2.alloc _) _ _, rfl, ?_, Own.none _ _ _, by simp⟩
      have : outAt l 0 = List.replicate l.length 0 := by simp [outAt, mF]
      rw [this]
      exact (hown2.alloc _).alloc _
    · intro h0 g hg e
      have := HAW.out h0 g e
      simp at hg
      omega
end Go.Proofs.Ytoklehndfncmnaa
