/- Chapter 23: what sees states: a row, the last one; States, Run. -/
import Derived.Test.YtjfpnbnkfcgjcaaC23e
namespace Go.Proofs.Ytjfpnbnkfcgjcaa
set_option linter.unusedVariables false
set_option linter.unusedSimpArgs false
open Go.RowKit
theorem tyUU : Ty Try.prog 66 25 Hd := Ty.of (z := .slice none 0 0) (size := 1) (bytes := 24) Try.underlying66 (by kernel_rfl) rfl (by decide) rfl
theorem OwnL.mono {w : World} {B B' : Nat} {E : TypeId} {a : Option Addr} {c : Nat} {hs : List Hd} {ls : List (List UInt64)} (h : OwnL w B E a c hs ls) (hB : B' ≤ B) : OwnL w B' E a c hs ls :=
  ⟨h.1.mono hB, h.2.1, fun i x l hx hl => let ⟨e1, e2, e3, e4⟩ := h.2.2 i x l hx hl; ⟨e1, e2, e3, fun h0 => let ⟨g, g1, g2, g3⟩ := e4 h0; ⟨g, g1, Nat.le_trans hB g2, g3⟩⟩⟩
/-- the first states -/
noncomputable def ChD.firsts (c : ChD) (xs : List UInt64) (j : Nat) : List (List UInt64) := (List.range j).map (c.iter xs)
theorem ChD.firsts_succ (c : ChD) (xs : List UInt64) (j : Nat) : c.firsts xs j ++ [c.iter xs j] = c.firsts xs (j + 1) := by unfold ChD.firsts; rw [List.range_succ, List.map_append]; rfl
theorem ChD.firsts_length (c : ChD) (xs : List UInt64) (j : Nat) : (c.firsts xs j).length = j := by unfold ChD.firsts; simp
/-- a row holds the first states -/
def JS (B r : Nat) (c : ChD) (xs : List UInt64) (j : Nat) (F : List Nat) (w : World) : Prop :=
  ∃ ao co hs, F = r :: (ao.map (·.block)).toList ∧ Blk w r 120 #[.slice ao j co] ∧ OwnL w B 25 ao co hs (c.firsts xs j)
theorem JS.keep {B r : Nat} {c : ChD} {xs : List UInt64} {j : Nat} {F : List Nat} {w w' : World} (h : JS B r c xs j F w) (hb : Below w.heap.size w w') : JS B r c xs j F w' := by
  obtain ⟨ao, co, hs, rfl, h1, h2⟩ := h
  exact ⟨ao, co, hs, rfl, h1.belowN hb, h2.belowN hb⟩
theorem JS.lt {B r : Nat} {c : ChD} {xs : List UInt64} {j : Nat} {F : List Nat} {w : World} (h : JS B r c xs j F w) : ∀ b ∈ F, b < w.heap.size := by
  obtain ⟨ao, co, hs, rfl, h1, h2⟩ := h
  intro b hb
  simp at hb
  rcases hb with rfl | hb
  · exact h1.lt
  · exact (h2.1.blk b (by simpa using hb)).2
/-- a variable holds the last state -/
def JR (p n : Nat) (c : ChD) (xs : List UInt64) (j : Nat) (F : List Nat) (w : World) : Prop :=
  F = [p] ∧ ∃ v, Blk w p 25 #[v] ∧ (1 ≤ j → ∃ b d, v = .slice b n d ∧ n ≤ d ∧ At w b (c.iter xs (j - 1)))
theorem JR.keep {p n : Nat} {c : ChD} {xs : List UInt64} {j : Nat} {F : List Nat} {w w' : World} (h : JR p n c xs j F w) (hb : Below w.heap.size w w') : JR p n c xs j F w' := by
  obtain ⟨rfl, v, h1, h2⟩ := h
  exact ⟨rfl, v, h1.belowN hb, fun hj => let ⟨b, d, e1, e2, e3⟩ := h2 hj; ⟨b, d, e1, e2, e3.belowN hb⟩⟩
theorem JR.lt {p n : Nat} {c : ChD} {xs : List UInt64} {j : Nat} {F : List Nat} {w : World} (h : JR p n c xs j F w) : ∀ b ∈ F, b < w.heap.size := by
  obtain ⟨rfl, v, h1, h2⟩ := h
  intro b hb
  simp at hb
  rw [hb]; exact h1.lt
theorem Last_calls (p n : Nat) (c : ChD) (xs : List UInt64) (j : Nat) (F : List Nat) (b : Option Addr) (d : Nat) (w : World) (h : JR p n c xs j F w) (hat : At w b (c.iter xs j)) (hnd : n ≤ d) (hb : ∀ q, b.map (·.block) = some q → q ∉ F) :
    Calls Try.prog 73 #[.slice b n d, .pointer (some ⟨p, 0, none⟩)] w fun e w2 => e = .returned (.tuple #[]) ∧ ∃ F', JR p n c xs (j + 1) F' w2 ∧ Turned F w w2 ∧ ∀ q ∈ F', q ∈ F ∨ w.heap.size ≤ q := by
  obtain ⟨rfl, v, h1, h2⟩ := h
  obtain ⟨p0, p1⟩ := h1.c1
  have hT : Turned [p] w (w.setCell ⟨p, 0, none⟩ (.slice b n d)) := Turned.ofGrown (F := [p]) (grown_setCell w p 0 _) (fun q hq => .inl (by injection hq with hq; simp [hq]))
  have hat2 := hat.turned hT (fun _ q hq e => hb q e hq)
  have h3 := h1.set_ 0 (.slice b n d)
  go_enter Try.func73, Try.ntmps73
  go_wp2
  go_end0
  exact ⟨rfl, [p], ⟨rfl, _, h3, fun _ => ⟨b, d, rfl, hnd, hat2⟩⟩, hT, fun q hq => .inl hq⟩
theorem Add_calls (B r n : Nat) (hr : r < B) (c : ChD) (xs : List UInt64) (j : Nat) (hj : j ≤ 1000000) (F : List Nat) (b : Option Addr) (d : Nat) (w : World) (h : JS B r c xs j F w) (hat : At w b (c.iter xs j)) (hn : n = (c.iter xs j).length) (hnd : n ≤ d) (hb : ∀ q, b.map (·.block) = some q → B ≤ q ∧ q ∉ F) (hB : B ≤ w.heap.size) :
    Calls Try.prog 72 #[.pointer (some ⟨r, 0, none⟩), .slice b n d] w fun e w2 => e = .returned (.tuple #[]) ∧ ∃ F', JS B r c xs (j + 1) F' w2 ∧ Turned F w w2 ∧ ∀ q ∈ F', q ∈ F ∨ w.heap.size ≤ q := by
  obtain ⟨ao, co, hs, rfl, h1, h2⟩ := h
  obtain ⟨p0, p1⟩ := h1.c1
  have hjs : j = hs.length := by rw [h2.2.1, ChD.firsts_length]
  have hne : c.iter xs j ≠ [] → ∃ g, b.map (·.block) = some g ∧ B ≤ g ∧ ao.map (·.block) ≠ some g := fun h0 => by
    obtain ⟨g, off, rfl, _⟩ := hat.lt h0
    obtain ⟨q1, q2⟩ := hb g rfl
    exact ⟨g, rfl, q1, fun e => q2 (by simp [e])⟩
  have hrao : ao.map (·.block) ≠ some r := fun e => by have := (h2.1.blk r e).1; omega
  have hrl := h1.lt
  have hown := h2.1
  have HJ := hide hjs
  clear hjs
  subst hn
  go_enter Try.func72, Try.ntmps72
  go_wp2_with (at_builtin; refine wpList_push tyUU hown (⟨b, (c.iter xs j).length, d⟩ : Hd) rfl rfl rfl rfl rfl rfl HJ.out hB (by omega) ?_; intro a3 c3 w3 hown3 hg3 hm3; have h13 := h1.grown hg3 (fun e => hrao e.symm); obtain ⟨q0, q1⟩ := h13.c1)
  go_end0
  have hpush := (h2.push hat hnd hne hown3 hg3 hm3).setCell (p := ⟨r, 0, none⟩) hr (.slice a3 (j + 1) c3)
  rw [c.firsts_succ xs j] at hpush
  have hs3 := hg3.size
  refine ⟨rfl, r :: (a3.map (·.block)).toList, ⟨a3, c3, _, rfl, h13.set_ 0 (.slice a3 (j + 1) c3), hpush⟩, (Turned.ofGrown hg3 (fun q hq => .inl (by simp [hq]))).trans (Turned.ofGrown (F := [r]) (grown_setCell w3 r 0 _) (fun q hq => .inl (by injection hq with hq; simp [hq]))) (fun q hq => .inl (by simp at hq; simp [hq])), fun q hq => ?_⟩
  simp only [List.mem_cons, Option.mem_toList, Option.mem_def] at hq ⊢
  rcases hq with rfl | hq
  · exact .inl (.inl rfl)
  · rcases hm3 with e | ⟨g', e, hle⟩
    · exact .inl (.inr (by have := e.symm.trans hq; simpa using this))
    · rw [e] at hq; injection hq with hq; exact .inr (by omega)
theorem StatesBad_calls (g : Nat) (c : ChD) (t : Int) (a : Option Addr) (n k : Nat) (w : World) (h : ChAt w g c) (hn : n ≤ 1000000) (E : Int) (hE : c.may t n = E) (h0 : E ≠ 0) :
    Calls Try.prog 36 #[.pointer (some ⟨g, 0, none⟩), .slice a n k, .int .i64 t] w fun e w' => e = .returned (.tuple #[.slice none 0 0, .int .i64 E]) ∧ Below w.heap.size w w' := by
  have hb := below_new w (.cells #[.slice none 0 0] 120)
  have HM := hide (EachBad_calls g c t a n k (.func (.func 72) #[.pointer (some ⟨w.heap.size, 0, none⟩)] #[]) _ (h.belowN hb) hn E hE h0)
  have hX := Blk.new w 120 #[.slice none 0 0]
  obtain ⟨p0, p1⟩ := hX.c1
  clear h0 hE
  go_enter Try.func36, Try.ntmps36
  go_wp2_with (go_at_call 71; go_must ((with_reducible refine (HM.out).mono ?_); rintro e w1 ⟨rfl, rfl⟩))
  go_ret2
  exact ⟨rfl, hb⟩
set_option maxHeartbeats 1600000 in
theorem StatesGood_calls (g : Nat) (c : ChD) (hc : c.Ok) (lN : Nat) (hl : lN < 65536) (a : Option Addr) (n k : Nat) (xs : List UInt64) (w : World) (h : ChAt w g c) (hat : At w a xs) (hn : n = xs.length) (hnk : n ≤ k) (hx : (n : Int) = c.x) :
    Calls Try.prog 36 #[.pointer (some ⟨g, 0, none⟩), .slice a n k, .int .i64 (lN : Int)] w fun e w' => ∃ a' c' hs, e = .returned (.tuple #[.slice a' (lN + 1) c', .int .i64 0]) ∧ OwnL w' w.heap.size 25 a' c' hs (c.states xs lN) ∧ Below w.heap.size w w' := by
  have hb := below_new w (.cells #[.slice none 0 0] 120)
  have hX := Blk.new w 120 #[.slice none 0 0]
  obtain ⟨w0, hw0⟩ : ∃ w0, w0 = w.alloc (.cells #[.slice none 0 0] 120) := ⟨_, rfl⟩
  have hz0 : w0.heap.size = w.heap.size + 1 := by rw [hw0]; simp
  have HW := hide hw0
  rw [← hw0] at hb hX
  have hx2 := hc.x2
  have hC : ∀ w1, Turned [w.heap.size] w0 w1 → ChAt w1 g c := fun w1 hT => h.belowN (Turned.below hb hT (by simp) (by omega))
  have hlen : ∀ j, n = (c.iter xs j).length := fun j => by have := ChD.iter_length hc (xs := xs) (by rw [← hn]; exact hx) j; omega
  have HE := hide (EachS_calls (.pointer (some ⟨w.heap.size, 0, none⟩)) g c hc lN hl a n k xs w0 (h.belowN hb) (hat.belowN hb) hn hnk hx (JS w0.heap.size w.heap.size c xs) [w.heap.size] hC (fun j F w w' hJ hb => hJ.keep hb) (fun j F w hJ => hJ.lt)
    (fun j F w1 b d hj hJ hat' hnd hf hT => Add_calls w0.heap.size w.heap.size n (by omega) c xs j (by omega) F b d w1 hJ hat' (hlen j) hnd (fun q hq => ⟨(hf q hq).1, (hf q hq).2.2⟩) hT.size)
    ⟨none, 0, [], rfl, hX, OwnL.none _ _ _⟩)
  rw [hw0] at HE
  have HS := hide (show c.firsts xs (lN + 1) = c.states xs lN from rfl)
  clear hC hlen hw0 hX hn
  go_enter Try.func36, Try.ntmps36
  go_wp2_with (go_at_call 71; go_must ((with_reducible refine (HE.out).mono ?_); rintro e w1 ⟨rfl, F, ⟨ao, co, hs, hF, hb1, hown⟩, hT⟩; obtain ⟨p0, p1⟩ := hb1.c1))
  go_ret2
  rw [← HW.out] at hT hown
  rw [HS.out] at hown
  exact ⟨ao, co, hs, rfl, hown.mono (by omega), Turned.below hb hT (by simp) (by omega)⟩
theorem CRunBad_calls (g : Nat) (c : ChD) (t : Int) (a : Option Addr) (n k : Nat) (w : World) (h : ChAt w g c) (hn : n ≤ 1000000) (E : Int) (hE : c.may t n = E) (h0 : E ≠ 0) :
    Calls Try.prog 37 #[.pointer (some ⟨g, 0, none⟩), .slice a n k, .int .i64 t] w fun e w' => e = .returned (.tuple #[.slice none 0 0, .int .u64 0, .int .i64 E]) ∧ Below w.heap.size w w' := by
  have hb := below_new w (.cells #[.slice none 0 0] 25)
  have HM := hide (EachBad_calls g c t a n k (.func (.func 73) #[] #[.pointer (some ⟨w.heap.size, 0, none⟩)]) _ (h.belowN hb) hn E hE h0)
  have e1 : (E == 0) = false := by simpa using h0
  have e2 : (E != 0) = true := by simpa using h0
  clear h0 hE
  go_enter Try.func37, Try.ntmps37
  go_wp2_with (go_at_call 71; go_must ((with_reducible refine (HM.out).mono ?_); rintro e w1 ⟨rfl, rfl⟩))
  go_ret3
  exact ⟨rfl, hb⟩
set_option maxHeartbeats 1600000 in
theorem CRunGood_calls (g : Nat) (c : ChD) (hc : c.Ok) (lN : Nat) (hl : lN < 65536) (a : Option Addr) (n k : Nat) (xs : List UInt64) (w : World) (h : ChAt w g c) (hat : At w a xs) (hn : n = xs.length) (hnk : n ≤ k) (hx : (n : Int) = c.x) (R : UInt64) (hR : c.loss (c.iter xs lN) = R) :
    Calls Try.prog 37 #[.pointer (some ⟨g, 0, none⟩), .slice a n k, .int .i64 (lN : Int)] w fun e w' => ∃ a' k', e = .returned (.tuple #[.slice a' n k', .int .u64 (R.toNat : Int), .int .i64 0]) ∧ n ≤ k' ∧ At w' a' (c.iter xs lN) ∧ Below w.heap.size w w' := by
  have hb := below_new w (.cells #[.slice none 0 0] 25)
  have hX := Blk.new w 25 #[.slice none 0 0]
  obtain ⟨w0, hw0⟩ : ∃ w0, w0 = w.alloc (.cells #[.slice none 0 0] 25) := ⟨_, rfl⟩
  have hz0 : w0.heap.size = w.heap.size + 1 := by rw [hw0]; simp
  have HW := hide hw0
  rw [← hw0] at hb hX
  have hx2 := hc.x2
  have hC : ∀ w1, Turned [w.heap.size] w0 w1 → ChAt w1 g c := fun w1 hT => h.belowN (Turned.below hb hT (by simp) (by omega))
  have hlen : ∀ j, n = (c.iter xs j).length := fun j => by have := ChD.iter_length hc (xs := xs) (by rw [← hn]; exact hx) j; omega
  have HE := hide (EachR_calls (.pointer (some ⟨w.heap.size, 0, none⟩)) g c hc lN hl a n k xs w0 (h.belowN hb) (hat.belowN hb) hn hnk hx (JR w.heap.size n c xs) [w.heap.size] hC (fun j F w w' hJ hb => hJ.keep hb) (fun j F w hJ => hJ.lt)
    (fun j F w1 b d hj hJ hat' hnd hf hT => Last_calls w.heap.size n c xs j F b d w1 hJ hat' hnd (fun q hq => (hf q hq).2.2))
    ⟨rfl, _, hX, fun h0 => by omega⟩)
  rw [hw0] at HE
  have HC := hide hC
  have HR := hide hR
  have HLN := hide (hlen lN)
  have HB := hide hb
  clear hC hlen hw0 hX hR hb hn
  go_enter Try.func37, Try.ntmps37
  go_wp2_with (first
    | (go_at_call 71; go_must ((with_reducible refine (HE.out).mono ?_); rintro e w1 ⟨rfl, F, ⟨rfl, v, hb1, hlast⟩, hT⟩; obtain ⟨b, d, rfl, hnd, hatb⟩ := hlast (by omega); rw [Nat.add_sub_cancel] at hatb; obtain ⟨p0, p1⟩ := hb1.c1; rw [← HW.out] at hT; have hch1 := HC.out w1 hT; have hB1 := Turned.below HB.out hT (by simp) (by omega)))
    | (go_at_call 35; go_must ((with_reducible refine (LossGood_calls g c hc b n d (c.iter xs lN) w1 hch1 hatb HLN.out hnd hx R HR.out).mono ?_); rintro e w2 ⟨rfl, hb2⟩; obtain ⟨q0, q1⟩ := (hb1.belowN hb2).c1)))
  go_ret3
  have hz1 := hB1.size
  exact ⟨b, d, rfl, hnd, hatb.belowN hb2, hB1.trans (hb2.mono hz1)⟩
end Go.Proofs.Ytjfpnbnkfcgjcaa
