/- Chapter 8: the walk through operations that tells each of them, for a callee that is given as a function value. -/
import Derived.Test.YtoklehndfncmnaaProg
import Derived.Test.YtoklehndfncmnaaNest
namespace Go.Proofs.Ytoklehndfncmnaa
set_option linter.unusedVariables false
set_option linter.unusedSimpArgs false
open Go.RowKit

theorem tyI : Ty Try.prog 67 3 Int := Ty.of (z := .int .i64 0) (size := 1) (bytes := 8) Try.underlying67 (by kernel_rfl) rfl (by decide) rfl
theorem tyO : Ty Try.prog 22 34 OpD := Ty.of (z := .agg #[.int .i64 0, .int .i64 0, .int .i64 0, .int .i64 0, .int .u64 0]) (size := 5) (bytes := 40) Try.underlying22 (by kernel_rfl) rfl (by decide) rfl

/-- From w to w' nothing that was there has turned but the blocks of F. -/
structure Turned (F : List Nat) (w w' : World) : Prop where
  os : w'.os = w.os
  tape : w'.tape = w.tape
  output : w'.output = w.output
  size : w.heap.size ≤ w'.heap.size
  block : ∀ k, k < w.heap.size → k ∉ F → w'.heap[k]? = w.heap[k]?
theorem Turned.refl (F : List Nat) (w : World) : Turned F w w := ⟨rfl, rfl, rfl, Nat.le_refl _, fun _ _ _ => rfl⟩
/-- Two steps: what the second one may turn is what the first one might, or is new. -/
theorem Turned.trans {F F' : List Nat} {a b c : World} (h : Turned F a b) (k : Turned F' b c) (hF : ∀ k ∈ F', k ∈ F ∨ a.heap.size ≤ k) : Turned F a c :=
  ⟨k.os.trans h.os, k.tape.trans h.tape, k.output.trans h.output, Nat.le_trans h.size k.size, fun i hi hn =>
    (k.block i (Nat.lt_of_lt_of_le hi h.size) (fun hm => (hF i hm).elim hn (fun hle => by omega))).trans (h.block i hi hn)⟩
theorem Turned.ofBelow {F : List Nat} {w w' : World} (h : Below w.heap.size w w') : Turned F w w' := ⟨h.os, h.tape, h.output, h.size, fun k hk _ => h.block k hk⟩
theorem Turned.ofGrown {F : List Nat} {w w' : World} {row : Option Nat} (h : w.grownBy w' row) (hr : ∀ k, row = some k → k ∈ F ∨ w.heap.size ≤ k) : Turned F w w' :=
  ⟨h.os, h.tape, h.output, h.size, fun k hk hn => h.block k hk (fun e => (hr k e.symm).elim hn (fun hle => by omega))⟩
theorem Turned.below {F : List Nat} {B : Nat} {a w w' : World} (h : Below B a w) (k : Turned F w w') (hF : ∀ k ∈ F, B ≤ k) (hB : B ≤ w.heap.size) : Below B a w' :=
  h.trans ⟨k.os, k.tape, k.output, k.size, fun i hi => k.block i (by omega) (fun hm => by have := hF i hm; omega)⟩
theorem Turned.mono {F F' : List Nat} {w w' : World} (h : Turned F w w') (hF : ∀ k ∈ F, k ∈ F' ∨ w.heap.size ≤ k) : Turned F' w w' :=
  ⟨h.os, h.tape, h.output, h.size, fun k hk hn => h.block k hk (fun hm => (hF k hm).elim hn (fun hle => by omega))⟩

theorem At.turned {α : Type} [Flat α] {F : List Nat} {w w' : World} {a : Option Addr} {l : List α} (h : At w a l) (hT : Turned F w w') (ha : l ≠ [] → ∀ g ∈ F, a.map (·.block) ≠ some g) : At w' a l := by
  by_cases hl : l = []
  · subst hl; exact At.nil _ _
  · exact h.keep fun b off e hlt => hT.block b hlt fun hm => ha hl b hm (by rw [e]; rfl)
theorem Own.turned {α : Type} [Flat α] {F : List Nat} {w w' : World} {B : Nat} {E : TypeId} {a : Option Addr} {c : Nat} {l : List α} (h : Own w B E a c l) (hT : Turned F w w') (ha : ∀ g, a.map (·.block) = some g → g ∉ F) : Own w' B E a c l :=
  h.keep fun k hk hlt => hT.block k hlt (ha k hk)

/-- A slice of the call's own, shortened by its last. -/
theorem Own.pop {α : Type} [Flat α] {w : World} {B : Nat} {E : TypeId} {a : Option Addr} {c : Nat} {l : List α} (h : Own w B E a c l) (hl : l ≠ []) : Own w B E a c l.dropLast := by
  obtain ⟨x, r, hxr⟩ := List.exists_cons_of_ne_nil hl
  have hlen : l.dropLast.length = l.length - 1 := by simp
  have hpos : 0 < l.length := List.length_pos_iff.2 hl
  have hflat : l.dropLast.flatMap Flat.enc = (l.flatMap (Flat.enc (α := α))).take (l.dropLast.length * Flat.n α) := by
    have e : l = l.dropLast ++ [l.getLast hl] := (List.dropLast_concat_getLast hl).symm
    have e1 : l.flatMap (Flat.enc (α := α)) = l.dropLast.flatMap Flat.enc ++ Flat.enc (l.getLast hl) := by
      conv => lhs; rw [e, List.flatMap_append]
      simp
    rw [e1, ← enc_length l.dropLast, List.take_left]
  refine ⟨enc_length _, ?_⟩
  rcases h.2 with ⟨hv, h0⟩ | ⟨g, cap, cur, hv, hB, hg, h1, h2, h3, h4⟩
  · omega
  · right
    injection hv with ha _ hc
    refine ⟨g, cap, cur, by rw [ha, hc], hB, hg, by omega, h2, h3, ?_⟩
    rw [hflat, ← h4, List.take_take, Nat.min_eq_left (Nat.mul_le_mul_right _ (by omega))]

/-- the stack ahead of operation k -/
def stAt (l : List OpD) (k : Nat) : List Int := stF 0 [] (l.take k)
theorem stAt_succ (l : List OpD) (k : Nat) (x : OpD) (h : l[k]? = some x) : stAt l (k + 1) = stk (stAt l k) k x := by
  have hk : k < l.length := (List.getElem?_eq_some_iff.1 h).1
  unfold stAt
  rw [List.take_add_one, h, stF_append]
  simp [stF]
  rw [Nat.min_eq_left (by omega)]
/-- well nested: by the stack -/
theorem well_step (l : List OpD) (k : Nat) (x : OpD) (h : l[k]? = some x) : wellF (stAt l k).length (l.drop k) =
    if x.kind < 0 ∨ 7 < x.kind then false else if x.kind = 0 ∧ (stAt l k).length = 0 then false else wellF (stAt l (k + 1)).length (l.drop (k + 1)) := by
  rw [drop_at h, wellF, stAt_succ l k x h]
  unfold stk
  by_cases h1 : x.kind < 0 ∨ 7 < x.kind
  · rw [if_pos h1, if_pos h1]
  · rw [if_neg h1, if_neg h1]
    by_cases h7 : x.kind = 7
    · rw [if_pos h7, if_neg (by omega), if_pos h7]; simp
    · rw [if_neg h7, if_neg h7]
      by_cases h0 : x.kind = 0
      · rw [if_pos h0, if_pos h0]
        by_cases hs : (stAt l k).length = 0
        · rw [if_pos hs, if_pos ⟨h0, hs⟩]
        · rw [if_neg hs, if_neg (fun h => hs h.2)]; simp
      · rw [if_neg h0, if_neg h0, if_neg (fun h => h0 h.1)]


set_option maxRecDepth 100000 in
set_option maxHeartbeats 1600000 in
theorem walkM_calls (c1 c2 c3 : Value) (a : Option Addr) (c : Nat) (l : List OpD) (w : World) (h : At w a l) (hl : l.length ≤ 1000000)
    (J : Nat → List Nat → World → Prop) (F0 : List Nat)
    (hkeep : ∀ k F w w', J k F w → w.heap.size ≤ w'.heap.size → (∀ b ∈ F, w'.heap[b]? = w.heap[b]?) → J k F w') (hlt : ∀ k F w, J k F w → ∀ b ∈ F, b < w.heap.size)
    (hcall : ∀ (k : Nat) (x : OpD) (F : List Nat) (w' : World) (b : Option Addr) (n d : Nat), l[k]? = some x → 0 ≤ x.kind → x.kind ≤ 7 → (x.kind = 0 → stAt l k ≠ []) → J k F w' → At w' b (arnd (stAt l k) x) → n = (arnd (stAt l k) x).length → Turned F0 w w' →
      Calls Try.prog 49 #[.int .i64 k, .slice b n d, c1, c2, c3] w' fun e w'' => e = .returned (.tuple #[]) ∧ ∃ F', J (k + 1) F' w'' ∧ Turned F w' w'' ∧ ∀ b ∈ F', b ∈ F ∨ w'.heap.size ≤ b)
    (h0 : J 0 F0 w) (ha : l ≠ [] → ∀ g ∈ F0, a.map (·.block) ≠ some g) :
    Calls Try.prog 48 #[.slice a l.length c, .func (.func 49) #[] #[c1, c2, c3]] w fun e w' => e = .returned (.bool (well l)) ∧ Turned F0 w w' ∧ (well l = true → ∃ F', J l.length F' w' ∧ ∀ b ∈ F', b ∈ F0 ∨ w.heap.size ≤ b) := by
  have HK := hide hkeep
  have HLT := hide hlt
  have HC := hide hcall
  obtain ⟨R, hR⟩ : ∃ R, R = well l := ⟨_, rfl⟩
  rw [← hR]
  have HR := hide hR
  have HAF := hide ha
  clear hkeep hlt hcall hR ha
  go_enter Try.func48, Try.ntmps48
  go_wp2
  go_step3
  go_wp2
  go_step3
  go_wp2
  go_loopw [5, 6, 11] (fun st wl i wr => ∃ (k : Nat) (b : Option Addr) (d n : Nat) (F : List Nat), i = .int .i64 k ∧ k ≤ l.length ∧ st = .slice b n d ∧ Hid (n = (stAt l k).length) ∧ n ≤ k ∧ wl = .bool true ∧ Hid (R = wellF (stAt l k).length (l.drop k)) ∧ Hid (J k F wr) ∧ Own wr w.heap.size 3 b d (stAt l k) ∧
      Hid (∀ g, b.map (·.block) = some g → g ∉ F) ∧ Hid (∀ g ∈ F, g ∈ F0 ∨ w.heap.size ≤ g) ∧ Turned F0 w wr)
    (fun _ _ i _ => l.length - (intOf i).toNat)
  case atStart => exact ⟨0, none, 0, 0, F0, rfl, by omega, rfl, rfl, by omega, rfl, by rw [HR.out]; rfl, h0, Own.none _ _ _, hide (fun g hg => by cases hg), hide (fun g hg => Or.inl hg), Turned.refl _ _⟩
  case round =>
    obtain ⟨k, b, d, n, F, rfl, hk, rfl, hn, hnk, rfl, hRk, hJ, hown, hdis, hF, hT⟩ := hrel
    have hsz := hT.size
    by_cases hlt : k < l.length
    · obtain ⟨b1, off1, x, rfl, hx, x0, x1, x2, x3, x4⟩ := (h.turned hT HAF.out).getOp (Below.refl _ _) hlt
      have hstep := well_step l k x hx.out
      rw [← hRk.out] at hstep
      have hst1 := stAt_succ l k x hx.out
      have HS := hide hstep
      have HS1 := hide hst1
      clear hstep hst1
      by_cases hk1 : x.kind < 0
      · have e : R = false := by rw [HS.out, if_pos (by omega)]
        have E := hide e
        clear e
        go_wp2
        try rw [Exit.noGoto_ret]
        go_ret
        exact ⟨by rw [E.out]; rfl, hT.trans (Turned.ofBelow (F := F0) (by with_reducible repeat first | exact Below.refl _ _ | assumption | refine below_drewN ?_ _ | refine Below.drew ?_ | refine Below.alloc ?_ (by simp <;> omega) _ | refine Below.setCell ?_ (by simp <;> omega) _)) (fun k hk => .inl hk), fun h => by rw [E.out] at h; cases h⟩
      by_cases hk2 : 7 < x.kind
      · have e : R = false := by rw [HS.out, if_pos (by omega)]
        have E := hide e
        clear e
        go_wp2
        try rw [Exit.noGoto_ret]
        go_ret
        exact ⟨by rw [E.out]; rfl, hT.trans (Turned.ofBelow (F := F0) (by with_reducible repeat first | exact Below.refl _ _ | assumption | refine below_drewN ?_ _ | refine Below.drew ?_ | refine Below.alloc ?_ (by simp <;> omega) _ | refine Below.setCell ?_ (by simp <;> omega) _)) (fun k hk => .inl hk), fun h => by rw [E.out] at h; cases h⟩
      have hJA : J k F (wr.alloc (.cells #[.int .i64 x.kind, .int .i64 x.d, .int .i64 x.a, .int .i64 x.b, .int .u64 (x.v.toNat : Int)] 34)) := HK.out _ _ _ _ hJ.out (by simp) (fun b hb => Below.heap_alloc _ _ _ (HLT.out _ _ _ hJ.out b hb))
      have HJA := hide hJA
      have hTA : Turned F0 w (wr.alloc (.cells #[.int .i64 x.kind, .int .i64 x.d, .int .i64 x.a, .int .i64 x.b, .int .u64 (x.v.toNat : Int)] 34)) := hT.trans (Turned.ofBelow (F := F0) (by with_reducible repeat first | exact Below.refl _ _ | assumption | refine below_drewN ?_ _ | refine Below.drew ?_ | refine Below.alloc ?_ (by simp <;> omega) _ | refine Below.setCell ?_ (by simp <;> omega) _)) (fun k hk => .inl hk)
      have hownA : Own (wr.alloc (.cells #[.int .i64 x.kind, .int .i64 x.d, .int .i64 x.a, .int .i64 x.b, .int .u64 (x.v.toNat : Int)] 34)) w.heap.size 3 b d (stAt l k) := hown.alloc _
      have hXB : Blk (wr.alloc (.cells #[.int .i64 x.kind, .int .i64 x.d, .int .i64 x.a, .int .i64 x.b, .int .u64 (x.v.toNat : Int)] 34)) wr.heap.size 34 #[.int .i64 x.kind, .int .i64 x.d, .int .i64 x.a, .int .i64 x.b, .int .u64 (x.v.toNat : Int)] := Blk.new _ _ _
      have hFX : ∀ g ∈ F, g < wr.heap.size := HLT.out _ _ _ hJ.out
      have HFX := hide hFX
      clear hJA hFX hRk
      obtain ⟨W, hW⟩ : ∃ W, W = wr.alloc (.cells #[.int .i64 x.kind, .int .i64 x.d, .int .i64 x.a, .int .i64 x.b, .int .u64 (x.v.toNat : Int)] 34) := ⟨_, rfl⟩
      have hWs : W.heap.size = wr.heap.size + 1 := by rw [hW]; simp
      rw [← hW] at HJA hTA hownA hXB
      have HW := hide hW
      have HWS := hide hWs
      clear hW hWs
      -- what the callee leaves, whatever it is told of the stack
      have hafter : ∀ (b2 : Option Addr) (n2 : Nat), At W b2 (arnd (stAt l k) x) → n2 = (arnd (stAt l k) x).length → (x.kind = 0 → stAt l k ≠ []) →
          Calls Try.prog 49 #[.int .i64 k, .slice b2 n2 d, c1, c2, c3] W fun e w2 => e = .returned (.tuple #[]) ∧ ∃ F', J (k + 1) F' w2 ∧ Turned F W w2 ∧ (∀ b ∈ F', b ∈ F ∨ W.heap.size ≤ b) ∧ wr.heap.size < w2.heap.size ∧ w2.cell? ⟨wr.heap.size, 0, none⟩ = some (.int .i64 x.kind) ∧ Turned F0 w w2 ∧ ∀ B E c' (m : List Int), Own W B E b c' m → Own w2 B E b c' m := by
        intro b2 n2 h1 h2 h3
        refine (HC.out k x F W b2 n2 d hx.out (by omega) (by omega) h3 HJA.out h1 h2 hTA).mono ?_
        rintro e w2 ⟨rfl, F', g1, g2, g3⟩
        have hxF : wr.heap.size ∉ F := fun hm => by have := HFX.out _ hm; omega
        have hsz2 := g2.size
        have hws := HWS.out
        refine ⟨rfl, F', g1, g2, g3, by omega, ?_, hTA.trans g2 (fun g hg => (hF.out g hg).imp id (fun h => h)), fun B E c' m ho => ho.turned g2 hdis.out⟩
        exact ((World.cell?_of_block (a := ⟨wr.heap.size, 0, none⟩) (g2.block _ (show wr.heap.size < _ by omega) hxF)).trans (hXB.cell 0))
      have HAFT := hide hafter
      clear hafter
      by_cases hk0 : x.kind = 0
      · by_cases hn0 : n = 0
        · have e : R = false := by rw [HS.out, if_neg (by omega), if_pos ⟨hk0, by rw [← hn.out, hn0]⟩]
          have E := hide e
          have hnn : ((n : Int) == 0) = true := by simpa using hn0
          have hkk : (x.kind == 0) = true := by simpa using hk0
          clear e hn0 hk0
          go_wp2
          try rw [Exit.noGoto_ret]
          go_ret
          exact ⟨by rw [E.out]; rfl, hT.trans (Turned.ofBelow (F := F0) (by with_reducible repeat first | exact Below.refl _ _ | assumption | refine below_drewN ?_ _ | refine Below.drew ?_ | refine Below.alloc ?_ (by simp <;> omega) _ | refine Below.setCell ?_ (by simp <;> omega) _)) (fun k hk => .inl hk), fun h => by rw [E.out] at h; cases h⟩
        · have hnn : ((n : Int) == 0) = false := by simpa using hn0
          have hkk : (x.kind == 0) = true := by simpa using hk0
          have hkk7 : (x.kind == 7) = false := by simp [hk0]
          have hst : stAt l k ≠ [] := by intro e; have := hn.out; rw [e] at this; exact hn0 this
          have har : arnd (stAt l k) x = (stAt l k).dropLast := by unfold arnd; rw [if_pos hk0]
          have hnc : n ≤ d := by rw [hn.out]; exact hown.cap.1
          have hpop := hownA.pop hst
          have HP := hide (HAFT.out b (n - 1) (by rw [har]; exact hpop.at_) (by rw [har]; simp [hn.out]) (fun _ => hst))
          have hnp : 0 < n := by omega
          rw [HW.out] at HP
          clear hk0 hn0
          go_wp2_with (go_at_call 49; (with_reducible refine HP.out.mono ?_); rintro e w2 ⟨rfl, F', g1, g2, g3, hz2, hx2, hT2, hO2⟩)
          have hown2 := hO2 _ _ _ _ (by rw [← HW.out]; exact hpop)
          go_roundw
          case rel => exact ⟨k + 1, b, d, n - 1, F', by go_num, by omega, rfl, by rw [HS1.out]; unfold stk; rw [if_neg (by simp at hkk; omega), if_pos (by simpa using hkk)]; simp [hn.out, Hid], by omega, rfl, by rw [HS.out, if_neg (by omega), if_neg (fun h => by have := hn.out; omega)]; rfl, g1, by rw [HS1.out]; unfold stk; rw [if_neg (by simp at hkk; omega), if_pos (by simpa using hkk)]; exact hown2,
            hide (fun g hg hm => (g3 g hm).elim (hdis.out g hg) (fun hle => by have := (hownA.blk g hg).2; rw [HW.out] at this; omega)), hide (fun g hg => (g3 g hg).elim (fun h => hF.out g h) (fun h => .inr (by simp at h; omega))), hT2⟩
          case measure => simp [intOf]; omega
      · have hkk : (x.kind == 0) = false := by simpa using hk0
        have har : arnd (stAt l k) x = stAt l k := by unfold arnd; rw [if_neg hk0]
        have HP := hide (HAFT.out b n (by rw [har]; exact hownA.at_) (by rw [har]; exact hn.out) (fun h => absurd h hk0))
        rw [HW.out] at HP
        by_cases hk7 : x.kind = 7
        · have hkk7 : (x.kind == 7) = true := by simpa using hk7
          have hst1 : stAt l (k + 1) = stAt l k ++ [(k : Int)] := by rw [HS1.out]; unfold stk; rw [if_pos hk7]
          have hwk : R = wellF (stAt l (k + 1)).length (l.drop (k + 1)) := by rw [HS.out, if_neg (by omega), if_neg (fun h => hk0 h.1)]
          have HST1 := hide hst1
          have HWK := hide hwk
          clear hk0 hk7 hst1 hwk
          go_wp2_with (first
            | (go_at_call 49; (with_reducible refine HP.out.mono ?_); rintro e w2 ⟨rfl, F', g1, g2, g3, hz2, hx2, hT2, hO2⟩; have hown2 := hO2 _ _ _ _ (by rw [← HW.out]; exact hownA); have G1 := hide g1; have G3 := hide g3; clear g1 g3 hO2; have hs2 := hT2.size)
            | (at_builtin; refine wpList_push tyI hown2 (k : Int) rfl rfl rfl rfl rfl rfl hn.out hs2 (by omega) ?_; intro b3 d3 w3 hown3 hg3 hm3))
          go_roundw
          case rel =>
            have hbF : ∀ g, b.map (·.block) = some g → g ∉ F' := fun g hg hm => (G3.out g hm).elim (hdis.out g hg) (fun hle => by have := (hownA.blk g hg).2; rw [HW.out] at this; omega)
            have hlt' := HLT.out _ _ _ G1.out
            refine ⟨k + 1, b3, d3, n + 1, F', by go_num, by omega, rfl, by rw [HST1.out]; simp [hn.out, Hid], by omega, rfl, HWK, ?_, by rw [HST1.out]; exact hown3, ?_, hide (fun g hg => (G3.out g hg).elim (fun h => hF.out g h) (fun h => .inr (by simp at h; omega))), ?_⟩
            · exact HK.out _ _ _ _ G1.out hg3.size (fun g hg => hg3.block g (hlt' g hg) (fun e => hbF g e.symm hg))
            · refine hide (fun g hg hm => ?_)
              rcases hm3 with e | ⟨g', e, hle⟩
              · exact hbF g (by rw [← e]; exact hg) hm
              · have h1 := hlt' g hm
                rw [e] at hg
                injection hg with hg
                omega
            · exact hT2.trans (Turned.ofGrown (F := (b.map (·.block)).toList) hg3 (fun g hg => .inl (by rw [hg]; simp))) (fun g hg => .inr (hown2.blk g (by simpa using hg)).1)
          case measure => simp [intOf]; omega
        · have hkk7 : (x.kind == 7) = false := by simpa using hk7
          have hst1 : stAt l (k + 1) = stAt l k := by rw [HS1.out]; unfold stk; rw [if_neg hk7, if_neg hk0]
          have hwk : R = wellF (stAt l (k + 1)).length (l.drop (k + 1)) := by rw [HS.out, if_neg (by omega), if_neg (fun h => hk0 h.1)]
          have HST1 := hide hst1
          have HWK := hide hwk
          clear hk0 hk7 hst1 hwk
          go_wp2_with (go_at_call 49; (with_reducible refine HP.out.mono ?_); rintro e w2 ⟨rfl, F', g1, g2, g3, hz2, hx2, hT2, hO2⟩)
          have hown2 := hO2 _ _ _ _ (by rw [← HW.out]; exact hownA)
          go_roundw
          case rel => exact ⟨k + 1, b, d, n, F', by go_num, by omega, rfl, by rw [HST1.out]; exact hn, by omega, rfl, HWK, g1, by rw [HST1.out]; exact hown2,
            hide (fun g hg hm => (g3 g hm).elim (hdis.out g hg) (fun hle => by have := (hownA.blk g hg).2; rw [HW.out] at this; omega)), hide (fun g hg => (g3 g hg).elim (fun h => hF.out g h) (fun h => .inr (by simp at h; omega))), hT2⟩
          case measure => simp [intOf]; omega
    · have ek : k = l.length := by omega
      subst ek
      by_cases hn0 : n = 0
      · have e : R = true := by rw [hRk.out, ← hn.out, hn0]; simp [wellF]
        have E := hide e
        have hnn : ((n : Int) == 0) = true := by simpa using hn0
        clear e hn0
        go_wp2
        try rw [Exit.noGoto_ret]
        go_ret
        exact ⟨by rw [E.out]; rfl, hT, fun _ => ⟨F, hJ.out, hF.out⟩⟩
      · have e : R = false := by rw [hRk.out, ← hn.out]; simp [wellF]; exact hn0
        have E := hide e
        have hnn : ((n : Int) == 0) = false := by simpa using hn0
        clear e hn0
        go_wp2
        try rw [Exit.noGoto_ret]
        go_ret
        exact ⟨by rw [E.out]; rfl, hT, fun h => by rw [E.out] at h; cases h⟩
set_option maxRecDepth 100000 in
set_option maxHeartbeats 1600000 in
theorem walkD_calls (c1 c2 : Value) (a : Option Addr) (c : Nat) (l : List OpD) (w : World) (h : At w a l) (hl : l.length ≤ 1000000)
    (J : Nat → List Nat → World → Prop) (F0 : List Nat)
    (hkeep : ∀ k F w w', J k F w → w.heap.size ≤ w'.heap.size → (∀ b ∈ F, w'.heap[b]? = w.heap[b]?) → J k F w') (hlt : ∀ k F w, J k F w → ∀ b ∈ F, b < w.heap.size)
    (hcall : ∀ (k : Nat) (x : OpD) (F : List Nat) (w' : World) (b : Option Addr) (n d : Nat), l[k]? = some x → 0 ≤ x.kind → x.kind ≤ 7 → (x.kind = 0 → stAt l k ≠ []) → J k F w' → At w' b (arnd (stAt l k) x) → n = (arnd (stAt l k) x).length → Turned F0 w w' →
      Calls Try.prog 92 #[.int .i64 k, .slice b n d, c1, c2] w' fun e w'' => e = .returned (.tuple #[]) ∧ ∃ F', J (k + 1) F' w'' ∧ Turned F w' w'' ∧ ∀ b ∈ F', b ∈ F ∨ w'.heap.size ≤ b)
    (h0 : J 0 F0 w) (ha : l ≠ [] → ∀ g ∈ F0, a.map (·.block) ≠ some g) :
    Calls Try.prog 48 #[.slice a l.length c, .func (.func 92) #[] #[c1, c2]] w fun e w' => e = .returned (.bool (well l)) ∧ Turned F0 w w' ∧ (well l = true → ∃ F', J l.length F' w' ∧ ∀ b ∈ F', b ∈ F0 ∨ w.heap.size ≤ b) := by
  have HK := hide hkeep
  have HLT := hide hlt
  have HC := hide hcall
  obtain ⟨R, hR⟩ : ∃ R, R = well l := ⟨_, rfl⟩
  rw [← hR]
  have HR := hide hR
  have HAF := hide ha
  clear hkeep hlt hcall hR ha
  go_enter Try.func48, Try.ntmps48
  go_wp2
  go_step3
  go_wp2
  go_step3
  go_wp2
  go_loopw [5, 6, 11] (fun st wl i wr => ∃ (k : Nat) (b : Option Addr) (d n : Nat) (F : List Nat), i = .int .i64 k ∧ k ≤ l.length ∧ st = .slice b n d ∧ Hid (n = (stAt l k).length) ∧ n ≤ k ∧ wl = .bool true ∧ Hid (R = wellF (stAt l k).length (l.drop k)) ∧ Hid (J k F wr) ∧ Own wr w.heap.size 3 b d (stAt l k) ∧
      Hid (∀ g, b.map (·.block) = some g → g ∉ F) ∧ Hid (∀ g ∈ F, g ∈ F0 ∨ w.heap.size ≤ g) ∧ Turned F0 w wr)
    (fun _ _ i _ => l.length - (intOf i).toNat)
  case atStart => exact ⟨0, none, 0, 0, F0, rfl, by omega, rfl, rfl, by omega, rfl, by rw [HR.out]; rfl, h0, Own.none _ _ _, hide (fun g hg => by cases hg), hide (fun g hg => Or.inl hg), Turned.refl _ _⟩
  case round =>
    obtain ⟨k, b, d, n, F, rfl, hk, rfl, hn, hnk, rfl, hRk, hJ, hown, hdis, hF, hT⟩ := hrel
    have hsz := hT.size
    by_cases hlt : k < l.length
    · obtain ⟨b1, off1, x, rfl, hx, x0, x1, x2, x3, x4⟩ := (h.turned hT HAF.out).getOp (Below.refl _ _) hlt
      have hstep := well_step l k x hx.out
      rw [← hRk.out] at hstep
      have hst1 := stAt_succ l k x hx.out
      have HS := hide hstep
      have HS1 := hide hst1
      clear hstep hst1
      by_cases hk1 : x.kind < 0
      · have e : R = false := by rw [HS.out, if_pos (by omega)]
        have E := hide e
        clear e
        go_wp2
        try rw [Exit.noGoto_ret]
        go_ret
        exact ⟨by rw [E.out]; rfl, hT.trans (Turned.ofBelow (F := F0) (by with_reducible repeat first | exact Below.refl _ _ | assumption | refine below_drewN ?_ _ | refine Below.drew ?_ | refine Below.alloc ?_ (by simp <;> omega) _ | refine Below.setCell ?_ (by simp <;> omega) _)) (fun k hk => .inl hk), fun h => by rw [E.out] at h; cases h⟩
      by_cases hk2 : 7 < x.kind
      · have e : R = false := by rw [HS.out, if_pos (by omega)]
        have E := hide e
        clear e
        go_wp2
        try rw [Exit.noGoto_ret]
        go_ret
        exact ⟨by rw [E.out]; rfl, hT.trans (Turned.ofBelow (F := F0) (by with_reducible repeat first | exact Below.refl _ _ | assumption | refine below_drewN ?_ _ | refine Below.drew ?_ | refine Below.alloc ?_ (by simp <;> omega) _ | refine Below.setCell ?_ (by simp <;> omega) _)) (fun k hk => .inl hk), fun h => by rw [E.out] at h; cases h⟩
      have hJA : J k F (wr.alloc (.cells #[.int .i64 x.kind, .int .i64 x.d, .int .i64 x.a, .int .i64 x.b, .int .u64 (x.v.toNat : Int)] 34)) := HK.out _ _ _ _ hJ.out (by simp) (fun b hb => Below.heap_alloc _ _ _ (HLT.out _ _ _ hJ.out b hb))
      have HJA := hide hJA
      have hTA : Turned F0 w (wr.alloc (.cells #[.int .i64 x.kind, .int .i64 x.d, .int .i64 x.a, .int .i64 x.b, .int .u64 (x.v.toNat : Int)] 34)) := hT.trans (Turned.ofBelow (F := F0) (by with_reducible repeat first | exact Below.refl _ _ | assumption | refine below_drewN ?_ _ | refine Below.drew ?_ | refine Below.alloc ?_ (by simp <;> omega) _ | refine Below.setCell ?_ (by simp <;> omega) _)) (fun k hk => .inl hk)
      have hownA : Own (wr.alloc (.cells #[.int .i64 x.kind, .int .i64 x.d, .int .i64 x.a, .int .i64 x.b, .int .u64 (x.v.toNat : Int)] 34)) w.heap.size 3 b d (stAt l k) := hown.alloc _
      have hXB : Blk (wr.alloc (.cells #[.int .i64 x.kind, .int .i64 x.d, .int .i64 x.a, .int .i64 x.b, .int .u64 (x.v.toNat : Int)] 34)) wr.heap.size 34 #[.int .i64 x.kind, .int .i64 x.d, .int .i64 x.a, .int .i64 x.b, .int .u64 (x.v.toNat : Int)] := Blk.new _ _ _
      have hFX : ∀ g ∈ F, g < wr.heap.size := HLT.out _ _ _ hJ.out
      have HFX := hide hFX
      clear hJA hFX hRk
      obtain ⟨W, hW⟩ : ∃ W, W = wr.alloc (.cells #[.int .i64 x.kind, .int .i64 x.d, .int .i64 x.a, .int .i64 x.b, .int .u64 (x.v.toNat : Int)] 34) := ⟨_, rfl⟩
      have hWs : W.heap.size = wr.heap.size + 1 := by rw [hW]; simp
      rw [← hW] at HJA hTA hownA hXB
      have HW := hide hW
      have HWS := hide hWs
      clear hW hWs
      -- what the callee leaves, whatever it is told of the stack
      have hafter : ∀ (b2 : Option Addr) (n2 : Nat), At W b2 (arnd (stAt l k) x) → n2 = (arnd (stAt l k) x).length → (x.kind = 0 → stAt l k ≠ []) →
          Calls Try.prog 92 #[.int .i64 k, .slice b2 n2 d, c1, c2] W fun e w2 => e = .returned (.tuple #[]) ∧ ∃ F', J (k + 1) F' w2 ∧ Turned F W w2 ∧ (∀ b ∈ F', b ∈ F ∨ W.heap.size ≤ b) ∧ wr.heap.size < w2.heap.size ∧ w2.cell? ⟨wr.heap.size, 0, none⟩ = some (.int .i64 x.kind) ∧ Turned F0 w w2 ∧ ∀ B E c' (m : List Int), Own W B E b c' m → Own w2 B E b c' m := by
        intro b2 n2 h1 h2 h3
        refine (HC.out k x F W b2 n2 d hx.out (by omega) (by omega) h3 HJA.out h1 h2 hTA).mono ?_
        rintro e w2 ⟨rfl, F', g1, g2, g3⟩
        have hxF : wr.heap.size ∉ F := fun hm => by have := HFX.out _ hm; omega
        have hsz2 := g2.size
        have hws := HWS.out
        refine ⟨rfl, F', g1, g2, g3, by omega, ?_, hTA.trans g2 (fun g hg => (hF.out g hg).imp id (fun h => h)), fun B E c' m ho => ho.turned g2 hdis.out⟩
        exact ((World.cell?_of_block (a := ⟨wr.heap.size, 0, none⟩) (g2.block _ (show wr.heap.size < _ by omega) hxF)).trans (hXB.cell 0))
      have HAFT := hide hafter
      clear hafter
      by_cases hk0 : x.kind = 0
      · by_cases hn0 : n = 0
        · have e : R = false := by rw [HS.out, if_neg (by omega), if_pos ⟨hk0, by rw [← hn.out, hn0]⟩]
          have E := hide e
          have hnn : ((n : Int) == 0) = true := by simpa using hn0
          have hkk : (x.kind == 0) = true := by simpa using hk0
          clear e hn0 hk0
          go_wp2
          try rw [Exit.noGoto_ret]
          go_ret
          exact ⟨by rw [E.out]; rfl, hT.trans (Turned.ofBelow (F := F0) (by with_reducible repeat first | exact Below.refl _ _ | assumption | refine below_drewN ?_ _ | refine Below.drew ?_ | refine Below.alloc ?_ (by simp <;> omega) _ | refine Below.setCell ?_ (by simp <;> omega) _)) (fun k hk => .inl hk), fun h => by rw [E.out] at h; cases h⟩
        · have hnn : ((n : Int) == 0) = false := by simpa using hn0
          have hkk : (x.kind == 0) = true := by simpa using hk0
          have hkk7 : (x.kind == 7) = false := by simp [hk0]
          have hst : stAt l k ≠ [] := by intro e; have := hn.out; rw [e] at this; exact hn0 this
          have har : arnd (stAt l k) x = (stAt l k).dropLast := by unfold arnd; rw [if_pos hk0]
          have hnc : n ≤ d := by rw [hn.out]; exact hown.cap.1
          have hpop := hownA.pop hst
          have HP := hide (HAFT.out b (n - 1) (by rw [har]; exact hpop.at_) (by rw [har]; simp [hn.out]) (fun _ => hst))
          have hnp : 0 < n := by omega
          rw [HW.out] at HP
          clear hk0 hn0
          go_wp2_with (go_at_call 92; (with_reducible refine HP.out.mono ?_); rintro e w2 ⟨rfl, F', g1, g2, g3, hz2, hx2, hT2, hO2⟩)
          have hown2 := hO2 _ _ _ _ (by rw [← HW.out]; exact hpop)
          go_roundw
          case rel => exact ⟨k + 1, b, d, n - 1, F', by go_num, by omega, rfl, by rw [HS1.out]; unfold stk; rw [if_neg (by simp at hkk; omega), if_pos (by simpa using hkk)]; simp [hn.out, Hid], by omega, rfl, by rw [HS.out, if_neg (by omega), if_neg (fun h => by have := hn.out; omega)]; rfl, g1, by rw [HS1.out]; unfold stk; rw [if_neg (by simp at hkk; omega), if_pos (by simpa using hkk)]; exact hown2,
            hide (fun g hg hm => (g3 g hm).elim (hdis.out g hg) (fun hle => by have := (hownA.blk g hg).2; rw [HW.out] at this; omega)), hide (fun g hg => (g3 g hg).elim (fun h => hF.out g h) (fun h => .inr (by simp at h; omega))), hT2⟩
          case measure => simp [intOf]; omega
      · have hkk : (x.kind == 0) = false := by simpa using hk0
        have har : arnd (stAt l k) x = stAt l k := by unfold arnd; rw [if_neg hk0]
        have HP := hide (HAFT.out b n (by rw [har]; exact hownA.at_) (by rw [har]; exact hn.out) (fun h => absurd h hk0))
        rw [HW.out] at HP
        by_cases hk7 : x.kind = 7
        · have hkk7 : (x.kind == 7) = true := by simpa using hk7
          have hst1 : stAt l (k + 1) = stAt l k ++ [(k : Int)] := by rw [HS1.out]; unfold stk; rw [if_pos hk7]
          have hwk : R = wellF (stAt l (k + 1)).length (l.drop (k + 1)) := by rw [HS.out, if_neg (by omega), if_neg (fun h => hk0 h.1)]
          have HST1 := hide hst1
          have HWK := hide hwk
          clear hk0 hk7 hst1 hwk
          go_wp2_with (first
            | (go_at_call 92; (with_reducible refine HP.out.mono ?_); rintro e w2 ⟨rfl, F', g1, g2, g3, hz2, hx2, hT2, hO2⟩; have hown2 := hO2 _ _ _ _ (by rw [← HW.out]; exact hownA); have G1 := hide g1; have G3 := hide g3; clear g1 g3 hO2; have hs2 := hT2.size)
            | (at_builtin; refine wpList_push tyI hown2 (k : Int) rfl rfl rfl rfl rfl rfl hn.out hs2 (by omega) ?_; intro b3 d3 w3 hown3 hg3 hm3))
          go_roundw
          case rel =>
            have hbF : ∀ g, b.map (·.block) = some g → g ∉ F' := fun g hg hm => (G3.out g hm).elim (hdis.out g hg) (fun hle => by have := (hownA.blk g hg).2; rw [HW.out] at this; omega)
            have hlt' := HLT.out _ _ _ G1.out
            refine ⟨k + 1, b3, d3, n + 1, F', by go_num, by omega, rfl, by rw [HST1.out]; simp [hn.out, Hid], by omega, rfl, HWK, ?_, by rw [HST1.out]; exact hown3, ?_, hide (fun g hg => (G3.out g hg).elim (fun h => hF.out g h) (fun h => .inr (by simp at h; omega))), ?_⟩
            · exact HK.out _ _ _ _ G1.out hg3.size (fun g hg => hg3.block g (hlt' g hg) (fun e => hbF g e.symm hg))
            · refine hide (fun g hg hm => ?_)
              rcases hm3 with e | ⟨g', e, hle⟩
              · exact hbF g (by rw [← e]; exact hg) hm
              · have h1 := hlt' g hm
                rw [e] at hg
                injection hg with hg
                omega
            · exact hT2.trans (Turned.ofGrown (F := (b.map (·.block)).toList) hg3 (fun g hg => .inl (by rw [hg]; simp))) (fun g hg => .inr (hown2.blk g (by simpa using hg)).1)
          case measure => simp [intOf]; omega
        · have hkk7 : (x.kind == 7) = false := by simpa using hk7
          have hst1 : stAt l (k + 1) = stAt l k := by rw [HS1.out]; unfold stk; rw [if_neg hk7, if_neg hk0]
          have hwk : R = wellF (stAt l (k + 1)).length (l.drop (k + 1)) := by rw [HS.out, if_neg (by omega), if_neg (fun h => hk0 h.1)]
          have HST1 := hide hst1
          have HWK := hide hwk
          clear hk0 hk7 hst1 hwk
          go_wp2_with (go_at_call 92; (with_reducible refine HP.out.mono ?_); rintro e w2 ⟨rfl, F', g1, g2, g3, hz2, hx2, hT2, hO2⟩)
          have hown2 := hO2 _ _ _ _ (by rw [← HW.out]; exact hownA)
          go_roundw
          case rel => exact ⟨k + 1, b, d, n, F', by go_num, by omega, rfl, by rw [HST1.out]; exact hn, by omega, rfl, HWK, g1, by rw [HST1.out]; exact hown2,
            hide (fun g hg hm => (g3 g hm).elim (hdis.out g hg) (fun hle => by have := (hownA.blk g hg).2; rw [HW.out] at this; omega)), hide (fun g hg => (g3 g hg).elim (fun h => hF.out g h) (fun h => .inr (by simp at h; omega))), hT2⟩
          case measure => simp [intOf]; omega
    · have ek : k = l.length := by omega
      subst ek
      by_cases hn0 : n = 0
      · have e : R = true := by rw [hRk.out, ← hn.out, hn0]; simp [wellF]
        have E := hide e
        have hnn : ((n : Int) == 0) = true := by simpa using hn0
        clear e hn0
        go_wp2
        try rw [Exit.noGoto_ret]
        go_ret
        exact ⟨by rw [E.out]; rfl, hT, fun _ => ⟨F, hJ.out, hF.out⟩⟩
      · have e : R = false := by rw [hRk.out, ← hn.out]; simp [wellF]; exact hn0
        have E := hide e
        have hnn : ((n : Int) == 0) = false := by simpa using hn0
        clear e hn0
        go_wp2
        try rw [Exit.noGoto_ret]
        go_ret
        exact ⟨by rw [E.out]; rfl, hT, fun h => by rw [E.out] at h; cases h⟩
end Go.Proofs.Ytoklehndfncmnaa
