/- Several texts of mine in one file. -/
import Derived.Test.YtcamcnahkdiefaaGreatProg
import Derived.Test.YtcamcnahkdiefaaGreatYMNaa
import Derived.RangeFuncNested
import Derived.RangeFuncBound
import Derived.RangeFuncCalls
import Derived.RangeFuncLeaves
import Derived.Shelf.Abstract
import Derived.WalkKit
import Derived.OwnWalkIn
import Derived.TacticsInMore
import Derived.LoopNIn
import Derived.LoopIn
/- Several texts of mine in one file: Eq, Eq2, N8a, Rf, Pi, N8b, N8c, N8d, Rn, Jn, Tk. -/
/- Lists that are alike: the document's tests; copies of words. -/
namespace Go.Proofs.YtcamcnahkdiefaaGreat
set_option linter.unusedVariables false
set_option linter.unusedSimpArgs false
open Go.RowKit

theorem tyU : Ty Tryz.prog 46 50 UInt64 := Ty.of (z := .int .u64 0) (size := 1) (bytes := 8) Tryz.underlying46 (by kernel_rfl) rfl (by decide) rfl
set_option maxHeartbeats 400000 in
theorem CloneU_calls (a : Option Addr) (n c : Nat) (l : List UInt64) (w : World) (hn : n = l.length) (h : At w a l) (hl : n ≤ 1000000000) :
    Calls Tryz.prog 79 #[.slice a n c] w fun e w' => ∃ a' c', e = .returned (.slice a' n c') ∧ Own w' w.heap.size 50 a' c' l ∧ Below w.heap.size w w' := by
  subst hn
  have heq := @Lib.run_eql_slice_nil Tryz.prog
  cases a with
  | none =>
    have h0 : l = [] := by
      cases l with
      | nil => rfl
      | cons x r => obtain ⟨b, off, h, _⟩ := h 0 x rfl; cases h
    subst h0
    go_enter Tryz.func79, Tryz.ntmps79
    go_wp2
    go_ret
    exact ⟨none, 0, rfl, Own.none _ _ _, Below.refl _ _⟩
  | some ad =>
    go_enter Tryz.func79, Tryz.ntmps79
    go_wp2_with (at_builtin; refine wpList_pushAll tyU (Own.new w (Nat.le_refl _) _ UInt64) (h.belowN (Below.alloc (Below.refl _ _) (Nat.le_refl _) _)) rfl rfl rfl rfl rfl rfl (by simp) (by omega) (by omega) ?_; intro a3 c3 w3 hown3 hg3 _)
    go_ret
    exact ⟨a3, c3, by simp, by simpa using hown3, (below_push (Below.alloc (Below.refl _ _) (Nat.le_refl _) _) (Own.new w (Nat.le_refl _) _ UInt64) hg3 (by simp))⟩
set_option maxHeartbeats 400000 in
theorem Same5_calls (a b : Option Addr) (ca cb : Nat) (l : List UInt64) (w : World) (h0 : At w a l) (h1 : At w b l) (hl : l.length ≤ 1000000000) :
    Calls Tryz.prog 38 #[.slice a l.length ca, .slice b l.length cb] w fun e w' => e = .returned (.bool true) ∧ ∃ n, w' = w.drewN n := by
  go_enter Tryz.func38, Tryz.ntmps38
  go_wp2
  go_loopw [5] (fun i wr => ∃ k : Nat, k ≤ l.length ∧ i = .int .i64 k ∧ ∃ q, wr = w.drewN q) (fun i _ => l.length - (intOf i).toNat)
  case atStart => exact ⟨0, by omega, rfl, ⟨0, rfl⟩⟩
  case round =>
    obtain ⟨k, hk, rfl, q, rfl⟩ := hrel
    by_cases hlt : k < l.length
    · obtain ⟨b1, off1, x, rfl, hx, hc⟩ := h0.getU (Below.refl _ _) hlt
      obtain ⟨b2, off2, y, rfl, hy, hd⟩ := h1.getU (Below.refl _ _) hlt
      obtain rfl : x = y := by have := hx.out.symm.trans hy.out; simpa using this
      go_wp2
      go_quiet (fail)
      go_wp2
      go_roundw
      case rel => exact ⟨k + 1, by omega, by go_num, ⟨_, rfl⟩⟩
      case measure => simp [intOf]; omega
    · go_wp2
      go_ret
      exact ⟨rfl, _, rfl⟩
end Go.Proofs.YtcamcnahkdiefaaGreat

/- Lists that are alike, told by their number. -/
namespace Go.Proofs.YtcamcnahkdiefaaGreat
set_option linter.unusedVariables false
set_option linter.unusedSimpArgs false
open Go.RowKit
end Go.Proofs.YtcamcnahkdiefaaGreat

/- Chapter 8: the walk through operations that tells each of them, for a callee that is given as a function value. -/
namespace Go.Proofs.YtcamcnahkdiefaaGreat
set_option linter.unusedVariables false
set_option linter.unusedSimpArgs false
open Go.RowKit

theorem tyI : Ty Tryz.prog 90 3 Int := Ty.of (z := .int .i64 0) (size := 1) (bytes := 8) Tryz.underlying90 (by kernel_rfl) rfl (by decide) rfl
theorem tyO : Ty Tryz.prog 22 89 OpD := Ty.of (z := .agg #[.int .i64 0, .int .i64 0, .int .i64 0, .int .i64 0, .int .u64 0]) (size := 5) (bytes := 40) Tryz.underlying22 (by kernel_rfl) rfl (by decide) rfl

structure Turned (F : List Nat) (w w' : World) : Prop where
  os : w'.os = w.os
  tape : w'.tape = w.tape
  output : w'.output = w.output
  size : w.heap.size ≤ w'.heap.size
  block : ∀ k, k < w.heap.size → k ∉ F → w'.heap[k]? = w.heap[k]?
theorem Turned.refl (F : List Nat) (w : World) : Turned F w w := ⟨rfl, rfl, rfl, Nat.le_refl _, fun _ _ _ => rfl⟩
theorem Turned.trans {F F' : List Nat} {a b c : World} (h : Turned F a b) (k : Turned F' b c) (hF : ∀ k ∈ F', k ∈ F ∨ a.heap.size ≤ k) : Turned F a c :=
  ⟨k.os.trans h.os, k.tape.trans h.tape, k.output.trans h.output, Nat.le_trans h.size k.size, fun i hi hn =>
    (k.block i (Nat.lt_of_lt_of_le hi h.size) (fun hm => (hF i hm).elim hn (fun hle => by omega))).trans (h.block i hi hn)⟩
theorem Turned.ofBelow {F : List Nat} {w w' : World} (h : Below w.heap.size w w') : Turned F w w' := ⟨h.os, h.tape, h.output, h.size, fun k hk _ => h.block k hk⟩
theorem Turned.ofGrown {F : List Nat} {w w' : World} {row : Option Nat} (h : w.grownBy w' row) (hr : ∀ k, row = some k → k ∈ F ∨ w.heap.size ≤ k) : Turned F w w' :=
  ⟨h.os, h.tape, h.output, h.size, fun k hk hn => h.block k hk (fun e => (hr k e.symm).elim hn (fun hle => by omega))⟩
theorem Turned.below {F : List Nat} {B : Nat} {a w w' : World} (h : Below B a w) (k : Turned F w w') (hF : ∀ k ∈ F, B ≤ k) (hB : B ≤ w.heap.size) : Below B a w' :=
  h.trans ⟨k.os, k.tape, k.output, k.size, fun i hi => k.block i (by omega) (fun hm => by have := hF i hm; omega)⟩
theorem Turned.mono {F F' : List Nat} {w w' : World} (h : Turned F w w') (hF : ∀ k ∈ F, k ∈ F' ∨ w.heap.size ≤ k) : Turned F' w w' :=
  ⟨h.os, h.tape, h.output, h.size, fun k hk hn => h.block k hk (fun hm => (hF k hm).elim hn (fun hle => by omega))⟩

theorem At.turned {α : Type} [Flat α] {F : List Nat} {w w' : World} {a : Option Addr} {l : List α} (h : At w a l) (hT : Turned F w w') (ha : l ≠ [] → ∀ g ∈ F, a.map (·.block) ≠ some g) : At w' a l := by
  by_cases hl : l = []
  · subst hl; exact At.nil _ _
  · exact h.keep fun b off e hlt => hT.block b hlt fun hm => ha hl b hm (by rw [e]; rfl)
theorem Own.turned {α : Type} [Flat α] {F : List Nat} {w w' : World} {B : Nat} {E : TypeId} {a : Option Addr} {c : Nat} {l : List α} (h : Own w B E a c l) (hT : Turned F w w') (ha : ∀ g, a.map (·.block) = some g → g ∉ F) : Own w' B E a c l :=
  h.keep fun k hk hlt => hT.block k hlt (ha k hk)

theorem Own.pop {α : Type} [Flat α] {w : World} {B : Nat} {E : TypeId} {a : Option Addr} {c : Nat} {l : List α} (h : Own w B E a c l) (hl : l ≠ []) : Own w B E a c l.dropLast := by
  obtain ⟨x, r, hxr⟩ := List.exists_cons_of_ne_nil hl
  have hlen : l.dropLast.length = l.length - 1 := by simp
  have hpos : 0 < l.length := List.length_pos_iff.2 hl
  have hflat : l.dropLast.flatMap Flat.enc = (l.flatMap (Flat.enc (α := α))).take (l.dropLast.length * Flat.n α) := by
    have e : l = l.dropLast ++ [l.getLast hl] := (List.dropLast_concat_getLast hl).symm
    have e1 : l.flatMap (Flat.enc (α := α)) = l.dropLast.flatMap Flat.enc ++ Flat.enc (l.getLast hl) := by
      conv => lhs; rw [e, List.flatMap_append]
      simp
    rw [e1, ← enc_length l.dropLast, List.take_left]
  refine ⟨enc_length _, ?_⟩
  rcases h.2 with ⟨hv, h0⟩ | ⟨g, cap, cur, hv, hB, hg, h1, h2, h3, h4⟩
  · omega
  · right
    injection hv with ha _ hc
    refine ⟨g, cap, cur, by rw [ha, hc], hB, hg, by omega, h2, h3, ?_⟩
    rw [hflat, ← h4, List.take_take, Nat.min_eq_left (Nat.mul_le_mul_right _ (by omega))]

def stAt (l : List OpD) (k : Nat) : List Int := stF 0 [] (l.take k)
theorem stAt_succ (l : List OpD) (k : Nat) (x : OpD) (h : l[k]? = some x) : stAt l (k + 1) = stk (stAt l k) k x := by
  have hk : k < l.length := (List.getElem?_eq_some_iff.1 h).1
  unfold stAt
  rw [List.take_add_one, h, stF_append]
  simp [stF]
  rw [Nat.min_eq_left (by omega)]
theorem well_step (l : List OpD) (k : Nat) (x : OpD) (h : l[k]? = some x) : wellF (stAt l k).length (l.drop k) =
    if x.kind < 0 ∨ 7 < x.kind then false else if x.kind = 0 ∧ (stAt l k).length = 0 then false else wellF (stAt l (k + 1)).length (l.drop (k + 1)) := by
  rw [drop_at h, wellF, stAt_succ l k x h]
  unfold stk
  by_cases h1 : x.kind < 0 ∨ 7 < x.kind
  · rw [if_pos h1, if_pos h1]
  · rw [if_neg h1, if_neg h1]
    by_cases h7 : x.kind = 7
    · rw [if_pos h7, if_neg (by omega), if_pos h7]; simp
    · rw [if_neg h7, if_neg h7]
      by_cases h0 : x.kind = 0
      · rw [if_pos h0, if_pos h0]
        by_cases hs : (stAt l k).length = 0
        · rw [if_pos hs, if_pos ⟨h0, hs⟩]
        · rw [if_neg hs, if_neg (fun h => hs h.2)]; simp
      · rw [if_neg h0, if_neg h0, if_neg (fun h => h0 h.1)]


set_option maxRecDepth 100000 in
set_option maxHeartbeats 1600000 in
theorem walkM_calls (c1 c2 c3 : Value) (a : Option Addr) (c : Nat) (l : List OpD) (w : World) (h : At w a l) (hl : l.length ≤ 1000000)
    (J : Nat → List Nat → World → Prop) (F0 : List Nat)
    (hkeep : ∀ k F w w', J k F w → w.heap.size ≤ w'.heap.size → (∀ b ∈ F, w'.heap[b]? = w.heap[b]?) → J k F w') (hlt : ∀ k F w, J k F w → ∀ b ∈ F, b < w.heap.size)
    (hcall : ∀ (k : Nat) (x : OpD) (F : List Nat) (w' : World) (b : Option Addr) (n d : Nat), l[k]? = some x → 0 ≤ x.kind → x.kind ≤ 7 → (x.kind = 0 → stAt l k ≠ []) → J k F w' → At w' b (arnd (stAt l k) x) → n = (arnd (stAt l k) x).length → Turned F0 w w' →
      Calls Tryz.prog 139 #[.int .i64 k, .slice b n d, c1, c2, c3] w' fun e w'' => e = .returned (.tuple #[]) ∧ ∃ F', J (k + 1) F' w'' ∧ Turned F w' w'' ∧ ∀ b ∈ F', b ∈ F ∨ w'.heap.size ≤ b)
    (h0 : J 0 F0 w) (ha : l ≠ [] → ∀ g ∈ F0, a.map (·.block) ≠ some g) :
    Calls Tryz.prog 138 #[.slice a l.length c, .func (.func 139) #[] #[c1, c2, c3]] w fun e w' => e = .returned (.bool (well l)) ∧ Turned F0 w w' ∧ (well l = true → ∃ F', J l.length F' w' ∧ ∀ b ∈ F', b ∈ F0 ∨ w.heap.size ≤ b) := by
  have HK := hide hkeep
  have HLT := hide hlt
  have HC := hide hcall
  obtain ⟨R, hR⟩ : ∃ R, R = well l := ⟨_, rfl⟩
  rw [← hR]
  have HR := hide hR
  have HAF := hide ha
  clear hkeep hlt hcall hR ha
  go_enter Tryz.func138, Tryz.ntmps138
  go_wp2
  go_step3
  go_wp2
  go_step3
  go_wp2
  go_loopw [5, 6, 11] (fun st wl i wr => ∃ (k : Nat) (b : Option Addr) (d n : Nat) (F : List Nat), i = .int .i64 k ∧ k ≤ l.length ∧ st = .slice b n d ∧ Hid (n = (stAt l k).length) ∧ n ≤ k ∧ wl = .bool true ∧ Hid (R = wellF (stAt l k).length (l.drop k)) ∧ Hid (J k F wr) ∧ Own wr w.heap.size 3 b d (stAt l k) ∧
      Hid (∀ g, b.map (·.block) = some g → g ∉ F) ∧ Hid (∀ g ∈ F, g ∈ F0 ∨ w.heap.size ≤ g) ∧ Turned F0 w wr)
    (fun _ _ i _ => l.length - (intOf i).toNat)
  case atStart => exact ⟨0, none, 0, 0, F0, rfl, by omega, rfl, rfl, by omega, rfl, by rw [HR.out]; rfl, h0, Own.none _ _ _, hide (fun g hg => by cases hg), hide (fun g hg => Or.inl hg), Turned.refl _ _⟩
  case round =>
    obtain ⟨k, b, d, n, F, rfl, hk, rfl, hn, hnk, rfl, hRk, hJ, hown, hdis, hF, hT⟩ := hrel
    have hsz := hT.size
    by_cases hlt : k < l.length
    · obtain ⟨b1, off1, x, rfl, hx, x0, x1, x2, x3, x4⟩ := (h.turned hT HAF.out).getOp (Below.refl _ _) hlt
      have hstep := well_step l k x hx.out
      rw [← hRk.out] at hstep
      have hst1 := stAt_succ l k x hx.out
      have HS := hide hstep
      have HS1 := hide hst1
      clear hstep hst1
      by_cases hk1 : x.kind < 0
      · have e : R = false := by rw [HS.out, if_pos (by omega)]
        have E := hide e
        clear e
        go_wp2
        try rw [Exit.noGoto_ret]
        go_ret
        exact ⟨by rw [E.out]; rfl, hT.trans (Turned.ofBelow (F := F0) (by with_reducible repeat first | exact Below.refl _ _ | assumption | refine below_drewN ?_ _ | refine Below.drew ?_ | refine Below.alloc ?_ (by simp <;> omega) _ | refine Below.setCell ?_ (by simp <;> omega) _)) (fun k hk => .inl hk), fun h => by rw [E.out] at h; cases h⟩
      by_cases hk2 : 7 < x.kind
      · have e : R = false := by rw [HS.out, if_pos (by omega)]
        have E := hide e
        clear e
        go_wp2
        try rw [Exit.noGoto_ret]
        go_ret
        exact ⟨by rw [E.out]; rfl, hT.trans (Turned.ofBelow (F := F0) (by with_reducible repeat first | exact Below.refl _ _ | assumption | refine below_drewN ?_ _ | refine Below.drew ?_ | refine Below.alloc ?_ (by simp <;> omega) _ | refine Below.setCell ?_ (by simp <;> omega) _)) (fun k hk => .inl hk), fun h => by rw [E.out] at h; cases h⟩
      have hJA : J k F (wr.alloc (.cells #[.int .i64 x.kind, .int .i64 x.d, .int .i64 x.a, .int .i64 x.b, .int .u64 (x.v.toNat : Int)] 89)) := HK.out _ _ _ _ hJ.out (by simp) (fun b hb => Below.heap_alloc _ _ _ (HLT.out _ _ _ hJ.out b hb))
      have HJA := hide hJA
      have hTA : Turned F0 w (wr.alloc (.cells #[.int .i64 x.kind, .int .i64 x.d, .int .i64 x.a, .int .i64 x.b, .int .u64 (x.v.toNat : Int)] 89)) := hT.trans (Turned.ofBelow (F := F0) (by with_reducible repeat first | exact Below.refl _ _ | assumption | refine below_drewN ?_ _ | refine Below.drew ?_ | refine Below.alloc ?_ (by simp <;> omega) _ | refine Below.setCell ?_ (by simp <;> omega) _)) (fun k hk => .inl hk)
      have hownA : Own (wr.alloc (.cells #[.int .i64 x.kind, .int .i64 x.d, .int .i64 x.a, .int .i64 x.b, .int .u64 (x.v.toNat : Int)] 89)) w.heap.size 3 b d (stAt l k) := hown.alloc _
      have hXB : Blk (wr.alloc (.cells #[.int .i64 x.kind, .int .i64 x.d, .int .i64 x.a, .int .i64 x.b, .int .u64 (x.v.toNat : Int)] 89)) wr.heap.size 89 #[.int .i64 x.kind, .int .i64 x.d, .int .i64 x.a, .int .i64 x.b, .int .u64 (x.v.toNat : Int)] := Blk.new _ _ _
      have hFX : ∀ g ∈ F, g < wr.heap.size := HLT.out _ _ _ hJ.out
      have HFX := hide hFX
      clear hJA hFX hRk
      obtain ⟨W, hW⟩ : ∃ W, W = wr.alloc (.cells #[.int .i64 x.kind, .int .i64 x.d, .int .i64 x.a, .int .i64 x.b, .int .u64 (x.v.toNat : Int)] 89) := ⟨_, rfl⟩
      have hWs : W.heap.size = wr.heap.size + 1 := by rw [hW]; simp
      rw [← hW] at HJA hTA hownA hXB
      have HW := hide hW
      have HWS := hide hWs
      clear hW hWs
      -- what the callee leaves, whatever it is told of the stack
      have hafter : ∀ (b2 : Option Addr) (n2 : Nat), At W b2 (arnd (stAt l k) x) → n2 = (arnd (stAt l k) x).length → (x.kind = 0 → stAt l k ≠ []) →
          Calls Tryz.prog 139 #[.int .i64 k, .slice b2 n2 d, c1, c2, c3] W fun e w2 => e = .returned (.tuple #[]) ∧ ∃ F', J (k + 1) F' w2 ∧ Turned F W w2 ∧ (∀ b ∈ F', b ∈ F ∨ W.heap.size ≤ b) ∧ wr.heap.size < w2.heap.size ∧ w2.cell? ⟨wr.heap.size, 0, none⟩ = some (.int .i64 x.kind) ∧ Turned F0 w w2 ∧ ∀ B E c' (m : List Int), Own W B E b c' m → Own w2 B E b c' m := by
        intro b2 n2 h1 h2 h3
        refine (HC.out k x F W b2 n2 d hx.out (by omega) (by omega) h3 HJA.out h1 h2 hTA).mono ?_
        rintro e w2 ⟨rfl, F', g1, g2, g3⟩
        have hxF : wr.heap.size ∉ F := fun hm => by have := HFX.out _ hm; omega
        have hsz2 := g2.size
        have hws := HWS.out
        refine ⟨rfl, F', g1, g2, g3, by omega, ?_, hTA.trans g2 (fun g hg => (hF.out g hg).imp id (fun h => h)), fun B E c' m ho => ho.turned g2 hdis.out⟩
        exact ((World.cell?_of_block (a := ⟨wr.heap.size, 0, none⟩) (g2.block _ (show wr.heap.size < _ by omega) hxF)).trans (hXB.cell 0))
      have HAFT := hide hafter
      clear hafter
      by_cases hk0 : x.kind = 0
      · by_cases hn0 : n = 0
        · have e : R = false := by rw [HS.out, if_neg (by omega), if_pos ⟨hk0, by rw [← hn.out, hn0]⟩]
          have E := hide e
          have hnn : ((n : Int) == 0) = true := by simpa using hn0
          have hkk : (x.kind == 0) = true := by simpa using hk0
          clear e hn0 hk0
          go_wp2
          try rw [Exit.noGoto_ret]
          go_ret
          exact ⟨by rw [E.out]; rfl, hT.trans (Turned.ofBelow (F := F0) (by with_reducible repeat first | exact Below.refl _ _ | assumption | refine below_drewN ?_ _ | refine Below.drew ?_ | refine Below.alloc ?_ (by simp <;> omega) _ | refine Below.setCell ?_ (by simp <;> omega) _)) (fun k hk => .inl hk), fun h => by rw [E.out] at h; cases h⟩
        · have hnn : ((n : Int) == 0) = false := by simpa using hn0
          have hkk : (x.kind == 0) = true := by simpa using hk0
          have hkk7 : (x.kind == 7) = false := by simp [hk0]
          have hst : stAt l k ≠ [] := by intro e; have := hn.out; rw [e] at this; exact hn0 this
          have har : arnd (stAt l k) x = (stAt l k).dropLast := by unfold arnd; rw [if_pos hk0]
          have hnc : n ≤ d := by rw [hn.out]; exact hown.cap.1
          have hpop := hownA.pop hst
          have HP := hide (HAFT.out b (n - 1) (by rw [har]; exact hpop.at_) (by rw [har]; simp [hn.out]) (fun _ => hst))
          have hnp : 0 < n := by omega
          rw [HW.out] at HP
          clear hk0 hn0
          go_wp2_with (go_at_call 139; (with_reducible refine HP.out.mono ?_); rintro e w2 ⟨rfl, F', g1, g2, g3, hz2, hx2, hT2, hO2⟩)
          have hown2 := hO2 _ _ _ _ (by rw [← HW.out]; exact hpop)
          go_roundw
          case rel => exact ⟨k + 1, b, d, n - 1, F', by go_num, by omega, rfl, by rw [HS1.out]; unfold stk; rw [if_neg (by simp at hkk; omega), if_pos (by simpa using hkk)]; simp [hn.out, Hid], by omega, rfl, by rw [HS.out, if_neg (by omega), if_neg (fun h => by have := hn.out; omega)]; rfl, g1, by rw [HS1.out]; unfold stk; rw [if_neg (by simp at hkk; omega), if_pos (by simpa using hkk)]; exact hown2,
            hide (fun g hg hm => (g3 g hm).elim (hdis.out g hg) (fun hle => by have := (hownA.blk g hg).2; rw [HW.out] at this; omega)), hide (fun g hg => (g3 g hg).elim (fun h => hF.out g h) (fun h => .inr (by simp at h; omega))), hT2⟩
          case measure => simp [intOf]; omega
      · have hkk : (x.kind == 0) = false := by simpa using hk0
        have har : arnd (stAt l k) x = stAt l k := by unfold arnd; rw [if_neg hk0]
        have HP := hide (HAFT.out b n (by rw [har]; exact hownA.at_) (by rw [har]; exact hn.out) (fun h => absurd h hk0))
        rw [HW.out] at HP
        by_cases hk7 : x.kind = 7
        · have hkk7 : (x.kind == 7) = true := by simpa using hk7
          have hst1 : stAt l (k + 1) = stAt l k ++ [(k : Int)] := by rw [HS1.out]; unfold stk; rw [if_pos hk7]
          have hwk : R = wellF (stAt l (k + 1)).length (l.drop (k + 1)) := by rw [HS.out, if_neg (by omega), if_neg (fun h => hk0 h.1)]
          have HST1 := hide hst1
          have HWK := hide hwk
          clear hk0 hk7 hst1 hwk
          go_wp2_with (first
            | (go_at_call 139; (with_reducible refine HP.out.mono ?_); rintro e w2 ⟨rfl, F', g1, g2, g3, hz2, hx2, hT2, hO2⟩; have hown2 := hO2 _ _ _ _ (by rw [← HW.out]; exact hownA); have G1 := hide g1; have G3 := hide g3; clear g1 g3 hO2; have hs2 := hT2.size)
            | (at_builtin; refine wpList_push tyI hown2 (k : Int) rfl rfl rfl rfl rfl rfl hn.out hs2 (by omega) ?_; intro b3 d3 w3 hown3 hg3 hm3))
          go_roundw
          case rel =>
            have hbF : ∀ g, b.map (·.block) = some g → g ∉ F' := fun g hg hm => (G3.out g hm).elim (hdis.out g hg) (fun hle => by have := (hownA.blk g hg).2; rw [HW.out] at this; omega)
            have hlt' := HLT.out _ _ _ G1.out
            refine ⟨k + 1, b3, d3, n + 1, F', by go_num, by omega, rfl, by rw [HST1.out]; simp [hn.out, Hid], by omega, rfl, HWK, ?_, by rw [HST1.out]; exact hown3, ?_, hide (fun g hg => (G3.out g hg).elim (fun h => hF.out g h) (fun h => .inr (by simp at h; omega))), ?_⟩
            · exact HK.out _ _ _ _ G1.out hg3.size (fun g hg => hg3.block g (hlt' g hg) (fun e => hbF g e.symm hg))
            · refine hide (fun g hg hm => ?_)
              rcases hm3 with e | ⟨g', e, hle⟩
              · exact hbF g (by rw [← e]; exact hg) hm
              · have h1 := hlt' g hm
                rw [e] at hg
                injection hg with hg
                omega
            · exact hT2.trans (Turned.ofGrown (F := (b.map (·.block)).toList) hg3 (fun g hg => .inl (by rw [hg]; simp))) (fun g hg => .inr (hown2.blk g (by simpa using hg)).1)
          case measure => simp [intOf]; omega
        · have hkk7 : (x.kind == 7) = false := by simpa using hk7
          have hst1 : stAt l (k + 1) = stAt l k := by rw [HS1.out]; unfold stk; rw [if_neg hk7, if_neg hk0]
          have hwk : R = wellF (stAt l (k + 1)).length (l.drop (k + 1)) := by rw [HS.out, if_neg (by omega), if_neg (fun h => hk0 h.1)]
          have HST1 := hide hst1
          have HWK := hide hwk
          clear hk0 hk7 hst1 hwk
          go_wp2_with (go_at_call 139; (with_reducible refine HP.out.mono ?_); rintro e w2 ⟨rfl, F', g1, g2, g3, hz2, hx2, hT2, hO2⟩)
          have hown2 := hO2 _ _ _ _ (by rw [← HW.out]; exact hownA)
          go_roundw
          case rel => exact ⟨k + 1, b, d, n, F', by go_num, by omega, rfl, by rw [HST1.out]; exact hn, by omega, rfl, HWK, g1, by rw [HST1.out]; exact hown2,
            hide (fun g hg hm => (g3 g hm).elim (hdis.out g hg) (fun hle => by have := (hownA.blk g hg).2; rw [HW.out] at this; omega)), hide (fun g hg => (g3 g hg).elim (fun h => hF.out g h) (fun h => .inr (by simp at h; omega))), hT2⟩
          case measure => simp [intOf]; omega
    · have ek : k = l.length := by omega
      subst ek
      by_cases hn0 : n = 0
      · have e : R = true := by rw [hRk.out, ← hn.out, hn0]; simp [wellF]
        have E := hide e
        have hnn : ((n : Int) == 0) = true := by simpa using hn0
        clear e hn0
        go_wp2
        try rw [Exit.noGoto_ret]
        go_ret
        exact ⟨by rw [E.out]; rfl, hT, fun _ => ⟨F, hJ.out, hF.out⟩⟩
      · have e : R = false := by rw [hRk.out, ← hn.out]; simp [wellF]; exact hn0
        have E := hide e
        have hnn : ((n : Int) == 0) = false := by simpa using hn0
        clear e hn0
        go_wp2
        try rw [Exit.noGoto_ret]
        go_ret
        exact ⟨by rw [E.out]; rfl, hT, fun h => by rw [E.out] at h; cases h⟩
set_option maxRecDepth 100000 in
set_option maxHeartbeats 1600000 in
theorem walkD_calls (c1 c2 : Value) (a : Option Addr) (c : Nat) (l : List OpD) (w : World) (h : At w a l) (hl : l.length ≤ 1000000)
    (J : Nat → List Nat → World → Prop) (F0 : List Nat)
    (hkeep : ∀ k F w w', J k F w → w.heap.size ≤ w'.heap.size → (∀ b ∈ F, w'.heap[b]? = w.heap[b]?) → J k F w') (hlt : ∀ k F w, J k F w → ∀ b ∈ F, b < w.heap.size)
    (hcall : ∀ (k : Nat) (x : OpD) (F : List Nat) (w' : World) (b : Option Addr) (n d : Nat), l[k]? = some x → 0 ≤ x.kind → x.kind ≤ 7 → (x.kind = 0 → stAt l k ≠ []) → J k F w' → At w' b (arnd (stAt l k) x) → n = (arnd (stAt l k) x).length → Turned F0 w w' →
      Calls Tryz.prog 208 #[.int .i64 k, .slice b n d, c1, c2] w' fun e w'' => e = .returned (.tuple #[]) ∧ ∃ F', J (k + 1) F' w'' ∧ Turned F w' w'' ∧ ∀ b ∈ F', b ∈ F ∨ w'.heap.size ≤ b)
    (h0 : J 0 F0 w) (ha : l ≠ [] → ∀ g ∈ F0, a.map (·.block) ≠ some g) :
    Calls Tryz.prog 138 #[.slice a l.length c, .func (.func 208) #[] #[c1, c2]] w fun e w' => e = .returned (.bool (well l)) ∧ Turned F0 w w' ∧ (well l = true → ∃ F', J l.length F' w' ∧ ∀ b ∈ F', b ∈ F0 ∨ w.heap.size ≤ b) := by
  have HK := hide hkeep
  have HLT := hide hlt
  have HC := hide hcall
  obtain ⟨R, hR⟩ : ∃ R, R = well l := ⟨_, rfl⟩
  rw [← hR]
  have HR := hide hR
  have HAF := hide ha
  clear hkeep hlt hcall hR ha
  go_enter Tryz.func138, Tryz.ntmps138
  go_wp2
  go_step3
  go_wp2
  go_step3
  go_wp2
  go_loopw [5, 6, 11] (fun st wl i wr => ∃ (k : Nat) (b : Option Addr) (d n : Nat) (F : List Nat), i = .int .i64 k ∧ k ≤ l.length ∧ st = .slice b n d ∧ Hid (n = (stAt l k).length) ∧ n ≤ k ∧ wl = .bool true ∧ Hid (R = wellF (stAt l k).length (l.drop k)) ∧ Hid (J k F wr) ∧ Own wr w.heap.size 3 b d (stAt l k) ∧
      Hid (∀ g, b.map (·.block) = some g → g ∉ F) ∧ Hid (∀ g ∈ F, g ∈ F0 ∨ w.heap.size ≤ g) ∧ Turned F0 w wr)
    (fun _ _ i _ => l.length - (intOf i).toNat)
  case atStart => exact ⟨0, none, 0, 0, F0, rfl, by omega, rfl, rfl, by omega, rfl, by rw [HR.out]; rfl, h0, Own.none _ _ _, hide (fun g hg => by cases hg), hide (fun g hg => Or.inl hg), Turned.refl _ _⟩
  case round =>
    obtain ⟨k, b, d, n, F, rfl, hk, rfl, hn, hnk, rfl, hRk, hJ, hown, hdis, hF, hT⟩ := hrel
    have hsz := hT.size
    by_cases hlt : k < l.length
    · obtain ⟨b1, off1, x, rfl, hx, x0, x1, x2, x3, x4⟩ := (h.turned hT HAF.out).getOp (Below.refl _ _) hlt
      have hstep := well_step l k x hx.out
      rw [← hRk.out] at hstep
      have hst1 := stAt_succ l k x hx.out
      have HS := hide hstep
      have HS1 := hide hst1
      clear hstep hst1
      by_cases hk1 : x.kind < 0
      · have e : R = false := by rw [HS.out, if_pos (by omega)]
        have E := hide e
        clear e
        go_wp2
        try rw [Exit.noGoto_ret]
        go_ret
        exact ⟨by rw [E.out]; rfl, hT.trans (Turned.ofBelow (F := F0) (by with_reducible repeat first | exact Below.refl _ _ | assumption | refine below_drewN ?_ _ | refine Below.drew ?_ | refine Below.alloc ?_ (by simp <;> omega) _ | refine Below.setCell ?_ (by simp <;> omega) _)) (fun k hk => .inl hk), fun h => by rw [E.out] at h; cases h⟩
      by_cases hk2 : 7 < x.kind
      · have e : R = false := by rw [HS.out, if_pos (by omega)]
        have E := hide e
        clear e
        go_wp2
        try rw [Exit.noGoto_ret]
        go_ret
        exact ⟨by rw [E.out]; rfl, hT.trans (Turned.ofBelow (F := F0) (by with_reducible repeat first | exact Below.refl _ _ | assumption | refine below_drewN ?_ _ | refine Below.drew ?_ | refine Below.alloc ?_ (by simp <;> omega) _ | refine Below.setCell ?_ (by simp <;> omega) _)) (fun k hk => .inl hk), fun h => by rw [E.out] at h; cases h⟩
      have hJA : J k F (wr.alloc (.cells #[.int .i64 x.kind, .int .i64 x.d, .int .i64 x.a, .int .i64 x.b, .int .u64 (x.v.toNat : Int)] 89)) := HK.out _ _ _ _ hJ.out (by simp) (fun b hb => Below.heap_alloc _ _ _ (HLT.out _ _ _ hJ.out b hb))
      have HJA := hide hJA
      have hTA : Turned F0 w (wr.alloc (.cells #[.int .i64 x.kind, .int .i64 x.d, .int .i64 x.a, .int .i64 x.b, .int .u64 (x.v.toNat : Int)] 89)) := hT.trans (Turned.ofBelow (F := F0) (by with_reducible repeat first | exact Below.refl _ _ | assumption | refine below_drewN ?_ _ | refine Below.drew ?_ | refine Below.alloc ?_ (by simp <;> omega) _ | refine Below.setCell ?_ (by simp <;> omega) _)) (fun k hk => .inl hk)
      have hownA : Own (wr.alloc (.cells #[.int .i64 x.kind, .int .i64 x.d, .int .i64 x.a, .int .i64 x.b, .int .u64 (x.v.toNat : Int)] 89)) w.heap.size 3 b d (stAt l k) := hown.alloc _
      have hXB : Blk (wr.alloc (.cells #[.int .i64 x.kind, .int .i64 x.d, .int .i64 x.a, .int .i64 x.b, .int .u64 (x.v.toNat : Int)] 89)) wr.heap.size 89 #[.int .i64 x.kind, .int .i64 x.d, .int .i64 x.a, .int .i64 x.b, .int .u64 (x.v.toNat : Int)] := Blk.new _ _ _
      have hFX : ∀ g ∈ F, g < wr.heap.size := HLT.out _ _ _ hJ.out
      have HFX := hide hFX
      clear hJA hFX hRk
      obtain ⟨W, hW⟩ : ∃ W, W = wr.alloc (.cells #[.int .i64 x.kind, .int .i64 x.d, .int .i64 x.a, .int .i64 x.b, .int .u64 (x.v.toNat : Int)] 89) := ⟨_, rfl⟩
      have hWs : W.heap.size = wr.heap.size + 1 := by rw [hW]; simp
      rw [← hW] at HJA hTA hownA hXB
      have HW := hide hW
      have HWS := hide hWs
      clear hW hWs
      -- what the callee leaves, whatever it is told of the stack
      have hafter : ∀ (b2 : Option Addr) (n2 : Nat), At W b2 (arnd (stAt l k) x) → n2 = (arnd (stAt l k) x).length → (x.kind = 0 → stAt l k ≠ []) →
          Calls Tryz.prog 208 #[.int .i64 k, .slice b2 n2 d, c1, c2] W fun e w2 => e = .returned (.tuple #[]) ∧ ∃ F', J (k + 1) F' w2 ∧ Turned F W w2 ∧ (∀ b ∈ F', b ∈ F ∨ W.heap.size ≤ b) ∧ wr.heap.size < w2.heap.size ∧ w2.cell? ⟨wr.heap.size, 0, none⟩ = some (.int .i64 x.kind) ∧ Turned F0 w w2 ∧ ∀ B E c' (m : List Int), Own W B E b c' m → Own w2 B E b c' m := by
        intro b2 n2 h1 h2 h3
        refine (HC.out k x F W b2 n2 d hx.out (by omega) (by omega) h3 HJA.out h1 h2 hTA).mono ?_
        rintro e w2 ⟨rfl, F', g1, g2, g3⟩
        have hxF : wr.heap.size ∉ F := fun hm => by have := HFX.out _ hm; omega
        have hsz2 := g2.size
        have hws := HWS.out
        refine ⟨rfl, F', g1, g2, g3, by omega, ?_, hTA.trans g2 (fun g hg => (hF.out g hg).imp id (fun h => h)), fun B E c' m ho => ho.turned g2 hdis.out⟩
        exact ((World.cell?_of_block (a := ⟨wr.heap.size, 0, none⟩) (g2.block _ (show wr.heap.size < _ by omega) hxF)).trans (hXB.cell 0))
      have HAFT := hide hafter
      clear hafter
      by_cases hk0 : x.kind = 0
      · by_cases hn0 : n = 0
        · have e : R = false := by rw [HS.out, if_neg (by omega), if_pos ⟨hk0, by rw [← hn.out, hn0]⟩]
          have E := hide e
          have hnn : ((n : Int) == 0) = true := by simpa using hn0
          have hkk : (x.kind == 0) = true := by simpa using hk0
          clear e hn0 hk0
          go_wp2
          try rw [Exit.noGoto_ret]
          go_ret
          exact ⟨by rw [E.out]; rfl, hT.trans (Turned.ofBelow (F := F0) (by with_reducible repeat first | exact Below.refl _ _ | assumption | refine below_drewN ?_ _ | refine Below.drew ?_ | refine Below.alloc ?_ (by simp <;> omega) _ | refine Below.setCell ?_ (by simp <;> omega) _)) (fun k hk => .inl hk), fun h => by rw [E.out] at h; cases h⟩
        · have hnn : ((n : Int) == 0) = false := by simpa using hn0
          have hkk : (x.kind == 0) = true := by simpa using hk0
          have hkk7 : (x.kind == 7) = false := by simp [hk0]
          have hst : stAt l k ≠ [] := by intro e; have := hn.out; rw [e] at this; exact hn0 this
          have har : arnd (stAt l k) x = (stAt l k).dropLast := by unfold arnd; rw [if_pos hk0]
          have hnc : n ≤ d := by rw [hn.out]; exact hown.cap.1
          have hpop := hownA.pop hst
          have HP := hide (HAFT.out b (n - 1) (by rw [har]; exact hpop.at_) (by rw [har]; simp [hn.out]) (fun _ => hst))
          have hnp : 0 < n := by omega
          rw [HW.out] at HP
          clear hk0 hn0
          go_wp2_with (go_at_call 208; (with_reducible refine HP.out.mono ?_); rintro e w2 ⟨rfl, F', g1, g2, g3, hz2, hx2, hT2, hO2⟩)
          have hown2 := hO2 _ _ _ _ (by rw [← HW.out]; exact hpop)
          go_roundw
          case rel => exact ⟨k + 1, b, d, n - 1, F', by go_num, by omega, rfl, by rw [HS1.out]; unfold stk; rw [if_neg (by simp at hkk; omega), if_pos (by simpa using hkk)]; simp [hn.out, Hid], by omega, rfl, by rw [HS.out, if_neg (by omega), if_neg (fun h => by have := hn.out; omega)]; rfl, g1, by rw [HS1.out]; unfold stk; rw [if_neg (by simp at hkk; omega), if_pos (by simpa using hkk)]; exact hown2,
            hide (fun g hg hm => (g3 g hm).elim (hdis.out g hg) (fun hle => by have := (hownA.blk g hg).2; rw [HW.out] at this; omega)), hide (fun g hg => (g3 g hg).elim (fun h => hF.out g h) (fun h => .inr (by simp at h; omega))), hT2⟩
          case measure => simp [intOf]; omega
      · have hkk : (x.kind == 0) = false := by simpa using hk0
        have har : arnd (stAt l k) x = stAt l k := by unfold arnd; rw [if_neg hk0]
        have HP := hide (HAFT.out b n (by rw [har]; exact hownA.at_) (by rw [har]; exact hn.out) (fun h => absurd h hk0))
        rw [HW.out] at HP
        by_cases hk7 : x.kind = 7
        · have hkk7 : (x.kind == 7) = true := by simpa using hk7
          have hst1 : stAt l (k + 1) = stAt l k ++ [(k : Int)] := by rw [HS1.out]; unfold stk; rw [if_pos hk7]
          have hwk : R = wellF (stAt l (k + 1)).length (l.drop (k + 1)) := by rw [HS.out, if_neg (by omega), if_neg (fun h => hk0 h.1)]
          have HST1 := hide hst1
          have HWK := hide hwk
          clear hk0 hk7 hst1 hwk
          go_wp2_with (first
            | (go_at_call 208; (with_reducible refine HP.out.mono ?_); rintro e w2 ⟨rfl, F', g1, g2, g3, hz2, hx2, hT2, hO2⟩; have hown2 := hO2 _ _ _ _ (by rw [← HW.out]; exact hownA); have G1 := hide g1; have G3 := hide g3; clear g1 g3 hO2; have hs2 := hT2.size)
            | (at_builtin; refine wpList_push tyI hown2 (k : Int) rfl rfl rfl rfl rfl rfl hn.out hs2 (by omega) ?_; intro b3 d3 w3 hown3 hg3 hm3))
          go_roundw
          case rel =>
            have hbF : ∀ g, b.map (·.block) = some g → g ∉ F' := fun g hg hm => (G3.out g hm).elim (hdis.out g hg) (fun hle => by have := (hownA.blk g hg).2; rw [HW.out] at this; omega)
            have hlt' := HLT.out _ _ _ G1.out
            refine ⟨k + 1, b3, d3, n + 1, F', by go_num, by omega, rfl, by rw [HST1.out]; simp [hn.out, Hid], by omega, rfl, HWK, ?_, by rw [HST1.out]; exact hown3, ?_, hide (fun g hg => (G3.out g hg).elim (fun h => hF.out g h) (fun h => .inr (by simp at h; omega))), ?_⟩
            · exact HK.out _ _ _ _ G1.out hg3.size (fun g hg => hg3.block g (hlt' g hg) (fun e => hbF g e.symm hg))
            · refine hide (fun g hg hm => ?_)
              rcases hm3 with e | ⟨g', e, hle⟩
              · exact hbF g (by rw [← e]; exact hg) hm
              · have h1 := hlt' g hm
                rw [e] at hg
                injection hg with hg
                omega
            · exact hT2.trans (Turned.ofGrown (F := (b.map (·.block)).toList) hg3 (fun g hg => .inl (by rw [hg]; simp))) (fun g hg => .inr (hown2.blk g (by simpa using hg)).1)
          case measure => simp [intOf]; omega
        · have hkk7 : (x.kind == 7) = false := by simpa using hk7
          have hst1 : stAt l (k + 1) = stAt l k := by rw [HS1.out]; unfold stk; rw [if_neg hk7, if_neg hk0]
          have hwk : R = wellF (stAt l (k + 1)).length (l.drop (k + 1)) := by rw [HS.out, if_neg (by omega), if_neg (fun h => hk0 h.1)]
          have HST1 := hide hst1
          have HWK := hide hwk
          clear hk0 hk7 hst1 hwk
          go_wp2_with (go_at_call 208; (with_reducible refine HP.out.mono ?_); rintro e w2 ⟨rfl, F', g1, g2, g3, hz2, hx2, hT2, hO2⟩)
          have hown2 := hO2 _ _ _ _ (by rw [← HW.out]; exact hownA)
          go_roundw
          case rel => exact ⟨k + 1, b, d, n, F', by go_num, by omega, rfl, by rw [HST1.out]; exact hn, by omega, rfl, HWK, g1, by rw [HST1.out]; exact hown2,
            hide (fun g hg hm => (g3 g hm).elim (hdis.out g hg) (fun hle => by have := (hownA.blk g hg).2; rw [HW.out] at this; omega)), hide (fun g hg => (g3 g hg).elim (fun h => hF.out g h) (fun h => .inr (by simp at h; omega))), hT2⟩
          case measure => simp [intOf]; omega
    · have ek : k = l.length := by omega
      subst ek
      by_cases hn0 : n = 0
      · have e : R = true := by rw [hRk.out, ← hn.out, hn0]; simp [wellF]
        have E := hide e
        have hnn : ((n : Int) == 0) = true := by simpa using hn0
        clear e hn0
        go_wp2
        try rw [Exit.noGoto_ret]
        go_ret
        exact ⟨by rw [E.out]; rfl, hT, fun _ => ⟨F, hJ.out, hF.out⟩⟩
      · have e : R = false := by rw [hRk.out, ← hn.out]; simp [wellF]; exact hn0
        have E := hide e
        have hnn : ((n : Int) == 0) = false := by simpa using hn0
        clear e hn0
        go_wp2
        try rw [Exit.noGoto_ret]
        go_ret
        exact ⟨by rw [E.out]; rfl, hT, fun h => by rw [E.out] at h; cases h⟩
end Go.Proofs.YtcamcnahkdiefaaGreat

/- A law for a range over a function whose iterator keeps state of its own in cells: what the loop's body keeps hangs on a list of blocks, and the iterator leaves these alone. -/
namespace Go.Proofs.YtcamcnahkdiefaaGreat
set_option linter.unusedVariables false
set_option linter.unusedSimpArgs false
open Go.RowKit Go.Shelf

structure Foot {α : Type} (J : List α → List Nat → World → Prop) : Prop where
  keep : ∀ pre G W W', J pre G W → W.heap.size ≤ W'.heap.size → (∀ b ∈ G, W'.heap[b]? = W.heap[b]?) → J pre G W'
  lt : ∀ pre G W, J pre G W → ∀ b ∈ G, b < W.heap.size

def SeqAll {α : Type} (F : Fence) (n : Nat) (P : Program) (g : Nat) (lb : Array Value) (encs : α → Array Value) (xs : List α) (far : Nat → Prop) (w : World) : Prop :=
  ∀ (l : Nat) (J : List α → List Nat → World → Prop) (F0 : List Nat) (W : World), Below w.heap.size w W → Foot J → (∀ b ∈ F0, far b) →
    (∀ pre x G W1, J pre G W1 → Turned F0 W W1 → (∃ t, xs = pre ++ x :: t) → YieldAt F (n - 1) P l (encs x) W1 fun e W' => e = .returned (.bool true) ∧ ∃ G', J (pre ++ [x]) G' W' ∧ Turned G W1 W' ∧ ∀ b ∈ G', b ∈ G ∨ W1.heap.size ≤ b) →
    J [] F0 W →
    CallsIn F n P g (#[.func (.yield l) #[] #[]] ++ lb) W fun e W' => (∃ v, e = .returned v) ∧ ∃ G', J xs G' W' ∧ Turned F0 W W' ∧ ∀ b ∈ G', b ∈ F0 ∨ W.heap.size ≤ b

def allPost {α : Type} (I : List α → List Nat → World → Prop) (xs : List α) (G : List Nat) (W : World) : Exit → Act → World → Prop
  | .normal, _, W' => ∃ G', I xs G' W' ∧ Turned G W W' ∧ ∀ b ∈ G', b ∈ G ∨ W.heap.size ≤ b
  | _, _, _ => False

theorem turned_putObj (W : World) (l : Nat) (o : Obj) : Turned [l] W (W.putObj l o) := Turned.ofGrown (grownBy_putObj' W l o) (fun k hk => .inl (by injection hk with hk; simp [hk]))

variable {F : Fence} {n : Nat} {P : Program}

theorem wpIn_rangeFunc_all {α : Type} {g : Operand} {ps : Array Tmp} {assign body : Code} {Q : Exit → Act → World → Prop} {a : Act} {w : World}
    (hro : F.round = none) (h1 : 1 ≤ n) {gf : Nat} {lb : Array Value} (hg : a.eval g = .func (.func gf) #[] lb) (hFg : F.fn gf) (eg : ∀ args w, (callFunc gf args).run P w = .ok (.enter gf args) w)
    {encs : α → Array Value} {xs : List α} {w0 : World} {far : Nat → Prop} (hseq : SeqAll F (n - 1) P gf lb encs xs far w0) (hfar : ∀ b, w0.heap.size ≤ b → far b) (hb0 : Below w0.heap.size w0 w) (hps : ∀ x, (encs x).size = ps.size)
    (I : List α → List Nat → World → Prop) (hI : Foot I) (F0 : List Nat) (hF0 : ∀ b ∈ F0, far b) (h0 : I [] F0 w) (Ax : α → Act → World → Prop)
    (hAx : ∀ x a' W W', Ax x a' W → W.heap.size ≤ W'.heap.size → (∀ k, k ≠ w.heap.size + 1 → W'.heap[k]? = W.heap[k]?) → Ax x a' W')
    (hassign : ∀ (l : Nat) (pre : List α) (x : α) (G : List Nat) (W : World) (K : Act → World → Prop), I pre G W → (∃ t, xs = pre ++ x :: t) → w.heap.size + 1 < W.heap.size → (∀ b ∈ G, b ∈ F0 ∨ w.heap.size ≤ b) → (∀ a' W', Ax x a' W' → Below W.heap.size W W' → K a' W') →
      assign.wpIn (F.inRound l) (n - 1 - 1) P (Exit.then K (fun _ _ _ => False)) { tmps := (ps.zip (encs x)).foldl (fun t (p, v) => t.setIfInBounds p v) a.tmps, defers := [] } W)
    (hbody : ∀ (l : Nat) (pre : List α) (x : α) (G : List Nat) (W : World) (a' : Act), I pre G W → Ax x a' W → (∃ t, xs = pre ++ x :: t) → w.heap.size + 1 < W.heap.size → (∀ b ∈ G, b ∈ F0 ∨ w.heap.size ≤ b) → body.wpIn (F.inRound l) (n - 1 - 1) P (allPost I (pre ++ [x]) G W) a' W)
    (hdone : ∀ (G : List Nat) (W : World), I xs G W → Turned F0 w W → W.heap[w.heap.size]? = some (.deferred (some [])) → w.heap.size + 1 < W.heap.size → w.heap.size ∉ G → Q .normal { a with defers := { target := .collected w.heap.size, args := #[] } :: a.defers } W) :
    (Code.rangeFunc g ps assign body).wpIn F n P Q a w := by
  refine wpIn_rangeFunc ?_
  intro fn hfn
  rw [hro]
  obtain ⟨rec, hrec⟩ : ∃ rec : LoopState → Option Code → Loop, rec = fun st pe => { state := st, pending := pe, fn, tmps := a.tmps, params := ps, assign, body, defers := w.heap.size } := ⟨_, rfl⟩
  obtain ⟨W1, hW1⟩ : ∃ W1, (w.alloc (.deferred (some []))).alloc (.loop (rec .ready none)) = W1 := ⟨_, rfl⟩
  have hL1 : W1.heap[w.heap.size + 1]? = some (.loop (rec .ready none)) := by
    rw [← hW1]; have := World.alloc_heap_new (w.alloc (.deferred (some []))) (.loop (rec .ready none)); rwa [World.size_alloc] at this
  have hK1 : W1.heap[w.heap.size]? = some (.deferred (some [])) := by
    rw [← hW1]; exact (Below.heap_alloc _ _ _ (by simp)).trans (World.alloc_heap_new w _)
  have hbw : Below w.heap.size w W1 := by rw [← hW1]; exact ((Below.refl _ w).alloc (Nat.le_refl _) _).alloc (by simp) _
  have hs1 : W1.heap.size = w.heap.size + 2 := by rw [← hW1]; simp
  have hlt0 := hI.lt _ _ _ h0
  have hI1 : I [] F0 W1 := hI.keep _ _ _ _ h0 hbw.size (fun b hb => hbw.block b (hlt0 b hb))
  have hb1 : Below w0.heap.size w0 W1 := hb0.trans (hbw.mono hb0.size)
  have hw0 := hb0.size
  refine ⟨w.heap.size + 1, [{ target := .collected w.heap.size, args := #[] }], W1, { target := .fn (.func gf) lb, args := #[.func (.yield (w.heap.size + 1)) #[] #[]] }, W1, gf,
    #[.func (.yield (w.heap.size + 1)) #[] #[]] ++ lb, W1, ?_, ?_, ?_, ?_, fun _ => h1, ?_⟩
  · rw [← hW1, hrec]; exact run_enterLoop_outer _ _ _ _ _
  · simp only [resolve, hg]
    simp [go_sem]
  · intro f' hf'; simp [Target.leads] at hf'; subst hf'; exact hFg
  · simp [invoke, go_sem, eg]
  · refine (hseq (w.heap.size + 1)
      (fun pre G W => ∃ G0, G = w.heap.size :: (w.heap.size + 1) :: G0 ∧ I pre G0 W ∧ W.heap[w.heap.size + 1]? = some (.loop (rec .ready none)) ∧ W.heap[w.heap.size]? = some (.deferred (some [])) ∧ (∀ b ∈ G0, b ≠ w.heap.size ∧ b ≠ w.heap.size + 1) ∧ (∀ b ∈ G0, b ∈ F0 ∨ w.heap.size ≤ b))
      (w.heap.size :: (w.heap.size + 1) :: F0) W1 hb1 ⟨?_, ?_⟩ ?_ ?_ ?_).mono ?_
    · rintro pre G W W' ⟨G0, rfl, k1, k2, k3, k4, k5⟩ hsz hk
      exact ⟨G0, rfl, hI.keep _ _ _ _ k1 hsz (fun b hb => hk b (by simp [hb])), (hk _ (by simp)).trans k2, (hk _ (by simp)).trans k3, k4, k5⟩
    · rintro pre G W ⟨G0, rfl, k1, k2, k3, k4, k5⟩ b hb
      simp only [List.mem_cons] at hb
      rcases hb with rfl | rfl | hb
      · exact (Array.getElem?_eq_some_iff.1 k3).1
      · exact (Array.getElem?_eq_some_iff.1 k2).1
      · exact hI.lt _ _ _ k1 b hb
    · intro b hb
      simp only [List.mem_cons] at hb
      rcases hb with rfl | rfl | hb
      · exact hfar _ hw0
      · exact hfar _ (by omega)
      · exact hF0 b hb
    · rintro pre x G W ⟨G0, rfl, hi, hl, hk, hne, hin⟩ hT hx
      have hlt : w.heap.size + 1 < W.heap.size := (Array.getElem?_eq_some_iff.1 hl).1
      have hy := run_yield (P := P) (args := encs x) hl (by rw [hrec]; exact hps x)
      rw [hrec] at hy
      refine ⟨fn, _, assign, body, hy, roundIn_of_wpIn hfn (hassign _ pre x G0 W _ hi hx hlt hin fun a' W0 hax hbl => ⟨_, run_beginRound ((hbl.block _ hlt).trans hl) (by rw [hrec]), ?_⟩)⟩
      have hz0 := hbl.size
      have hl0 := (hbl.block _ hlt).trans hl
      have hk0 : W0.heap[w.heap.size]? = some (.deferred (some [])) := (hbl.block _ (by omega)).trans hk
      have hi0 : I pre G0 W0 := hI.keep _ _ _ _ hi hz0 (fun b hb => hbl.block b (hI.lt _ _ _ hi b hb))
      obtain ⟨W2, hW2⟩ : ∃ W2, W2 = W0.putObj (w.heap.size + 1) (.loop { rec .ready none with state := .busy }) := ⟨_, rfl⟩
      have hl2 : W2.heap[w.heap.size + 1]? = some (.loop { rec .ready none with state := .busy }) := by rw [hW2]; exact World.putObj_heap_same (by omega)
      have hk2 : W2.heap[w.heap.size]? = some (.deferred (some [])) := by rw [hW2]; exact (World.putObj_heap_other (by omega)).trans hk0
      have hT2 : Turned [w.heap.size + 1] W0 W2 := by rw [hW2]; exact turned_putObj _ _ _
      have hs2 : W2.heap.size = W0.heap.size := by rw [hW2]; simp
      have hi2 : I pre G0 W2 := hI.keep _ _ _ _ hi0 hT2.size (fun b hb => hT2.block b (hI.lt _ _ _ hi0 b hb) (by simp; exact (hne b hb).2))
      have hax2 : Ax x a' W2 := hAx _ _ _ _ hax (by omega) (fun k hk => by rw [hW2]; exact World.putObj_heap_other hk)
      have hT0 : Turned (w.heap.size :: (w.heap.size + 1) :: G0) W W2 := (Turned.mono (F' := w.heap.size :: (w.heap.size + 1) :: G0) (Turned.ofBelow (F := []) hbl) (fun b hb => by cases hb)).trans (Turned.mono (F' := w.heap.size :: (w.heap.size + 1) :: G0) hT2 (fun b hb => .inl (by simp at hb; simp [hb]))) (fun b hb => .inl hb)
      rw [← hW2]
      refine wpIn_mono (hbody _ pre x G0 W2 a' hi2 hax2 hx (by omega) hin) ?_
      rintro e a3 W3 hp
      cases e with
      | normal =>
        obtain ⟨G', hi3, hT3, hG3⟩ := hp
        have hl3 : W3.heap[w.heap.size + 1]? = some (.loop { rec .ready none with state := .busy }) := (hT3.block _ (by omega) (fun hm => (hne _ hm).2 rfl)).trans hl2
        have hk3 : W3.heap[w.heap.size]? = some (.deferred (some [])) := (hT3.block _ (by omega) (fun hm => (hne _ hm).1 rfl)).trans hk2
        have hne' : ∀ b ∈ G', b ≠ w.heap.size ∧ b ≠ w.heap.size + 1 := fun b hb => (hG3 b hb).elim (fun h => hne b h) (fun h => by omega)
        have hlt3 : w.heap.size + 1 < W3.heap.size := (Array.getElem?_eq_some_iff.1 hl3).1
        have hr := run_endRound (P := P) none hl3
        refine ⟨_, _, hr, rfl, w.heap.size :: (w.heap.size + 1) :: G', ⟨G', rfl, ?_, ?_, ?_, hne', ?_⟩, ?_, ?_⟩
        · exact hI.keep _ _ _ _ hi3 (by simp) (fun b hb => World.putObj_heap_other (hne' b hb).2)
        · rw [World.putObj_heap_same hlt3, hrec]; rfl
        · exact (World.putObj_heap_other (by omega)).trans hk3
        · exact fun b hb => (hG3 b hb).elim (hin b) (fun h => .inr (by omega))
        · exact (hT0.trans hT3 (fun b hb => .inl (by simp [hb]))).trans (turned_putObj _ _ _) (fun b hb => .inl (by simp at hb; simp [hb]))
        · intro b hb
          simp only [List.mem_cons] at hb ⊢
          rcases hb with rfl | rfl | hb
          · exact .inl (.inl rfl)
          · exact .inl (.inr (.inl rfl))
          · exact (hG3 b hb).imp (fun h => .inr (.inr h)) (fun h => by omega)
      | ret => exact hp.elim
      | exit id => exact hp.elim
      | goto t => exact hp.elim
      | panic ch => exact hp.elim
      | outgrown => exact hp.elim
    · exact ⟨F0, rfl, hI1, hL1, hK1, fun b hb => by have := hlt0 b hb; omega, fun b hb => .inl hb⟩
    · rintro e W2 ⟨⟨v, rfl⟩, G, ⟨G0, rfl, hi, hl, hk, hne, hin⟩, hT, hG⟩
      have hlt : w.heap.size + 1 < W2.heap.size := (Array.getElem?_eq_some_iff.1 hl).1
      refine ⟨none, _, by have := run_endLoop (P := P) hl (by rw [hrec]; simp); rw [hrec] at this; exact this, hdone G0 _ (hI.keep _ _ _ _ hi (by simp) (fun b hb => World.putObj_heap_other (hne b hb).2)) ?_ ((World.putObj_heap_other (by omega)).trans hk) (by simpa using hlt) (fun hm => (hne _ hm).1 rfl)⟩
      exact ((Turned.mono (F' := F0) (Turned.ofBelow (F := []) hbw) (fun b hb => by cases hb)).trans hT (fun b hb => by simp only [List.mem_cons] at hb; rcases hb with rfl | rfl | hb; exact .inr (Nat.le_refl _); exact .inr (by omega); exact .inl hb)).trans (turned_putObj _ _ _) (fun b hb => by simp at hb; exact .inr (by omega))
end Go.Proofs.YtcamcnahkdiefaaGreat

/- append of one element, within a fence. -/
namespace Go.Proofs.YtcamcnahkdiefaaGreat
set_option linter.unusedVariables false
set_option linter.unusedSimpArgs false
open Go.RowKit
section
variable {P : Program} {ops : Array Oper} {rest : List Oper} {o : Oper} {act : Act} {Q : Exit → Act → World → Prop} {α : Type} [Flat α]
theorem wpListIn_push {F : Fence} {m : Nat} {w : World} {T E : TypeId} (ty : Ty P T E α) {B : Nat} {a : Option Addr} {c : Nat} {l : List α} (own : Own w B E a c l) (y : α) {s x : Operand} {cs : Array Value} (hgd : o.guard = none)
    (ho : o.op = .call { callee := .builtin .append, args := #[s, x], argTypes := #[T, T] }) (hcs : cs.toList = Flat.enc y)
    {n k : Nat} (hs : act.eval s = .slice a n c) (hx : act.eval x = .slice (some ⟨k, 0, none⟩) 1 1) (hk : k = w.heap.size) (hn : n = l.length) (hB : B ≤ w.heap.size) (hl : n ≤ 1000000000)
    (h : ∀ a' c' w', Own w' B E a' c' (l ++ [y]) → w.grownBy w' (a.map (·.block)) → (a'.map (·.block) = a.map (·.block) ∨ ∃ g, a'.map (·.block) = some g ∧ w.heap.size ≤ g) → wpListIn F m P ops Q rest (act.put o.dst (.slice a' (n + 1) c')) w') :
    wpListIn F m P ops Q (o :: rest) act (w.alloc (.cells cs E)) := by
  subst hn hk
  obtain ⟨i, z, hi, hz, hsz, hby, hzs⟩ := ty.info
  refine wpListIn_plain hgd fun K hK => ?_
  have own1 : (w.alloc (.cells cs E)).ownsRow B E (Flat.n α) (.slice a l.length c) l.length (l.flatMap Flat.enc) := World.ownsRow.alloc own _
  have hn : cs.toList.length = 1 * Flat.n α := by rw [hcs, Flat.len, Nat.one_mul]
  have hnews : ∀ j u, cs.toList[j]? = some u → (w.alloc (.cells cs E)).cell? ((⟨w.heap.size, 0, none⟩ : Addr).add j) = some u := by
    intro j u hu
    rw [addr_add, cell_of_row _ w.heap.size (0 + j) cs E (0, 0) (heap_alloc_new w _)]
    simpa using hu
  obtain ⟨v', w', hr, h2, h3, _, h5⟩ := run_append_own_at (P := P) (w.alloc (.cells cs E)) B T o.type E i z (Flat.n α) i.bytes ty.und hi hz hsz rfl hzs Flat.pos _ _ _ own1 ⟨w.heap.size, 0, none⟩ 1 1 cs.toList hn hnews
    (by rw [hcs]; exact Flat.one y) (by simp only [maxLen]; omega) (Nat.le_trans (Nat.mul_le_mul (show l.length + 1 ≤ 1000000001 by omega) hby) (by decide)) (by simp; omega)
  have hblk : w.grownBy w' (a.map (·.block)) := by
    have e : Value.ownBlock (.slice a l.length c) = a.map (·.block) := by cases a <;> rfl
    rw [e] at h3
    exact ⟨h3.os, h3.tape, h3.output, Nat.le_trans (by simp) h3.size, fun k hk hne => (h3.block k (by simp; omega) hne).trans (Below.heap_alloc w _ k hk)⟩
  have hform : ∃ a' c', v' = .slice a' (l.length + 1) c' := by
    rcases h2.2 with ⟨rfl, h0⟩ | ⟨g, cap, cur, rfl, _⟩
    · omega
    · exact ⟨_, _, rfl⟩
  obtain ⟨a', c', rfl⟩ := hform
  have hgoal : Own w' B E a' c' (l ++ [y]) := ?own
  have hgoal2 : a'.map (·.block) = a.map (·.block) ∨ ∃ g, a'.map (·.block) = some g ∧ w.heap.size ≤ g := ?two
  unfold Oper.wpIn
  refine ⟨?_, ?_⟩
  · simp [Oper.about, ho, resolve, Target.leads, Sem.run_pure]
  · rw [Oper.semAt_plain F _ _ (by rw [ho]; intro c hc'; cases hc')]
    unfold execOp
    simp only [ho, resolve, invoke, builtin, Sem.run_bind, Sem.run_pure, Result.andThen_ok, List.map_toArray, List.map_cons, List.map_nil, hs, hx, hr]
    exact hK _ _ (h a' c' w' hgoal hblk hgoal2)
  case own =>
    unfold Own
    rw [List.flatMap_append, List.length_append]
    simpa [← hcs] using h2
  case two =>
    have e : Value.ownBlock (.slice a l.length c) = a.map (·.block) := by cases a <;> rfl
    have e' : Value.ownBlock (.slice a' (l.length + 1) c') = a'.map (·.block) := by cases a' <;> rfl
    rcases h5 with h5 | h5
    · left; rw [← e, ← e', h5]
    · right; exact ⟨_, by rw [← e', h5], by simp⟩
end
end Go.Proofs.YtcamcnahkdiefaaGreat

/- Chapter 8: what the walk's callees do; what belongs together, how deep it is, what stands around. -/
namespace Go.Proofs.YtcamcnahkdiefaaGreat
set_option linter.unusedVariables false
set_option linter.unusedSimpArgs false
open Go.RowKit

theorem Own.far {α : Type} [Flat α] {w : World} {B : Nat} {E : TypeId} {a : Option Addr} {c : Nat} {l : List α} (h : Own w B E a c l) {p : Addr} (hp : a.map (·.block) ≠ some p.block) (u : Value) : Own (w.setCell p u) B E a c l :=
  h.keep fun k hk _ => Below.heap_setCell w p u k (fun e => hp (by rw [hk, e]))
theorem Turned.drew {F : List Nat} {w w' : World} (h : Turned F w w') : Turned F w w'.drew := ⟨h.os, h.tape, h.output, h.size, h.block⟩
theorem Turned.drewN {F : List Nat} {w w' : World} (h : Turned F w w') (n : Nat) : Turned F w (w'.drewN n) := ⟨h.os, h.tape, h.output, h.size, h.block⟩
theorem Own.blk_ne {α : Type} [Flat α] {w : World} {B : Nat} {E T : TypeId} {a : Option Addr} {c : Nat} {l : List α} {g : Nat} {cs : Array Value} (h : Own w B E a c l) (hb : Blk w g T cs) (hne : E ≠ T) : a.map (·.block) ≠ some g := by
  rcases h.2 with ⟨hv, h0⟩ | ⟨g', cap, cur, hv, _, hg, _⟩
  · injection hv with h1; rw [h1]; simp
  · injection hv with h1
    rw [h1]
    intro e
    simp at e
    subst e
    unfold Blk at hb
    rw [hg] at hb
    injection hb with hb
    injection hb with _ hb
    exact hne hb
def outAt (l : List OpD) (k : Nat) : List Int := mF 0 [] (List.replicate l.length 0) (l.take k)
theorem outAt_succ (l : List OpD) (k : Nat) (x : OpD) (h : l[k]? = some x) : outAt l (k + 1) = mstep (stAt l k) (outAt l k) k x := by
  have hk : k < l.length := (List.getElem?_eq_some_iff.1 h).1
  unfold outAt stAt
  rw [List.take_add_one, h, mF_append]
  simp [mF]
  rw [Nat.min_eq_left (by omega)]
theorem outAt_length (l : List OpD) (k : Nat) : (outAt l k).length = l.length := by unfold outAt; rw [mF_length]; simp
theorem stF_lt (l : List OpD) : ∀ (i : Nat) (st : List Int), (∀ z ∈ st, 0 ≤ z ∧ z < i) → ∀ z ∈ stF i st l, 0 ≤ z ∧ z < i + l.length := by
  induction l with
  | nil => intro i st h z hz; have := h z hz; exact ⟨this.1, by simpa using this.2⟩
  | cons x r ih =>
    intro i st h z hz
    have := ih (i + 1) (stk st i x) (fun y hy => by
      unfold stk at hy
      split at hy
      · rcases List.mem_append.1 hy with hy | hy
        · have := h y hy; omega
        · simp at hy; omega
      · split at hy
        · have := h y (List.dropLast_subset _ hy); omega
        · have := h y hy; omega) z hz
    simp only [List.length_cons]
    omega
theorem stAt_lt (l : List OpD) (k : Nat) (hk : k ≤ l.length) : ∀ z ∈ stAt l k, 0 ≤ z ∧ z < k := by
  intro z hz
  have := stF_lt (l.take k) 0 [] (fun z hz => by simp at hz) z hz
  simp at this
  omega

def MPost (w : World) (B bp go co : Nat) (ap : Option Addr) (out st : List Int) (w' : World) : Prop :=
  ∃ ap' cp' n', n' = st.length ∧ Own w' B 3 (some ⟨go, 0, none⟩) co out ∧ Blk w' bp 90 #[.slice ap' n' cp'] ∧ Own w' B 3 ap' cp' st ∧ Turned (go :: bp :: (ap.map (·.block)).toList) w w' ∧ (ap'.map (·.block) = ap.map (·.block) ∨ ∃ g, ap'.map (·.block) = some g ∧ w.heap.size ≤ g)

section
variable {w : World} {B bo bl bp go co cp N n c : Nat} {a ap : Option Addr} {l : List OpD} {out st : List Int}

set_option maxHeartbeats 1600000 in
theorem MatchClo_calls (k : Nat) (x : OpD) (b2 : Option Addr) (n2 d2 : Nat) (hx : l[k]? = some x) (hk0 : x.kind = 0 → st ≠ []) (hst : ∀ z ∈ st, 0 ≤ z ∧ z < k) (hN : N = l.length) (hout : out.length = l.length) (hl : l.length ≤ 1000000) (hnst : n = st.length) (hn : n ≤ 1000000)
    (hbo : Blk w bo 90 #[.slice (some ⟨go, 0, none⟩) N co]) (hbl : Blk w bl 22 #[.slice a N c]) (hbp : Blk w bp 90 #[.slice ap n cp]) (hat : At w a l) (hown : Own w B 3 (some ⟨go, 0, none⟩) co out) (hop : Own w B 3 ap cp st)
    (e1 : bo ≠ bp) (e2 : ap.map (·.block) ≠ some go) (e3 : a.map (·.block) ≠ some go) (e4 : a.map (·.block) ≠ some bp) :
    Calls Tryz.prog 139 #[.int .i64 k, .slice b2 n2 d2, .pointer (some ⟨bo, 0, none⟩), .pointer (some ⟨bl, 0, none⟩), .pointer (some ⟨bp, 0, none⟩)] w fun e w' => e = .returned (.tuple #[]) ∧
      MPost w B bp go co ap (mstep st out k x) (stk st k x) w' := by
  have hkl : k < l.length := (List.getElem?_eq_some_iff.1 hx).1
  have f1 : go ≠ bo := by have := hown.blk_ne hbo (by decide); simpa using this
  have f2 : go ≠ bl := by have := hown.blk_ne hbl (by decide); simpa using this
  have f3 : go ≠ bp := by have := hown.blk_ne hbp (by decide); simpa using this
  have f4 : bl ≠ bp := by rintro rfl; unfold Blk at hbl hbp; rw [hbl] at hbp; injection hbp with hbp; injection hbp with _ hbp; cases hbp
  have f5 : ap.map (·.block) ≠ some bp := hop.blk_ne hbp (by decide)
  have f6 : ap.map (·.block) ≠ some bo := hop.blk_ne hbo (by decide)
  obtain ⟨b1, off1, y, rfl, hy, x0, x1, x2, x3, x4⟩ := hat.getOp (Below.refl _ _) hkl
  obtain rfl : x = y := by have := hx.symm.trans hy.out; simpa using this
  have g1 : b1 ≠ go := by simpa using e3
  have g2 : b1 ≠ bp := by simpa using e4
  obtain ⟨p0, p1⟩ := hbo.c1
  obtain ⟨q0, q1⟩ := hbl.c1
  obtain ⟨r0, r1⟩ := hbp.c1
  obtain ⟨z, u, hz1, hz2, hz3⟩ := hown.cell1 (i := k) (by omega) rfl
  have hfz := hown.frozen k
  have s1 := f1.symm
  have s2 := f2.symm
  have s3 := f3.symm
  have s4 := f4.symm
  have s5 := e1.symm
  have hNk : k < N := by omega
  have hNl : N ≤ 1000000 := by omega
  have HN := hide hN
  have HNS := hide hnst
  have HO := hide hout
  have HST := hide hst
  clear hx hy hN hout hst hz1 hz2 hnst
  by_cases hk7 : x.kind = 7
  · have hm : mstep st out k x = out.set k (-1) := by unfold mstep; rw [if_neg (by omega)]
    have hs : stk st k x = st ++ [(k : Int)] := by unfold stk; rw [if_pos hk7]
    rw [hm, hs]
    have hkk7 : (x.kind == 7) = true := by simpa using hk7
    have hop1 := hop.far (p := ⟨go, k, none⟩) e2 (.int .i64 (-1))
    have hB1 : B ≤ (w.setCell ⟨go, k, none⟩ (.int .i64 (-1))).heap.size := by have := (hown.blk go rfl); simp; omega
    clear hm hs hk7 hk0
    go_enter Tryz.func139, Tryz.ntmps139
    go_wp2_with (at_builtin; refine wpList_push tyI hop1 (k : Int) rfl rfl rfl rfl rfl (by simp) HNS.out hB1 (by omega) ?_; intro a3 c3 w3 hown3 hg3 hm3; have hbp3 := (hbp.far (p := ⟨go, k, none⟩) s3 (.int .i64 (-1))).grown hg3 (fun e => f5 e.symm); obtain ⟨t0, t1⟩ := hbp3.c1)
    go_end0
    have hg4 : go ∉ (ap.map (·.block)).toList := by intro hm; exact e2 (by simpa using hm)
    have hown4 := (hown.set1 k (-1) (.int .i64 (-1)) rfl).grown hg3 (.inr (fun e => e2 e.symm))
    have hT : Turned (go :: bp :: (ap.map (·.block)).toList) w w3 := by
      refine Turned.trans (F' := (ap.map (·.block)).toList) (Turned.ofGrown (grown_setCell w go k (.int .i64 (-1))) (fun g hg => ?_)) (Turned.ofGrown hg3 (fun g hg => .inl (by rw [hg]; simp))) (fun g hg => .inl ?_)
      · injection hg with hg
        simp [hg]
      · exact List.mem_cons_of_mem _ (List.mem_cons_of_mem _ hg)
    refine ⟨rfl, ?_⟩
    unfold MPost
    refine ⟨a3, c3, n + 1, by simp [HNS.out], hown4.far (by simpa using f3) _, by simpa using hbp3.set_ 0 (.slice a3 (n + 1) c3), hown3.far ?_ _, ?_, ?_⟩
    · rcases hm3 with e | ⟨g, e, hle⟩
      · rw [e]; exact f5
      · rw [e]; have := hbp.lt; simp at hle ⊢; omega
    · exact hT.trans (F' := [bp]) (Turned.ofGrown (grown_setCell _ _ _ _) (fun g hg => .inl (by injection hg with hg; simp [hg]))) (fun g hg => .inl (by simp at hg; simp [hg]))
    · rcases hm3 with e | ⟨g, e, hle⟩
      · exact .inl e
      · exact .inr ⟨g, e, by simpa using hle⟩
  · by_cases hk : x.kind = 0
    · have hne := hk0 hk
      obtain ⟨gp, rfl, hgp1, hgp2⟩ := hop.some_ hne
      have hlast := List.getLast?_eq_some_getLast hne
      obtain ⟨j, hj⟩ : ∃ j : Nat, st.getLast hne = (j : Int) := ⟨(st.getLast hne).toNat, by have := HST.out _ (List.getLast_mem hne); omega⟩
      have hjk : j < k := by have := HST.out _ (List.getLast_mem hne); omega
      rw [hj] at hlast
      have hm : mstep st out k x = ((out.set k (-1)).set k (j : Int)).set j (k : Int) := by unfold mstep; rw [if_pos hk, hlast]; simp
      have hs : stk st k x = st.dropLast := by unfold stk; rw [if_neg hk7, if_pos hk]
      rw [hm, hs]
      have hpos : 0 < n := by have := HNS.out; have := List.length_pos_iff.2 hne; omega
      have hsl : st[n - 1]? = some (j : Int) := by rw [HNS.out, ← List.getLast?_eq_getElem?]; exact hlast
      obtain ⟨y1, v1, hy1, hy2, hy3⟩ := hop.cell1 (i := n - 1) (by rw [← HNS.out]; omega) rfl
      have hyj : y1 = (j : Int) := by have := hy1.symm.trans hsl; simpa using this
      subst hyj
      have hv1 : v1 = .int .i64 (j : Int) := by simpa [Flat.enc] using hy2.symm
      subst hv1
      obtain ⟨y2, v2, hy4, hy5, hy6⟩ := hown.cell1 (i := j) (by have := HO.out; omega) rfl
      have hfj := hown.frozen j
      have hkk7 : (x.kind == 7) = false := by simpa using hk7
      have hkk0 : (x.kind == 0) = true := by simpa using hk
      have h7 : gp ≠ go := by simpa using e2
      have h8 : gp ≠ bp := by simpa using f5
      have hcp : n ≤ cp := by rw [HNS.out]; exact hop.cap.1
      have hpop := hop.pop hne
      have HM := hide hm
      have hjN : j < N := by omega
      clear hm hs hlast hj hsl hy1 hy2 hy4 hy5 hk hk7 hk0
      go_enter Tryz.func139, Tryz.ntmps139
      go_wp2
      go_region
      all_goals go_wp2
      all_goals go_end0
      all_goals
        refine ⟨rfl, ?_⟩
        unfold MPost
        have hw1 := ((((hown.set1 k (-1) (.int .i64 (-1)) rfl).far (p := ⟨bp, 0, none⟩) (by simpa using f3) (.slice (some ⟨gp, 0, none⟩) (n - 1) cp)).set1 k (j : Int) (.int .i64 (j : Int)) rfl).set1 j (k : Int) (.int .i64 (k : Int)) rfl)
        have hw2 := (((hbp.far (p := ⟨go, k, none⟩) s3 (.int .i64 (-1))).set_ 0 (.slice (some ⟨gp, 0, none⟩) (n - 1) cp)).far (p := ⟨go, k, none⟩) s3 (.int .i64 (j : Int))).far (p := ⟨go, j, none⟩) s3 (.int .i64 (k : Int))
        have hw3 := (((hpop.far (p := ⟨go, k, none⟩) (by simpa using h7) (.int .i64 (-1))).far (p := ⟨bp, 0, none⟩) (by simpa using h8) (.slice (some ⟨gp, 0, none⟩) (n - 1) cp)).far (p := ⟨go, k, none⟩) (by simpa using h7) (.int .i64 (j : Int))).far (p := ⟨go, j, none⟩) (by simpa using h7) (.int .i64 (k : Int))
        have hw4 := hw2
        simp at hw4
        have t1 : ∀ (w : World) (i : Nat) (u : Value), Turned [go] w (w.setCell ⟨go, i, none⟩ u) := fun w i u => Turned.ofGrown (grown_setCell w go i u) (fun g hg => by injection hg with hg; simp [hg])
        have t2 : ∀ (w : World) (i : Nat) (u : Value), Turned [bp] w (w.setCell ⟨bp, i, none⟩ u) := fun w i u => Turned.ofGrown (grown_setCell w bp i u) (fun g hg => by injection hg with hg; simp [hg])
        refine ⟨some ⟨gp, 0, none⟩, cp, n - 1, by rw [HNS.out]; simp, hw1, hw4, hw3, ?_, .inl rfl⟩
        have hh : Turned (go :: bp :: ((some gp : Option Nat)).toList) w w := Turned.refl _ _
        refine Turned.drew (Turned.mono (F := go :: bp :: (some gp).toList) ?_ (fun g hg => .inl hg))
        exact (((hh.trans (t1 _ _ _) (fun g hg => .inl (by simp at hg; simp [hg]))).trans (t2 _ _ _) (fun g hg => .inl (by simp at hg; simp [hg]))).trans (t1 _ _ _) (fun g hg => .inl (by simp at hg; simp [hg]))).trans (t1 _ _ _) (fun g hg => .inl (by simp at hg; simp [hg]))
    · have hm : mstep st out k x = out.set k (-1) := by unfold mstep; rw [if_neg hk]
      have hs : stk st k x = st := by unfold stk; rw [if_neg hk7, if_neg hk]
      rw [hm, hs]
      have hkk7 : (x.kind == 7) = false := by simpa using hk7
      have hkk0 : (x.kind == 0) = false := by simpa using hk
      clear hm hs hk7 hk hk0
      go_enter Tryz.func139, Tryz.ntmps139
      go_wp2
      go_end0
      refine ⟨rfl, ?_⟩
      unfold MPost
      exact ⟨ap, cp, n, HNS.out, hown.set1 k (-1) (.int .i64 (-1)) rfl, hbp.far (p := ⟨go, k, none⟩) s3 _, hop.far (p := ⟨go, k, none⟩) e2 _, Turned.ofGrown (grown_setCell w go k _) (fun g hg => .inl (by injection hg with hg; simp [hg])), .inl rfl⟩
end
end Go.Proofs.YtcamcnahkdiefaaGreat

/- Chapter 8: Match. -/
namespace Go.Proofs.YtcamcnahkdiefaaGreat
set_option linter.unusedVariables false
set_option linter.unusedSimpArgs false
open Go.RowKit

structure TyZ (P : Program) (T E : TypeId) {α : Type} [Flat α] (z0 : α) (v : Value) : Prop where
  und : P.underlying T = some (.slice E)
  info : ∃ i, P.info? E = some i ∧ i.zero = some v ∧ i.size = 1 ∧ i.bytes ≤ 128
  enc : Flat.enc z0 = [v]
  cells : v.cells = #[v]
theorem TyZ.of {P : Program} {T E : TypeId} {α : Type} [Flat α] {z0 : α} {v : Value} {bytes : Nat} (h0 : P.underlying T = some (.slice E)) (h : (P.info? E).map (fun i => (i.zero, i.size, i.bytes)) = some (some v, 1, bytes))
    (h2 : bytes ≤ 128) (h3 : Flat.enc z0 = [v]) (h4 : v.cells = #[v]) : TyZ P T E z0 v := by
  obtain ⟨i, hi, hz0, hz1, hz2⟩ := info_parts h
  exact ⟨h0, ⟨i, hi, hz0, hz1, by omega⟩, h3, h4⟩
theorem tyI0 : TyZ Tryz.prog 90 3 (0 : Int) (.int .i64 0) := TyZ.of (bytes := 8) Tryz.underlying90 (by kernel_rfl) (by decide) rfl rfl

theorem wpList_mk {P : Program} {ops : Array Oper} {rest : List Oper} {o : Oper} {act : Act} {Q : Exit → Act → World → Prop} {w : World} {T E : TypeId} {α : Type} [Flat α] {z0 : α} {v : Value} (ty : TyZ P T E z0 v) {B n : Nat} {x y : Operand} {k1 k2 : IntKind} {n1 n2 : Int}
    (hgd : o.guard = none) (ho : o.op = .makeSlice T x y) (hx : act.eval x = .int k1 n1) (hy : act.eval y = .int k2 n2) (h1 : n1 = (n : Int)) (h2 : n2 = (n : Int)) (hB : B ≤ w.heap.size) (hn : n ≤ 1000000000)
    (h : ∀ w', Own w' B E (some ⟨w.heap.size, 0, none⟩) n (List.replicate n z0) → w.grownBy w' none → wpList P ops Q rest (act.put o.dst (.slice (some ⟨w.heap.size, 0, none⟩) n n)) w') :
    wpList P ops Q (o :: rest) act w := by
  obtain ⟨i, hi, hz, hs, hb⟩ := ty.info
  have hlen : Flat.n α = 1 := by rw [← Flat.len z0, ty.enc]; rfl
  refine wpList_make_full w hgd x y T ho B E i v 1 ty.und hi hz hs k1 k2 n1 n2 n hx hy h1 h2 (Nat.le_trans (Nat.mul_le_mul hb hn) (by decide)) (by simp only [maxLen]; omega) hB fun w' g1 g2 => h w' ?_ g2
  unfold Own
  rw [List.length_replicate, hlen]
  have e : (madeCells v.cells (n * 1)).toList = (List.replicate n z0).flatMap Flat.enc := by
    rw [ty.cells, Nat.mul_one, toList_madeCells_one]
    clear h g1 hx hy h1 h2 hn
    induction n with
    | zero => rfl
    | succ n ih => rw [List.replicate_succ, List.replicate_succ, List.flatMap_cons, ← ih, ty.enc]; rfl
  rw [← e]
  exact g1

def JM (B bo bl bp go co N c : Nat) (a : Option Addr) (l : List OpD) (k : Nat) (F : List Nat) (w : World) : Prop :=
  ∃ ap cp n, F = bo :: bl :: bp :: go :: (ap.map (·.block)).toList ∧ Blk w bo 90 #[.slice (some ⟨go, 0, none⟩) N co] ∧ Blk w bl 22 #[.slice a N c] ∧ Blk w bp 90 #[.slice ap n cp] ∧ n = (stAt l k).length ∧
    Own w B 3 (some ⟨go, 0, none⟩) co (outAt l k) ∧ Own w B 3 ap cp (stAt l k) ∧ ap.map (·.block) ≠ some go

def matchS (l : List OpD) : List Int × Int := if well l = true then (matchL l, 0) else ([], 6)
theorem stAt_length_le (l : List OpD) (k : Nat) : (stAt l k).length ≤ k := by
  have : ∀ (m : List OpD) (i : Nat) (st : List Int), (stF i st m).length ≤ st.length + m.length := by
    intro m
    induction m with
    | nil => intro i st; simp [stF]
    | cons x r ih =>
      intro i st
      have := ih (i + 1) (stk st i x)
      have h2 : (stk st i x).length ≤ st.length + 1 := by unfold stk; split; · simp
                                                          split <;> simp; omega
      simp only [stF, List.length_cons]
      omega
  have := this (l.take k) 0 []
  unfold stAt
  simp at this
  omega

def MatchPost (w : World) (l : List OpD) (e : Ending) (w' : World) : Prop :=
  ∃ a c, e = .returned (.tuple #[.slice a (matchS l).1.length c, .int .i64 (matchS l).2]) ∧ Own w' w.heap.size 3 a c (matchS l).1 ∧ Below w.heap.size w w'

section
variable {B bo bl bp go co N c : Nat} {a : Option Addr} {l : List OpD}
theorem JM.keep {k : Nat} {F : List Nat} {w w' : World} (h : JM B bo bl bp go co N c a l k F w) (hb : ∀ b ∈ F, w'.heap[b]? = w.heap[b]?) : JM B bo bl bp go co N c a l k F w' := by
  obtain ⟨ap, cp, n, rfl, h1, h2, h3, h4, h5, h6, h7⟩ := h
  exact ⟨ap, cp, n, rfl, (hb bo (by simp)).trans h1, (hb bl (by simp)).trans h2, (hb bp (by simp)).trans h3, h4, h5.keep (fun k hk _ => hb k (by injection hk with hk; simp [← hk])), h6.keep (fun k hk _ => hb k (by simp [hk])), h7⟩
theorem JM.lt {k : Nat} {F : List Nat} {w : World} (h : JM B bo bl bp go co N c a l k F w) : ∀ b ∈ F, b < w.heap.size := by
  obtain ⟨ap, cp, n, rfl, h1, h2, h3, h4, h5, h6, h7⟩ := h
  intro b hb
  simp at hb
  rcases hb with rfl | rfl | rfl | rfl | hb
  · exact h1.lt
  · exact h2.lt
  · exact h3.lt
  · exact (h5.blk _ rfl).2
  · exact (h6.blk b (by simpa using hb)).2

theorem JM.call {w' : World} {F : List Nat} {k : Nat} {x : OpD} {b : Option Addr} {n d : Nat} (hx : l[k]? = some x) (h0 : x.kind = 0 → stAt l k ≠ []) (hJ : JM B bo bl bp go co N c a l k F w') (hat : At w' a l) (hN : N = l.length) (hl : l.length ≤ 1000000) (e1 : bo ≠ bp)
    (e3 : a.map (·.block) ≠ some go) (e4 : a.map (·.block) ≠ some bp) :
    Calls Tryz.prog 139 #[.int .i64 k, .slice b n d, .pointer (some ⟨bo, 0, none⟩), .pointer (some ⟨bl, 0, none⟩), .pointer (some ⟨bp, 0, none⟩)] w' fun e w'' => e = .returned (.tuple #[]) ∧ ∃ F', JM B bo bl bp go co N c a l (k + 1) F' w'' ∧ Turned F w' w'' ∧ ∀ b ∈ F', b ∈ F ∨ w'.heap.size ≤ b := by
  have hlt := hJ.lt
  obtain ⟨ap, cp, m, rfl, h1, h2, h3, h4, h5, h6, h7⟩ := hJ
  have hkl : k < l.length := (List.getElem?_eq_some_iff.1 hx).1
  have hm := stAt_length_le l k
  refine (MatchClo_calls k x b n d hx h0 (stAt_lt l k (by omega)) hN (outAt_length l k) hl h4 (by omega) h1 h2 h3 hat h5 h6 e1 h7 e3 e4).mono ?_
  rintro e w2 ⟨rfl, ap', cp', m', g1, g2, g3, g4, g5, g6⟩
  have f1 : go ≠ bo := by have := h5.blk_ne h1 (by decide); simpa using this
  have f2 : go ≠ bl := by have := h5.blk_ne h2 (by decide); simpa using this
  have f4 : bl ≠ bp := by rintro rfl; unfold Blk at h2 h3; rw [h2] at h3; injection h3 with h3; injection h3 with _ h3; cases h3
  have f6 : ap.map (·.block) ≠ some bo := h6.blk_ne h1 (by decide)
  have f7 : ap.map (·.block) ≠ some bl := h6.blk_ne h2 (by decide)
  refine ⟨rfl, _, ⟨ap', cp', m', rfl, ?_, ?_, g3, ?_, ?_, ?_, ?_⟩, ?_, ?_⟩
  · exact (g5.block bo (hlt bo (by simp)) (by simp only [List.mem_cons, not_or, Option.mem_toList]; exact ⟨f1.symm, e1, f6⟩)).trans h1
  · exact (g5.block bl (hlt bl (by simp)) (by simp only [List.mem_cons, not_or, Option.mem_toList]; exact ⟨f2.symm, f4, f7⟩)).trans h2
  · rw [stAt_succ l k x hx]; exact g1
  · rw [outAt_succ l k x hx]; exact g2
  · rw [stAt_succ l k x hx]; exact g4
  · rcases g6 with e | ⟨g, e, hle⟩
    · rw [e]; exact h7
    · rw [e]; have := hlt go (by simp); simp; omega
  · refine g5.mono (fun g hg => .inl ?_)
    simp at hg ⊢
    rcases hg with hg | hg | hg
    · exact .inr (.inr (.inr (.inl hg)))
    · exact .inr (.inr (.inl hg))
    · exact .inr (.inr (.inr (.inr hg)))
  · intro g hg
    simp at hg
    rcases hg with hg | hg | hg | hg | hg
    · exact .inl (by simp [hg])
    · exact .inl (by simp [hg])
    · exact .inl (by simp [hg])
    · exact .inl (by simp [hg])
    · rcases g6 with e | ⟨g', e, hle⟩
      · exact .inl (by rw [show ap'.map (·.block) = some g by simpa using hg] at e; simp [← e])
      · right
        rw [show ap'.map (·.block) = some g by simpa using hg] at e
        injection e with e
        omega
end

set_option maxHeartbeats 1600000 in
theorem Match_calls (a : Option Addr) (c : Nat) (l : List OpD) (w : World) (h : At w a l) (hl : l.length ≤ 1000000) :
    Calls Tryz.prog 96 #[.slice a l.length c] w (MatchPost w l) := by
  have haw : l ≠ [] → ∀ g, a.map (·.block) = some g → g < w.heap.size := by
    intro h0 g hg
    obtain ⟨b, off, rfl, hlt⟩ := h.lt h0
    simp at hg
    omega
  have HAW := hide haw
  obtain ⟨Wl, hWl⟩ : ∃ b, b = well l := ⟨_, rfl⟩
  have HWL := hide hWl
  clear haw hWl
  have hcase : Wl = true ∨ Wl = false := by cases Wl <;> simp
  rcases hcase with rfl | rfl
  · go_enter Tryz.func96, Tryz.ntmps96
    go_wp2_with (first
      | (at_make; refine wpList_mk tyI0 (B := w.heap.size) (n := l.length) rfl rfl rfl rfl rfl rfl (by simp) (by omega) ?_; intro w2 hown2 hg2; have hb2 := (Blk.new w 22 #[.slice a l.length c]).grown hg2 (by simp); obtain ⟨p0, p1⟩ := hb2.c1; have hs2 := hg2.size; simp only [World.size_alloc] at hs2; have hz2 : w.heap.size < w2.heap.size := (by omega); simp only [World.size_alloc] at hown2; have hB2 : Below w.heap.size w w2 := Below.grown (Below.alloc (Below.refl _ _) (Nat.le_refl _) _) hg2 (by simp) (fun k hk => by cases hk))
      | (go_at_call 138; (refine (walkM_calls _ _ _ a c l _ (h.belowN (Below.alloc (Below.alloc (hB2) (by omega) _) (by simp; omega) _)) hl (JM w.heap.size w2.heap.size w.heap.size (w2.heap.size + 1) (w.heap.size + 1) l.length l.length c a l) [w2.heap.size, w.heap.size, w2.heap.size + 1, w.heap.size + 1] (fun k F w w' hJ _ hb => hJ.keep hb) (fun k F w hJ => hJ.lt) ?_ ?_ ?_).mono ?_); rotate_right; rintro e w3 ⟨rfl, hT3, hW3⟩; rw [← HWL.out]; obtain ⟨F', ⟨ap, cp, n, hFF, h1, h2, h3, h4, h5, h6, h7⟩, hF'⟩ := hW3 HWL.out.symm; obtain ⟨q0, q1⟩ := h1.c1; have HFF := hide hFF; have H4 := hide h4; clear hFF h4 hW3))
    · go_ret2
      have hB3 : Below w.heap.size w w3 := hT3.below (Below.alloc (Below.alloc hB2 (by omega) _) (by simp; omega) _) (fun g hg => by simp at hg; omega) (by simp; omega)
      unfold MatchPost
      have e : matchS l = (outAt l l.length, 0) := by unfold matchS; rw [if_pos HWL.out.symm]; simp [matchL, outAt]
      rw [e]
      exact ⟨some ⟨w.heap.size + 1, 0, none⟩, l.length, by rw [outAt_length]; rfl, h5, hB3⟩
    · intro k x F w' b n d hx h0 h7 hk0 hJ hat hn hT
      have hata : At w' a l := (h.belowN (Below.alloc (Below.alloc (hB2) (by omega) _) (by simp; omega) _)).turned hT (fun h0 g hg e => by have := HAW.out h0 g e; simp at hg; omega)
      have hne : ∀ g, w.heap.size ≤ g → l ≠ [] → a.map (·.block) ≠ some g := fun g hg h0 e => by have := HAW.out h0 g e; omega
      have hl0 : l ≠ [] := by intro e; subst e; simp at hx
      exact JM.call hx hk0 hJ hata rfl hl (by omega) (hne _ (by omega) hl0) (hne _ (by omega) hl0)
    · refine ⟨none, 0, 0, rfl, (Blk.new w2 _ _).alloc _, (hb2.alloc _).alloc _, by simpa using Blk.new (w2.alloc _) _ _, rfl, ?_, Own.none _ _ _, by simp⟩
      have : outAt l 0 = List.replicate l.length 0 := by simp [outAt, mF]
      rw [this]
      exact (hown2.alloc _).alloc _
    · intro h0 g hg e
      have := HAW.out h0 g e
      simp at hg
      omega
  · go_enter Tryz.func96, Tryz.ntmps96
    go_wp2_with (first
      | (at_make; refine wpList_mk tyI0 (B := w.heap.size) (n := l.length) rfl rfl rfl rfl rfl rfl (by simp) (by omega) ?_; intro w2 hown2 hg2; have hb2 := (Blk.new w 22 #[.slice a l.length c]).grown hg2 (by simp); obtain ⟨p0, p1⟩ := hb2.c1; have hs2 := hg2.size; simp only [World.size_alloc] at hs2; have hz2 : w.heap.size < w2.heap.size := (by omega); simp only [World.size_alloc] at hown2; have hB2 : Below w.heap.size w w2 := Below.grown (Below.alloc (Below.refl _ _) (Nat.le_refl _) _) hg2 (by simp) (fun k hk => by cases hk))
      | (go_at_call 138; (refine (walkM_calls _ _ _ a c l _ (h.belowN (Below.alloc (Below.alloc (hB2) (by omega) _) (by simp; omega) _)) hl (JM w.heap.size w2.heap.size w.heap.size (w2.heap.size + 1) (w.heap.size + 1) l.length l.length c a l) [w2.heap.size, w.heap.size, w2.heap.size + 1, w.heap.size + 1] (fun k F w w' hJ _ hb => hJ.keep hb) (fun k F w hJ => hJ.lt) ?_ ?_ ?_).mono ?_); rotate_right; rintro e w3 ⟨rfl, hT3, hW3⟩; rw [← HWL.out]; clear hW3))
    · go_ret2
      have hB3 : Below w.heap.size w w3 := hT3.below (Below.alloc (Below.alloc hB2 (by omega) _) (by simp; omega) _) (fun g hg => by simp at hg; omega) (by simp; omega)
      unfold MatchPost
      have e : matchS l = ([], 6) := by unfold matchS; rw [← HWL.out]; rfl
      rw [e]
      exact ⟨none, 0, rfl, Own.none _ _ _, hB3⟩
    · intro k x F w' b n d hx h0 h7 hk0 hJ hat hn hT
      have hata : At w' a l := (h.belowN (Below.alloc (Below.alloc (hB2) (by omega) _) (by simp; omega) _)).turned hT (fun h0 g hg e => by have := HAW.out h0 g e; simp at hg; omega)
      have hne : ∀ g, w.heap.size ≤ g → l ≠ [] → a.map (·.block) ≠ some g := fun g hg h0 e => by have := HAW.out h0 g e; omega
      have hl0 : l ≠ [] := by intro e; subst e; simp at hx
      exact JM.call hx hk0 hJ hata rfl hl (by omega) (hne _ (by omega) hl0) (hne _ (by omega) hl0)
    · refine ⟨none, 0, 0, rfl, (Blk.new w2 _ _).alloc _, (hb2.alloc _).alloc _, by simpa using Blk.new (w2.alloc _) _ _, rfl, ?_, Own.none _ _ _, by simp⟩
      have : outAt l 0 = List.replicate l.length 0 := by simp [outAt, mF]
      rw [this]
      exact (hown2.alloc _).alloc _
    · intro h0 g hg e
      have := HAW.out h0 g e
      simp at hg
      omega
end Go.Proofs.YtcamcnahkdiefaaGreat

/- Chapter 8: Deep, Around, Inside, Parts. -/
namespace Go.Proofs.YtcamcnahkdiefaaGreat
set_option linter.unusedVariables false
set_option linter.unusedSimpArgs false
open Go.RowKit

set_option maxHeartbeats 400000 in
theorem CloneO_calls (a : Option Addr) (n c : Nat) (l : List OpD) (w : World) (hn : n = l.length) (h : At w a l) (hl : n ≤ 1000000000) :
    Calls Tryz.prog 78 #[.slice a n c] w fun e w' => ∃ a' c', e = .returned (.slice a' n c') ∧ Own w' w.heap.size 89 a' c' l ∧ Below w.heap.size w w' := by
  subst hn
  have heq := @Lib.run_eql_slice_nil Tryz.prog
  cases a with
  | none =>
    have h0 : l = [] := by
      cases l with
      | nil => rfl
      | cons x r => obtain ⟨b, off, h, _⟩ := h 0 x rfl; cases h
    subst h0
    go_enter Tryz.func78, Tryz.ntmps78
    go_wp2
    go_ret
    exact ⟨none, 0, rfl, Own.none _ _ _, Below.refl _ _⟩
  | some ad =>
    go_enter Tryz.func78, Tryz.ntmps78
    go_wp2_with (at_builtin; refine wpList_pushAll tyO (Own.new w (Nat.le_refl _) _ OpD) (h.belowN (Below.alloc (Below.refl _ _) (Nat.le_refl _) _)) rfl rfl rfl rfl rfl rfl (by simp) (by omega) (by omega) ?_; intro a3 c3 w3 hown3 hg3 _)
    go_ret
    exact ⟨a3, c3, by simp, by simpa using hown3, (below_push (Below.alloc (Below.refl _ _) (Nat.le_refl _) _) (Own.new w (Nat.le_refl _) _ OpD) hg3 (by simp))⟩

def dpF : Nat → Nat → List OpD → Nat
  | _, m, [] => m
  | n, m, x :: r => if x.kind = 7 then dpF (n + 1) (max m (n + 1)) r else if x.kind = 0 then dpF (n - 1) m r else dpF n m r
def htF : Nat → List OpD → Nat
  | n, [] => n
  | n, x :: r => htF (if x.kind = 7 then n + 1 else if x.kind = 0 then n - 1 else n) r
theorem dpF_append (n m : Nat) (a b : List OpD) : dpF n m (a ++ b) = dpF (htF n a) (dpF n m a) b := by
  induction a generalizing n m with
  | nil => rfl
  | cons x r ih =>
    simp only [List.cons_append, dpF, htF]
    split
    · exact ih _ _
    · split
      · exact ih _ _
      · exact ih _ _
theorem stF_ht (i : Nat) (st : List Int) (l : List OpD) : (stF i st l).length = htF st.length l := by
  induction l generalizing i st with
  | nil => rfl
  | cons x r ih =>
    simp only [stF, htF]
    rw [ih]
    congr 1
    unfold stk
    split
    · simp
    · split <;> simp
def deepAt (l : List OpD) (k : Nat) : Nat := dpF 0 0 (l.take k)
def deepL (l : List OpD) : Nat := dpF 0 0 l
theorem deepAt_succ (l : List OpD) (k : Nat) (x : OpD) (h : l[k]? = some x) : deepAt l (k + 1) = if x.kind = 7 then max (deepAt l k) ((stAt l k).length + 1) else deepAt l k := by
  unfold deepAt stAt
  rw [List.take_add_one, h, dpF_append, stF_ht]
  simp only [Option.toList, dpF, List.length_nil]
  split
  · rfl
  · split <;> rfl
theorem dpF_le (n m : Nat) (l : List OpD) : dpF n m l ≤ max m (n + l.length) := by
  induction l generalizing n m with
  | nil => simp [dpF]; omega
  | cons x r ih =>
    simp only [dpF, List.length_cons]
    split
    · have := ih (n + 1) (max m (n + 1)); omega
    · split
      · have := ih (n - 1) m; omega
      · have := ih n m; omega
theorem deepAt_le (l : List OpD) (k : Nat) : deepAt l k ≤ k := by
  have := dpF_le 0 0 (l.take k)
  unfold deepAt
  simp at this
  omega
def deepS (l : List OpD) : Int × Int := if well l = true then ((deepL l : Int), 0) else (0, 6)

def CloPost (J : Nat → List Nat → World → Prop) (k : Nat) (F : List Nat) (w : World) (e : Ending) (w' : World) : Prop :=
  e = .returned (.tuple #[]) ∧ ∃ F', J (k + 1) F' w' ∧ Turned F w w' ∧ ∀ b ∈ F', b ∈ F ∨ w.heap.size ≤ b

section
variable {bl bd c : Nat} {a : Option Addr} {l : List OpD}
def JD (bl bd c : Nat) (a : Option Addr) (l : List OpD) (k : Nat) (F : List Nat) (w : World) : Prop :=
  F = [bl, bd] ∧ Blk w bl 22 #[.slice a l.length c] ∧ Blk w bd 3 #[.int .i64 (deepAt l k : Int)]

set_option maxHeartbeats 800000 in
theorem JD.call {w' : World} {F : List Nat} {k : Nat} {x : OpD} {b : Option Addr} {n d : Nat} (hx : l[k]? = some x) (h7 : x.kind ≤ 7) (hJ : JD bl bd c a l k F w') (hat : At w' a l) (hn : n = (arnd (stAt l k) x).length) (hl : l.length ≤ 1000000) :
    Calls Tryz.prog 208 #[.int .i64 k, .slice b n d, .pointer (some ⟨bl, 0, none⟩), .pointer (some ⟨bd, 0, none⟩)] w' (CloPost (JD bl bd c a l) k F w') := by
  obtain ⟨rfl, h1, h2⟩ := hJ
  have hkl : k < l.length := (List.getElem?_eq_some_iff.1 hx).1
  have hne : bl ≠ bd := by rintro rfl; unfold Blk at h1 h2; rw [h1] at h2; injection h2 with h2; injection h2 with _ h2; cases h2
  obtain ⟨b1, off1, y, rfl, hy, x0, x1, x2, x3, x4⟩ := hat.getOp (Below.refl _ _) hkl
  obtain rfl : x = y := by have := hx.symm.trans hy.out; simpa using this
  obtain ⟨p0, p1⟩ := h1.c1
  obtain ⟨q0, q1⟩ := h2.c1
  have hs := deepAt_succ l k x hx
  have hle := deepAt_le l k
  have hsl := stAt_length_le l k
  have HS := hide hs
  clear hs hx hy
  by_cases hk : x.kind = 7
  · have hn' : n = (stAt l k).length := by rw [hn]; unfold arnd; rw [if_neg (by omega)]
    have hnk : n ≤ k := by omega
    have HN := hide hn'
    have hkk : (x.kind == 7) = true := by simpa using hk
    have HK := hide hk
    clear hn hn' hk
    have hcs : deepAt l k < n + 1 ∨ n + 1 ≤ deepAt l k := by omega
    rcases hcs with hc1 | hc1
    all_goals
      go_enter Tryz.func208, Tryz.ntmps208
      go_wp2
      go_end0
      unfold CloPost
      refine ⟨rfl, [bl, bd], ⟨rfl, h1.far (p := ⟨bd, 0, none⟩) hne _, ?_⟩, Turned.ofGrown (grown_setCell _ bd 0 _) (fun g hg => .inl (by injection hg with hg; simp [hg])), fun g hg => .inl hg⟩
      rw [HS.out, if_pos HK.out, ← HN.out]
    · rw [Nat.max_eq_right (by omega)]
      exact h2.set_ 0 (.int .i64 ((n : Int) + 1))
    · rw [Nat.max_eq_left hc1]
      exact h2.set_ 0 (.int .i64 (deepAt l k : Int))
  · have hkk : (x.kind == 7) = false := by simpa using hk
    have HK := hide hk
    clear hk hn
    go_enter Tryz.func208, Tryz.ntmps208
    go_wp2
    go_end0
    unfold CloPost
    refine ⟨rfl, [bl, bd], ⟨rfl, h1, ?_⟩, Turned.refl _ _, fun g hg => .inl hg⟩
    rw [HS.out, if_neg HK.out]
    exact h2
end


set_option maxHeartbeats 1600000 in
theorem Deep_calls (a : Option Addr) (c : Nat) (l : List OpD) (w : World) (h : At w a l) (hl : l.length ≤ 1000000) :
    Calls Tryz.prog 201 #[.slice a l.length c] w fun e w' => e = .returned (.tuple #[.int .i64 (deepS l).1, .int .i64 (deepS l).2]) ∧ Below w.heap.size w w' := by
  have haw : l ≠ [] → ∀ g, a.map (·.block) = some g → g < w.heap.size := by
    intro h0 g hg
    obtain ⟨b, off, rfl, hlt⟩ := h.lt h0
    simp at hg
    omega
  have HAW := hide haw
  obtain ⟨Wl, hWl⟩ : ∃ b, b = well l := ⟨_, rfl⟩
  have HWL := hide hWl
  have hs : deepS l = if Wl = true then ((deepL l : Int), 0) else (0, 6) := by rw [hWl]; rfl
  have HS := hide hs
  rw [hs]
  clear haw hWl hs
  have hcase : Wl = true ∨ Wl = false := by cases Wl <;> simp
  have hBa : Below w.heap.size w ((w.alloc (.cells #[.slice a l.length c] 22)).alloc (.cells #[.int .i64 0] 3)) := Below.alloc (Below.alloc (Below.refl _ _) (Nat.le_refl _) _) (by simp) _
  rcases hcase with rfl | rfl
  · go_enter Tryz.func201, Tryz.ntmps201
    go_wp2_with (go_at_call 138; (refine (walkD_calls _ _ a c l _ (h.belowN hBa) hl (JD w.heap.size (w.heap.size + 1) c a l) [w.heap.size, w.heap.size + 1] (fun k F w w' hJ _ hb => (by obtain ⟨rfl, e1, e2⟩ := hJ; exact ⟨rfl, (hb _ (by simp)).trans e1, (hb _ (by simp)).trans e2⟩)) (fun k F w hJ => (by obtain ⟨rfl, e1, e2⟩ := hJ; intro b hb; simp at hb; rcases hb with rfl | rfl; exact e1.lt; exact e2.lt)) ?_ ?_ ?_).mono ?_); rotate_right; rintro e w3 ⟨rfl, hT3, hW3⟩; rw [← HWL.out]; obtain ⟨F', ⟨hFF, h1, h2⟩, _⟩ := hW3 HWL.out.symm; obtain ⟨q0, q1⟩ := h2.c1; have HFF := hide hFF; clear hFF hW3)
    · go_ret2
      exact ⟨by simp [deepL, deepAt], hT3.below hBa (fun g hg => by simp at hg; omega) (by simp; omega)⟩
    · intro k x F w' b n d hx h0 h7 hk0 hJ hat hn hT
      have hata : At w' a l := (h.belowN hBa).turned hT (fun h0 g hg e => by have := HAW.out h0 g e; simp at hg; omega)
      refine (JD.call hx h7 hJ hata hn hl).mono ?_
      rintro e w2 h2
      unfold CloPost at h2
      exact h2
    · exact ⟨rfl, (Blk.new w _ _).alloc _, by simpa [deepAt, dpF] using Blk.new (w.alloc (.cells #[.slice a l.length c] 22)) 3 #[.int .i64 0]⟩
    · intro h0
      first
      | (intro g hg e; have := HAW.out h0 g e; simp at hg; omega)
      | (constructor
         all_goals
           intro x hx e
           have := HAW.out h0 x.block (by simp [hx])
           omega)
  · go_enter Tryz.func201, Tryz.ntmps201
    go_wp2_with (go_at_call 138; (refine (walkD_calls _ _ a c l _ (h.belowN hBa) hl (JD w.heap.size (w.heap.size + 1) c a l) [w.heap.size, w.heap.size + 1] (fun k F w w' hJ _ hb => (by obtain ⟨rfl, e1, e2⟩ := hJ; exact ⟨rfl, (hb _ (by simp)).trans e1, (hb _ (by simp)).trans e2⟩)) (fun k F w hJ => (by obtain ⟨rfl, e1, e2⟩ := hJ; intro b hb; simp at hb; rcases hb with rfl | rfl; exact e1.lt; exact e2.lt)) ?_ ?_ ?_).mono ?_); rotate_right; rintro e w3 ⟨rfl, hT3, hW3⟩; rw [← HWL.out]; clear hW3)
    · go_ret2
      exact ⟨by simp, hT3.below hBa (fun g hg => by simp at hg; omega) (by simp; omega)⟩
    · intro k x F w' b n d hx h0 h7 hk0 hJ hat hn hT
      have hata : At w' a l := (h.belowN hBa).turned hT (fun h0 g hg e => by have := HAW.out h0 g e; simp at hg; omega)
      refine (JD.call hx h7 hJ hata hn hl).mono ?_
      rintro e w2 h2
      unfold CloPost at h2
      exact h2
    · exact ⟨rfl, (Blk.new w _ _).alloc _, by simpa [deepAt, dpF] using Blk.new (w.alloc (.cells #[.slice a l.length c] 22)) 3 #[.int .i64 0]⟩
    · intro h0
      first
      | (intro g hg e; have := HAW.out h0 g e; simp at hg; omega)
      | (constructor
         all_goals
           intro x hx e
           have := HAW.out h0 x.block (by simp [hx])
           omega)
end Go.Proofs.YtcamcnahkdiefaaGreat

/- Plain facts on programs that may be: which ones they are, their registers, what a run makes of them. No program is named here. -/
namespace Go.Proofs.YtcamcnahkdiefaaGreat
set_option linter.unusedVariables false
set_option linter.unusedSimpArgs false
open Go.RowKit

theorem dpF_flat (f : Fo) (hf : f.ok) : ∀ (n m : Nat) (r : List OpD), n ≤ m → dpF n m (f.flat ++ r) = dpF n (max m (n + f.dp)) r := by
  induction f with
  | nil => intro n m r h; simp [Fo.flat, Fo.dp]; rw [Nat.max_eq_left h]
  | leaf op s ih =>
    intro n m r h
    obtain ⟨h1, h2, h3⟩ := hf
    show dpF n m (op :: (s.flat ++ r)) = _
    rw [dpF, if_neg (by omega), if_neg (by omega), ih h3 n m r h]
    rfl
  | rep op b fin s ihb ihs =>
    intro n m r h
    obtain ⟨h1, h2, h3, h4⟩ := hf
    show dpF n m (op :: ((b.flat ++ fin :: s.flat) ++ r)) = _
    rw [dpF, if_pos h1, List.append_assoc, ihb h2 _ _ _ (by omega)]
    show dpF (n + 1) _ (fin :: (s.flat ++ r)) = _
    rw [dpF, if_neg (by omega), if_pos h3, ihs h4 _ _ _ (by omega)]
    simp only [Fo.dp]
    congr 1
    omega
theorem deepL_flat (f : Fo) (hf : f.ok) : deepL f.flat = f.dp := by
  have := dpF_flat f hf 0 0 [] (Nat.le_refl _)
  simpa [deepL, dpF] using this

/-! ### Programs that may be -/
def formB (l : List OpD) : Bool := decide (l.length ≤ 4096) && well l && l.all rightB
def regsB (regs : Int) (l : List OpD) : Bool := decide (1 ≤ regs) && decide (regs ≤ 64) && l.all (fun x => !offB regs x)
def checkS (regs : Int) (l : List OpD) : Int :=
  if formB l = true then (if regsB regs l = true then (if deepL l ≤ 8 then (if (measL l).isSome = true then 0 else 9) else 8) else 7) else 6
structure Good (regs : Int) (f : Fo) : Prop where
  ok : f.ok
  len : f.size ≤ 4096
  right : ∀ x ∈ f.flat, rightB x = true
  r1 : 1 ≤ regs
  r2 : regs ≤ 64
  off : ∀ x ∈ f.flat, offB regs x = false
  deep : f.dp ≤ 8
  may : f.may = true
  few : f.wr ≤ 65536
theorem good_of_check {regs : Int} {l : List OpD} (h : checkS regs l = 0) : ∃ f : Fo, l = f.flat ∧ Good regs f := by
  unfold checkS at h
  by_cases h1 : formB l = true
  · rw [if_pos h1] at h
    by_cases h2 : regsB regs l = true
    · rw [if_pos h2] at h
      by_cases h3 : deepL l ≤ 8
      · rw [if_pos h3] at h
        by_cases h4 : (measL l).isSome = true
        · unfold formB at h1
          simp only [Bool.and_eq_true, decide_eq_true_eq, List.all_eq_true] at h1
          unfold regsB at h2
          simp only [Bool.and_eq_true, decide_eq_true_eq, List.all_eq_true, Bool.not_eq_true'] at h2
          obtain ⟨f, hf, rfl⟩ := forest_of_well l h1.1.2
          rw [measL_flat f hf] at h4
          by_cases h5 : f.may = true ∧ f.wr ≤ 65536
          · exact ⟨f, rfl, hf, h1.1.1, h1.2, h2.1.1, h2.1.2, h2.2, by rw [← deepL_flat f hf]; exact h3, h5.1, h5.2⟩
          · rw [if_neg h5] at h4; cases h4
        · rw [if_neg h4] at h; omega
      · rw [if_neg h3] at h; omega
    · rw [if_neg h2] at h; omega
  · rw [if_neg h1] at h; omega
theorem Good.check {regs : Int} {f : Fo} (g : Good regs f) : checkS regs f.flat = 0 := by
  unfold checkS
  rw [if_pos, if_pos, if_pos, if_pos]
  · rw [measL_flat f g.ok, if_pos ⟨g.may, g.few⟩]; rfl
  · rw [deepL_flat f g.ok]; exact g.deep
  · unfold regsB
    simp only [Bool.and_eq_true, decide_eq_true_eq, List.all_eq_true, Bool.not_eq_true']
    exact ⟨⟨g.r1, g.r2⟩, g.off⟩
  · unfold formB
    simp only [Bool.and_eq_true, decide_eq_true_eq, List.all_eq_true]
    exact ⟨⟨g.len, well_of_flat f g.ok⟩, g.right⟩
theorem Fo.flat_inj (f : Fo) (hf : f.ok) : ∀ (g : Fo), g.ok → ∀ (a b : OpD) (ra rb : List OpD), a.kind = 0 → b.kind = 0 → f.flat ++ a :: ra = g.flat ++ b :: rb → f = g ∧ a = b ∧ ra = rb := by
  induction f with
  | nil =>
    intro g hg a b ra rb ha hb h
    cases g with
    | nil => simp [flat] at h; exact ⟨rfl, h⟩
    | leaf op r => simp [flat] at h; have := hg.1; rw [← h.1] at this; omega
    | rep op c fin r => simp [flat] at h; have := hg.1; rw [← h.1] at this; omega
  | leaf op r ih =>
    intro g hg a b ra rb ha hb h
    obtain ⟨h1, h2, h3⟩ := hf
    cases g with
    | nil => simp [flat] at h; rw [h.1] at h1; omega
    | leaf op' r' =>
      simp only [flat, List.cons_append, List.cons.injEq] at h
      obtain ⟨rfl, h⟩ := h
      obtain ⟨rfl, e2, e3⟩ := ih h3 r' hg.2.2 a b ra rb ha hb h
      exact ⟨rfl, e2, e3⟩
    | rep op' c fin r' =>
      simp only [flat, List.cons_append, List.cons.injEq] at h
      have := hg.1; rw [← h.1] at this; omega
  | rep op c fin r ihc ihr =>
    intro g hg a b ra rb ha hb h
    obtain ⟨h1, h2, h3, h4⟩ := hf
    cases g with
    | nil => simp [flat] at h; rw [h.1] at h1; omega
    | leaf op' r' =>
      simp only [flat, List.cons_append, List.cons.injEq] at h
      have := hg.2.1; rw [← h.1] at this; omega
    | rep op' c' fin' r' =>
      simp only [flat, List.cons_append, List.cons.injEq, List.append_assoc] at h
      obtain ⟨rfl, h⟩ := h
      obtain ⟨rfl, rfl, h'⟩ := ihc h2 c' hg.2.1 _ _ _ _ h3 hg.2.2.1 h
      obtain ⟨rfl, e2, e3⟩ := ihr h4 r' hg.2.2.2 a b ra rb ha hb h'
      exact ⟨rfl, e2, e3⟩
theorem Fo.flat_eq {f g : Fo} (hf : f.ok) (hg : g.ok) (h : f.flat = g.flat) : f = g :=
  (Fo.flat_inj f hf g hg ⟨0, 0, 0, 0, 0⟩ ⟨0, 0, 0, 0, 0⟩ [] [] rfl rfl (by rw [h])).1
noncomputable def fo (l : List OpD) : Fo := if h : well l = true then Classical.choose (forest_of_well l h) else .nil
theorem fo_flat {f : Fo} (hf : f.ok) : fo f.flat = f := by
  unfold fo
  rw [dif_pos (well_of_flat f hf)]
  have := Classical.choose_spec (forest_of_well f.flat (well_of_flat f hf))
  exact Fo.flat_eq this.1 hf this.2.symm

/-! ### Registers -/
def getR (r : List UInt64) (i : Int) : UInt64 := (r[i.toNat]?).getD 0
def stepR (r : List UInt64) (x : OpD) : List UInt64 := r.set x.d.toNat (applyU x (getR r x.a) (getR r x.b))
def runR (l : List OpD) (r : List UInt64) : List UInt64 := l.foldl stepR r
theorem stepR_length (r : List UInt64) (x : OpD) : (stepR r x).length = r.length := by simp [stepR]
theorem runR_length (l : List OpD) (r : List UInt64) : (runR l r).length = r.length := by
  induction l generalizing r with
  | nil => rfl
  | cons x l ih => show (runR l (stepR r x)).length = _; rw [ih, stepR_length]
theorem runR_append (a b : List OpD) (r : List UInt64) : runR (a ++ b) r = runR b (runR a r) := List.foldl_append ..
def InR (regs : Int) (x : OpD) : Prop := (0 ≤ x.d ∧ x.d < regs) ∧ (0 ≤ x.a ∧ x.a < regs) ∧ (0 ≤ x.b ∧ x.b < regs)
theorem inR_of {regs : Int} {x : OpD} (h1 : rightB x = true) (h2 : offB regs x = false) (h3 : 1 ≤ regs) (k1 : 1 ≤ x.kind) (k2 : x.kind ≤ 6) : InR regs x := by
  obtain ⟨k, d, a, b, v⟩ := x
  have hk : k = 1 ∨ k = 2 ∨ k = 3 ∨ k = 4 ∨ k = 5 ∨ k = 6 := by simp only at k1 k2; omega
  rcases hk with rfl | rfl | rfl | rfl | rfl | rfl <;> simp [rightB, regB, offB, dOf, aOf, bOf, vOf] at h1 h2 <;> unfold InR <;> simp only <;> omega
theorem Good.inR {regs : Int} {f : Fo} (g : Good regs f) : ∀ x ∈ f.unroll, InR regs x := fun x hx => by
  obtain ⟨h1, h2, h3⟩ := f.unroll_mem g.ok x hx
  exact inR_of (g.right x h1) (g.off x h1) g.r1 h2 h3
theorem Good.inF {regs : Int} {f : Fo} (g : Good regs f) : ∀ x ∈ f.flat, 1 ≤ x.kind → x.kind ≤ 6 → InR regs x := fun x hx h2 h3 => inR_of (g.right x hx) (g.off x hx) g.r1 h2 h3
theorem Good.code_length {regs : Int} {f : Fo} (g : Good regs f) : (f.bare.code 0).length ≤ 4096 := by
  rw [Fo.code_length]; exact Nat.le_trans f.bare_size g.len
theorem Good.gone_le {regs : Int} {f : Fo} (g : Good regs f) : f.bare.gone.length ≤ 65536 * 17 := by
  have := f.bare.gone_le f.bare_full 8 (Nat.le_trans f.bare_dp g.deep)
  rw [f.bare_wr] at this
  have h2 : f.wr * (1 + 2 * 8) ≤ 65536 * 17 := Nat.mul_le_mul g.few (by omega)
  omega
def startR (n : Nat) (r : List UInt64) : List UInt64 := r ++ List.replicate (n - r.length) 0
theorem startR_length (n : Nat) (r : List UInt64) (h : r.length ≤ n) : (startR n r).length = n := by simp [startR] <;> omega
def Fo.steps (f : Fo) : List Tk := f.bare.tr 0 []
theorem Good.chn {regs : Int} {f : Fo} (g : Good regs f) : Chn (f.bare.code 0) (0, []) f.steps ((f.bare.code 0).length, []) := by
  have := f.bare.tr_chn (f.bare_ok g.ok) f.bare_full (f.bare.code 0) [] [] 0 [] (by simp) rfl
  rw [Fo.code_length]
  simpa [Fo.steps] using this
theorem Good.tk {regs : Int} {f : Fo} (g : Good regs f) : ∀ x ∈ f.steps, TkOk (f.bare.code 0).length 8 f.bare.flat x := by
  have := f.bare.tr_tk (f.bare_ok g.ok) 0 8 [] (by simpa using Nat.le_trans f.bare_dp g.deep)
  rw [Fo.code_length]
  simpa [Fo.steps] using this
theorem Good.steps_ops {regs : Int} {f : Fo} (g : Good regs f) : wrs (f.steps.map (·.op)) = f.unroll := by
  unfold Fo.steps
  rw [Fo.tr_ops, Fo.gone_wrs _ (f.bare_ok g.ok), Fo.bare_unroll]
theorem steps_length (f : Fo) : f.steps.length = f.bare.gone.length := by
  have := congrArg List.length (f.bare.tr_ops 0 [])
  simpa [Fo.steps] using this
end Go.Proofs.YtcamcnahkdiefaaGreat

/- Plain facts on programs that are joined, or put into a block. No program is named here. -/
namespace Go.Proofs.YtcamcnahkdiefaaGreat
set_option linter.unusedVariables false
set_option linter.unusedSimpArgs false
open Go.RowKit

theorem Fo.app_flat' (f g : Fo) : (f.app g).flat = f.flat ++ g.flat := by
  induction f with
  | nil => rfl
  | leaf op r ih => simp [app, flat, ih]
  | rep op b fin r _ ih => simp [app, flat, ih]
theorem Fo.app_ok' (f g : Fo) (hf : f.ok) (hg : g.ok) : (f.app g).ok := by
  induction f with
  | nil => exact hg
  | leaf op r ih => exact ⟨hf.1, hf.2.1, ih hf.2.2⟩
  | rep op b fin r _ ih => exact ⟨hf.1, hf.2.1, hf.2.2.1, ih hf.2.2.2⟩
theorem Good.app {regs : Int} {f g : Fo} (hf : Good regs f) (hg : Good regs g) (hs : f.size + g.size ≤ 4096) (hw : f.wr + g.wr ≤ 65536) : Good regs (f.app g) where
  ok := f.app_ok' g hf.ok hg.ok
  len := by unfold Fo.size at *; rw [Fo.app_flat', List.length_append]; exact hs
  right := by rw [Fo.app_flat']; intro x hx; rcases List.mem_append.1 hx with h | h; exact hf.right x h; exact hg.right x h
  r1 := hf.r1
  r2 := hf.r2
  off := by rw [Fo.app_flat']; intro x hx; rcases List.mem_append.1 hx with h | h; exact hf.off x h; exact hg.off x h
  deep := by rw [Fo.dp_app]; have := hf.deep; have := hg.deep; omega
  may := by rw [Fo.may_app, hf.may, hg.may]; rfl
  few := by rw [Fo.wr_app]; exact hw
def wrapF (v : UInt64) (f : Fo) : Fo := .rep ⟨7, 0, 0, 0, v⟩ f ⟨0, 0, 0, 0, 0⟩ .nil
theorem wrapF_flat (v : UInt64) (f : Fo) : (wrapF v f).flat = ⟨7, 0, 0, 0, v⟩ :: (f.flat ++ [⟨0, 0, 0, 0, 0⟩]) := rfl
theorem wrapF_wr (v : UInt64) (f : Fo) : (wrapF v f).wr = f.wr * v.toNat := by simp [wrapF, Fo.wr]
theorem wrapF_ok (v : UInt64) {f : Fo} (hf : f.ok) : (wrapF v f).ok := ⟨rfl, hf, rfl, trivial⟩
theorem wrapF_right {regs : Int} (v : UInt64) {f : Fo} (g : Good regs f) : ∀ x ∈ (wrapF v f).flat, rightB x = true ∧ offB regs x = false := by
  intro x hx
  rw [wrapF_flat] at hx
  simp only [List.mem_cons, List.mem_append, List.not_mem_nil, or_false] at hx
  rcases hx with rfl | hx | rfl
  · exact ⟨by simp [rightB, regB, dOf, aOf, bOf, vOf], by simp [offB, dOf, aOf, bOf]⟩
  · exact ⟨g.right x hx, g.off x hx⟩
  · exact ⟨by simp [rightB, regB, dOf, aOf, bOf, vOf], by simp [offB, dOf, aOf, bOf]⟩
theorem Good.wrap {regs : Int} {f : Fo} (g : Good regs f) (v : UInt64) (hs : f.size + 2 ≤ 4096) (hw : f.wr * v.toNat ≤ 65536) (hd : f.dp + 1 ≤ 8) : Good regs (wrapF v f) where
  ok := wrapF_ok v g.ok
  len := by unfold Fo.size at *; rw [wrapF_flat]; simp; omega
  right := fun x hx => (wrapF_right v g x hx).1
  r1 := g.r1
  r2 := g.r2
  off := fun x hx => (wrapF_right v g x hx).2
  deep := by simp only [wrapF, Fo.dp]; omega
  may := by simp [wrapF, Fo.may, g.may, g.few, hw]
  few := by rw [wrapF_wr]; exact hw
end Go.Proofs.YtcamcnahkdiefaaGreat

/- Plain facts on a machine's steps: how often an open block is still to come. No program is named here. -/
namespace Go.Proofs.YtcamcnahkdiefaaGreat
set_option linter.unusedVariables false
set_option linter.unusedSimpArgs false
open Go.RowKit

theorem trR_all {b : List UInt64 → List Tk} {e : Nat} {fin : OpD} {to : Int} {st : List UInt64} {P : Tk → Prop} (N : Nat) (hb : ∀ k : Nat, ∀ x ∈ b (st ++ [UInt64.ofNat (k + 1)]), P x) (he : ∀ k : Nat, k < N → P ⟨e, st ++ [UInt64.ofNat (k + 1)], fin, to⟩) : ∀ k, k ≤ N → ∀ x ∈ trR b e fin to st k, P x := by
  intro k
  induction k with
  | zero => intro _ x hx; cases hx
  | succ k ih =>
    intro hk x hx
    unfold trR at hx
    rcases List.mem_append.1 hx with hx | hx
    · exact hb k x hx
    · rcases List.mem_cons.1 hx with rfl | hx
      · exact he k (by omega)
      · exact ih (by omega) x hx
theorem Fo.tr_pos (f : Fo) (hf : f.ok) : ∀ (o : Nat) (st : List UInt64), ∀ x ∈ f.tr o st, x.op.kind = 0 → 1 ≤ (x.st.getLast?.getD 0).toNat := by
  induction f with
  | nil => intro o st x hx; cases hx
  | leaf op r ih =>
    intro o st x hx h0
    obtain ⟨h1, h2, h3⟩ := hf
    rcases List.mem_cons.1 hx with rfl | hx
    · simp at h0; omega
    · exact ih h3 _ _ x hx h0
  | rep op b fin r ihb ihr =>
    intro o st x hx h0
    obtain ⟨h1, h2, h3, h4⟩ := hf
    rcases List.mem_cons.1 hx with rfl | hx
    · simp at h0; omega
    · rcases List.mem_append.1 hx with hx | hx
      · refine trR_all (P := fun x => x.op.kind = 0 → 1 ≤ (x.st.getLast?.getD 0).toNat) op.v.toNat (fun k y hy => ihb h2 _ _ y hy) (fun k hk _ => ?_) _ (Nat.le_refl _) x hx h0
        have := op.v.toNat_lt
        simp only [List.getLast?_append, List.getLast?_singleton, Option.some_or, Option.getD_some]
        rw [toNat_ofNat' (by omega)]
        omega
      · exact ihr h4 _ _ x hx h0
theorem Good.tk_pos {regs : Int} {f : Fo} (g : Good regs f) : ∀ x ∈ f.steps, x.op.kind = 0 → 1 ≤ (x.st.getLast?.getD 0).toNat := f.bare.tr_pos (f.bare_ok g.ok) 0 []
end Go.Proofs.YtcamcnahkdiefaaGreat
