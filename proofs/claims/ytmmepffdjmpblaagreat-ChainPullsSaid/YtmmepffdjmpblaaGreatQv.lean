/- Several texts of mine in one file: C23e, C23f, C23g, C23h, C23i, C23j, C23k, C23l, C23m. -/
import Derived.Test.YtmmepffdjmpblaaGreatQu
import Derived.Test.YtmmepffdjmpblaaGreatQl
import Derived.Test.YtmmepffdjmpblaaGreatQj
/- Chapter 23: each: a callee sees all states. -/
namespace Go.Proofs.YtmmepffdjmpblaaGreat
set_option linter.unusedVariables false
set_option linter.unusedSimpArgs false
open Go.RowKit
theorem EachBad_calls (g : Nat) (c : ChD) (t : Int) (a : Option Addr) (n k : Nat) (fv : Value) (w : World) (h : ChAt w g c) (hn : n ≤ 1000000) (E : Int) (hE : c.may t n = E) (h0 : E ≠ 0) :
    Calls Tryz.prog 34 #[.pointer (some ⟨g, 0, none⟩), .slice a n k, .int .i64 t, fv] w fun e w' => e = .returned (.int .i64 E) ∧ w = w' := by
  have HM := hide (May_calls g c t a n k w h hn E hE)
  have e1 : (E == 0) = false := by simpa using h0
  have e2 : (E != 0) = true := by simpa using h0
  clear h0 hE
  go_enter Tryz.func34, Tryz.ntmps34
  go_wp2_with (go_at_call 19; go_must ((with_reducible refine (HM.out).mono ?_); rintro e w1 ⟨rfl, rfl⟩))
  go_ret
  exact ⟨rfl, rfl⟩
set_option maxRecDepth 100000 in
set_option maxHeartbeats 1600000 in
theorem EachR_calls (cp : Value) (g : Nat) (c : ChD) (hc : c.Ok) (lN : Nat) (hl : lN < 65536) (a : Option Addr) (n k : Nat) (xs : List UInt64) (w : World) (hch : ChAt w g c) (hat : At w a xs) (hn : n = xs.length) (hnk : n ≤ k) (hx : (n : Int) = c.x)
    (J : Nat → List Nat → World → Prop) (F0 : List Nat)
    (hC : ∀ w1, Turned F0 w w1 → ChAt w1 g c)
    (hkeep : ∀ j F w w', J j F w → Below w.heap.size w w' → J j F w') (hlt : ∀ j F w, J j F w → ∀ b ∈ F, b < w.heap.size)
    (hcall : ∀ (j : Nat) (F : List Nat) (w1 : World) (b : Option Addr) (d : Nat), j ≤ lN → J j F w1 → At w1 b (c.iter xs j) → n ≤ d → (∀ q, b.map (·.block) = some q → w.heap.size ≤ q ∧ q < w1.heap.size ∧ q ∉ F) → Turned F0 w w1 →
      Calls Tryz.prog 36 #[.slice b n d, cp] w1 fun e w2 => e = .returned (.tuple #[]) ∧ ∃ F', J (j + 1) F' w2 ∧ Turned F w1 w2 ∧ ∀ q ∈ F', q ∈ F ∨ w1.heap.size ≤ q)
    (h0 : J 0 F0 w) :
    Calls Tryz.prog 34 #[.pointer (some ⟨g, 0, none⟩), .slice a n k, .int .i64 (lN : Int), .func (.func 36) #[] #[cp]] w fun e w' => e = .returned (.int .i64 0) ∧ ∃ F', J (lN + 1) F' w' ∧ Turned F0 w w' := by
  have hmay : c.may (lN : Int) n = 0 := by unfold ChD.may; rw [if_neg (by omega), if_neg (by simpa using hx)]
  have hx2 := hc.x2
  have hx1 := hc.x1
  have HM := hide (May_calls g c (lN : Int) a n k w hch (by omega) 0 hmay)
  have HN := hide hn
  have HK := hide hkeep
  have HLT := hide hlt
  have HC := hide hC
  have HCA := hide hcall
  have HNE : Hid (∀ j, (c.iter xs j).length = n) := hide (fun j => by have := ChD.iter_length hc (xs := xs) (by rw [← hn]; exact hx) j; omega)
  have HI0 : Hid (c.iter xs 0 = xs) := hide (by rw [ChD.iter])
  have hn64 : n ≤ 64 := by omega
  have hn0 : 1 ≤ n := by omega
  clear hkeep hlt hC hcall hmay hn
  go_enter Tryz.func34, Tryz.ntmps34
  go_wp2_with (first
    | (go_at_call 19; go_must ((with_reducible refine (HM.out).mono ?_); rintro e w1 ⟨rfl, rfl⟩))
    | (go_at_call 33; go_must ((with_reducible refine (CloneU_calls _ _ _ xs _ HN.out hat (by omega)).mono ?_); rintro e w2 ⟨a2, c2, rfl, hown2, hb2⟩; have hT2 : Turned F0 w w2 := Turned.ofBelow hb2; have hJ2 := HK.out 0 F0 w w2 h0 hb2; have hcap2 := hown2.cap.1; have hf2 : ∀ q, a2.map (·.block) = some q → w.heap.size ≤ q ∧ q < w2.heap.size ∧ q ∉ F0 := fun q hq => ⟨(hown2.blk q hq).1, (hown2.blk q hq).2, fun hm => by have h1 := HLT.out _ _ _ h0 q hm; have h2 := (hown2.blk q hq).1; omega⟩))
    | (go_at_call 36; go_must ((with_reducible refine (HCA.out 0 F0 _ a2 c2 (by omega) hJ2 (by rw [HI0.out]; exact hown2.at_) (by rw [HN.out]; exact hcap2) hf2 hT2).mono ?_); rintro e w3 ⟨rfl, F3, hJ3, hT23, hF3⟩)))
  have hT3 := hT2.trans hT23 (fun q hq => .inl hq)
  have hat3 := hown2.at_.turned hT23 (fun _ q hq e => (hf2 q e).2.2 hq)
  have hs2 := hT2.size
  have hs3 := hT3.size
  have hs23 := hT23.size
  rw [← HI0.out] at hat3
  have HF3 := hide hF3
  have hf3 : ∀ q, a2.map (·.block) = some q → w.heap.size ≤ q ∧ q < w3.heap.size ∧ q ∉ F3 := fun q hq => ⟨(hf2 q hq).1, by have := (hf2 q hq).2.1; omega, fun hm => by
    rcases HF3.out q hm with h1 | h1
    · exact (hf2 q hq).2.2 h1
    · have := (hf2 q hq).2.1; omega⟩
  have hF3' : ∀ q ∈ F3, q ∈ F0 ∨ w.heap.size ≤ q := fun q hq => (HF3.out q hq).imp id (fun h1 => by omega)
  have hcap3 : n ≤ c2 := by rw [HN.out]; exact hcap2
  clear hown2 hb2 hJ2 hf2 hcap2 hF3
  go_loopw [1, 10, 24] (fun xv _ iv wr => ∃ (j : Nat) (F : List Nat) (b : Option Addr) (d : Nat), iv = .int .i64 j ∧ j ≤ lN ∧ xv = .slice b n d ∧ n ≤ d ∧ At wr b (c.iter xs j) ∧ Hid (∀ q, b.map (·.block) = some q → w.heap.size ≤ q ∧ q < wr.heap.size ∧ q ∉ F) ∧ Hid (J (j + 1) F wr) ∧ Hid (∀ q ∈ F, q ∈ F0 ∨ w.heap.size ≤ q) ∧ Turned F0 w wr) (fun _ _ iv _ => lN - (intOf iv).toNat)
  case atStart => exact ⟨0, F3, a2, c2, rfl, by omega, rfl, hcap3, hat3, hf3, hJ3, hF3', hT3⟩
  case round =>
    clear hat3 hf3 hJ3 hF3' hcap3 hT23 hT2 HF3 hT3 hs2 hs3 hs23
    obtain ⟨j, F, b, d, rfl, hj, rfl, hnd, hatj, hfj, hJj, hFj, hTj⟩ := hrel
    have hsj := hTj.size
    by_cases hlt : j < lN
    · obtain ⟨v, hv⟩ : ∃ v : UInt64, v.toNat = j := ⟨UInt64.ofNat j, by rw [UInt64.toNat_ofNat', Nat.mod_eq_of_lt (by omega)]⟩
      have hvj : ((v.toNat : Nat) : Int) = (j : Int) := by rw [hv]
      have HST := hide (StepGood_calls g c hc v b n d (c.iter xs j) wr (HC.out wr hTj) hatj (HNE.out j).symm hnd hx (by omega) (c.iter xs (j + 1)) (by rw [ChD.iter, hvj]))
      rw [hvj] at HST
      clear hv hvj
      go_wp2_with (first
        | (go_at_call 54; go_must ((with_reducible refine (HST.out).mono ?_); rintro e w5 ⟨a5, c5, rfl, hcap5, hat5, hfr5, hb5⟩; have hT5 := hTj.trans (Turned.ofBelow (F := F0) hb5) (fun q hq => .inl hq); have hJ5 := HK.out (j + 1) F wr w5 hJj.out hb5; have hf5 : ∀ q, a5.map (·.block) = some q → w.heap.size ≤ q ∧ q < w5.heap.size ∧ q ∉ F := fun q hq => ⟨Nat.le_trans hsj (hfr5 q hq).1, (hfr5 q hq).2, fun hm => by have h1 := HLT.out _ _ _ hJj.out q hm; have h2 := (hfr5 q hq).1; omega⟩))
        | (go_at_call 36; go_must ((with_reducible refine (HCA.out (j + 1) F _ a5 c5 (by omega) hJ5 hat5 hcap5 hf5 hT5).mono ?_); rintro e w6 ⟨rfl, F6, hJ6, hT56, hF6⟩)))
      go_roundw
      case rel =>
        have hs5 := hb5.size
        have hs6 := hT56.size
        have hFs : ∀ q ∈ F, q ∈ F0 ∨ w.heap.size ≤ q := hFj.out
        have hT6 : Turned F0 w w6 := hT5.trans hT56 (fun q hq => hFs q hq)
        exact ⟨j + 1, F6, a5, c5, by go_num, by omega, rfl, hcap5, hat5.turned hT56 (fun _ q hq e => (hf5 q e).2.2 hq), hide (fun q hq => ⟨(hf5 q hq).1, by have := (hf5 q hq).2.1; omega, fun hm => by
          rcases hF6 q hm with h1 | h1
          · exact (hf5 q hq).2.2 h1
          · have := (hf5 q hq).2.1; omega⟩), hide hJ6, hide (fun q hq => by
          rcases hF6 q hq with h1 | h1
          · exact hFs q h1
          · have := hT5.size; exact .inr (by omega)), hT6⟩
      case measure => simp [intOf]; omega
    · obtain rfl : lN = j := by omega
      go_wp2
      go_ret
      exact ⟨rfl, F, hJj.out, hTj⟩
set_option maxRecDepth 100000 in
set_option maxHeartbeats 1600000 in
theorem EachS_calls (cp : Value) (g : Nat) (c : ChD) (hc : c.Ok) (lN : Nat) (hl : lN < 65536) (a : Option Addr) (n k : Nat) (xs : List UInt64) (w : World) (hch : ChAt w g c) (hat : At w a xs) (hn : n = xs.length) (hnk : n ≤ k) (hx : (n : Int) = c.x)
    (J : Nat → List Nat → World → Prop) (F0 : List Nat)
    (hC : ∀ w1, Turned F0 w w1 → ChAt w1 g c)
    (hkeep : ∀ j F w w', J j F w → Below w.heap.size w w' → J j F w') (hlt : ∀ j F w, J j F w → ∀ b ∈ F, b < w.heap.size)
    (hcall : ∀ (j : Nat) (F : List Nat) (w1 : World) (b : Option Addr) (d : Nat), j ≤ lN → J j F w1 → At w1 b (c.iter xs j) → n ≤ d → (∀ q, b.map (·.block) = some q → w.heap.size ≤ q ∧ q < w1.heap.size ∧ q ∉ F) → Turned F0 w w1 →
      Calls Tryz.prog 35 #[cp, .slice b n d] w1 fun e w2 => e = .returned (.tuple #[]) ∧ ∃ F', J (j + 1) F' w2 ∧ Turned F w1 w2 ∧ ∀ q ∈ F', q ∈ F ∨ w1.heap.size ≤ q)
    (h0 : J 0 F0 w) :
    Calls Tryz.prog 34 #[.pointer (some ⟨g, 0, none⟩), .slice a n k, .int .i64 (lN : Int), .func (.func 35) #[cp] #[]] w fun e w' => e = .returned (.int .i64 0) ∧ ∃ F', J (lN + 1) F' w' ∧ Turned F0 w w' := by
  have hmay : c.may (lN : Int) n = 0 := by unfold ChD.may; rw [if_neg (by omega), if_neg (by simpa using hx)]
  have hx2 := hc.x2
  have hx1 := hc.x1
  have HM := hide (May_calls g c (lN : Int) a n k w hch (by omega) 0 hmay)
  have HN := hide hn
  have HK := hide hkeep
  have HLT := hide hlt
  have HC := hide hC
  have HCA := hide hcall
  have HNE : Hid (∀ j, (c.iter xs j).length = n) := hide (fun j => by have := ChD.iter_length hc (xs := xs) (by rw [← hn]; exact hx) j; omega)
  have HI0 : Hid (c.iter xs 0 = xs) := hide (by rw [ChD.iter])
  have hn64 : n ≤ 64 := by omega
  have hn0 : 1 ≤ n := by omega
  clear hkeep hlt hC hcall hmay hn
  go_enter Tryz.func34, Tryz.ntmps34
  go_wp2_with (first
    | (go_at_call 19; go_must ((with_reducible refine (HM.out).mono ?_); rintro e w1 ⟨rfl, rfl⟩))
    | (go_at_call 33; go_must ((with_reducible refine (CloneU_calls _ _ _ xs _ HN.out hat (by omega)).mono ?_); rintro e w2 ⟨a2, c2, rfl, hown2, hb2⟩; have hT2 : Turned F0 w w2 := Turned.ofBelow hb2; have hJ2 := HK.out 0 F0 w w2 h0 hb2; have hcap2 := hown2.cap.1; have hf2 : ∀ q, a2.map (·.block) = some q → w.heap.size ≤ q ∧ q < w2.heap.size ∧ q ∉ F0 := fun q hq => ⟨(hown2.blk q hq).1, (hown2.blk q hq).2, fun hm => by have h1 := HLT.out _ _ _ h0 q hm; have h2 := (hown2.blk q hq).1; omega⟩))
    | (go_at_call 35; go_must ((with_reducible refine (HCA.out 0 F0 _ a2 c2 (by omega) hJ2 (by rw [HI0.out]; exact hown2.at_) (by rw [HN.out]; exact hcap2) hf2 hT2).mono ?_); rintro e w3 ⟨rfl, F3, hJ3, hT23, hF3⟩)))
  have hT3 := hT2.trans hT23 (fun q hq => .inl hq)
  have hat3 := hown2.at_.turned hT23 (fun _ q hq e => (hf2 q e).2.2 hq)
  have hs2 := hT2.size
  have hs3 := hT3.size
  have hs23 := hT23.size
  rw [← HI0.out] at hat3
  have HF3 := hide hF3
  have hf3 : ∀ q, a2.map (·.block) = some q → w.heap.size ≤ q ∧ q < w3.heap.size ∧ q ∉ F3 := fun q hq => ⟨(hf2 q hq).1, by have := (hf2 q hq).2.1; omega, fun hm => by
    rcases HF3.out q hm with h1 | h1
    · exact (hf2 q hq).2.2 h1
    · have := (hf2 q hq).2.1; omega⟩
  have hF3' : ∀ q ∈ F3, q ∈ F0 ∨ w.heap.size ≤ q := fun q hq => (HF3.out q hq).imp id (fun h1 => by omega)
  have hcap3 : n ≤ c2 := by rw [HN.out]; exact hcap2
  clear hown2 hb2 hJ2 hf2 hcap2 hF3
  go_loopw [1, 10, 24] (fun xv _ iv wr => ∃ (j : Nat) (F : List Nat) (b : Option Addr) (d : Nat), iv = .int .i64 j ∧ j ≤ lN ∧ xv = .slice b n d ∧ n ≤ d ∧ At wr b (c.iter xs j) ∧ Hid (∀ q, b.map (·.block) = some q → w.heap.size ≤ q ∧ q < wr.heap.size ∧ q ∉ F) ∧ Hid (J (j + 1) F wr) ∧ Hid (∀ q ∈ F, q ∈ F0 ∨ w.heap.size ≤ q) ∧ Turned F0 w wr) (fun _ _ iv _ => lN - (intOf iv).toNat)
  case atStart => exact ⟨0, F3, a2, c2, rfl, by omega, rfl, hcap3, hat3, hf3, hJ3, hF3', hT3⟩
  case round =>
    clear hat3 hf3 hJ3 hF3' hcap3 hT23 hT2 HF3 hT3 hs2 hs3 hs23
    obtain ⟨j, F, b, d, rfl, hj, rfl, hnd, hatj, hfj, hJj, hFj, hTj⟩ := hrel
    have hsj := hTj.size
    by_cases hlt : j < lN
    · obtain ⟨v, hv⟩ : ∃ v : UInt64, v.toNat = j := ⟨UInt64.ofNat j, by rw [UInt64.toNat_ofNat', Nat.mod_eq_of_lt (by omega)]⟩
      have hvj : ((v.toNat : Nat) : Int) = (j : Int) := by rw [hv]
      have HST := hide (StepGood_calls g c hc v b n d (c.iter xs j) wr (HC.out wr hTj) hatj (HNE.out j).symm hnd hx (by omega) (c.iter xs (j + 1)) (by rw [ChD.iter, hvj]))
      rw [hvj] at HST
      clear hv hvj
      go_wp2_with (first
        | (go_at_call 54; go_must ((with_reducible refine (HST.out).mono ?_); rintro e w5 ⟨a5, c5, rfl, hcap5, hat5, hfr5, hb5⟩; have hT5 := hTj.trans (Turned.ofBelow (F := F0) hb5) (fun q hq => .inl hq); have hJ5 := HK.out (j + 1) F wr w5 hJj.out hb5; have hf5 : ∀ q, a5.map (·.block) = some q → w.heap.size ≤ q ∧ q < w5.heap.size ∧ q ∉ F := fun q hq => ⟨Nat.le_trans hsj (hfr5 q hq).1, (hfr5 q hq).2, fun hm => by have h1 := HLT.out _ _ _ hJj.out q hm; have h2 := (hfr5 q hq).1; omega⟩))
        | (go_at_call 35; go_must ((with_reducible refine (HCA.out (j + 1) F _ a5 c5 (by omega) hJ5 hat5 hcap5 hf5 hT5).mono ?_); rintro e w6 ⟨rfl, F6, hJ6, hT56, hF6⟩)))
      go_roundw
      case rel =>
        have hs5 := hb5.size
        have hs6 := hT56.size
        have hFs : ∀ q ∈ F, q ∈ F0 ∨ w.heap.size ≤ q := hFj.out
        have hT6 : Turned F0 w w6 := hT5.trans hT56 (fun q hq => hFs q hq)
        exact ⟨j + 1, F6, a5, c5, by go_num, by omega, rfl, hcap5, hat5.turned hT56 (fun _ q hq e => (hf5 q e).2.2 hq), hide (fun q hq => ⟨(hf5 q hq).1, by have := (hf5 q hq).2.1; omega, fun hm => by
          rcases hF6 q hm with h1 | h1
          · exact (hf5 q hq).2.2 h1
          · have := (hf5 q hq).2.1; omega⟩), hide hJ6, hide (fun q hq => by
          rcases hF6 q hq with h1 | h1
          · exact hFs q h1
          · have := hT5.size; exact .inr (by omega)), hT6⟩
      case measure => simp [intOf]; omega
    · obtain rfl : lN = j := by omega
      go_wp2
      go_ret
      exact ⟨rfl, F, hJj.out, hTj⟩
end Go.Proofs.YtmmepffdjmpblaaGreat

/- Chapter 23: what sees states: a row, the last one; States, Run. -/
namespace Go.Proofs.YtmmepffdjmpblaaGreat
set_option linter.unusedVariables false
set_option linter.unusedSimpArgs false
open Go.RowKit
theorem tyUU : Ty Tryz.prog 47 25 Hd := Ty.of (z := .slice none 0 0) (size := 1) (bytes := 24) Tryz.underlying47 (by kernel_rfl) rfl (by decide) rfl
theorem OwnL.mono {w : World} {B B' : Nat} {E : TypeId} {a : Option Addr} {c : Nat} {hs : List Hd} {ls : List (List UInt64)} (h : OwnL w B E a c hs ls) (hB : B' ≤ B) : OwnL w B' E a c hs ls :=
  ⟨h.1.mono hB, h.2.1, fun i x l hx hl => let ⟨e1, e2, e3, e4⟩ := h.2.2 i x l hx hl; ⟨e1, e2, e3, fun h0 => let ⟨g, g1, g2, g3⟩ := e4 h0; ⟨g, g1, Nat.le_trans hB g2, g3⟩⟩⟩
/-- the first states -/
noncomputable def ChD.firsts (c : ChD) (xs : List UInt64) (j : Nat) : List (List UInt64) := (List.range j).map (c.iter xs)
theorem ChD.firsts_succ (c : ChD) (xs : List UInt64) (j : Nat) : c.firsts xs j ++ [c.iter xs j] = c.firsts xs (j + 1) := by unfold ChD.firsts; rw [List.range_succ, List.map_append]; rfl
theorem ChD.firsts_length (c : ChD) (xs : List UInt64) (j : Nat) : (c.firsts xs j).length = j := by unfold ChD.firsts; simp
/-- a row holds the first states -/
def JS (B r : Nat) (c : ChD) (xs : List UInt64) (j : Nat) (F : List Nat) (w : World) : Prop :=
  ∃ ao co hs, F = r :: (ao.map (·.block)).toList ∧ Blk w r 81 #[.slice ao j co] ∧ OwnL w B 25 ao co hs (c.firsts xs j)
theorem JS.keep {B r : Nat} {c : ChD} {xs : List UInt64} {j : Nat} {F : List Nat} {w w' : World} (h : JS B r c xs j F w) (hb : Below w.heap.size w w') : JS B r c xs j F w' := by
  obtain ⟨ao, co, hs, rfl, h1, h2⟩ := h
  exact ⟨ao, co, hs, rfl, h1.belowN hb, h2.belowN hb⟩
theorem JS.lt {B r : Nat} {c : ChD} {xs : List UInt64} {j : Nat} {F : List Nat} {w : World} (h : JS B r c xs j F w) : ∀ b ∈ F, b < w.heap.size := by
  obtain ⟨ao, co, hs, rfl, h1, h2⟩ := h
  intro b hb
  simp at hb
  rcases hb with rfl | hb
  · exact h1.lt
  · exact (h2.1.blk b (by simpa using hb)).2
/-- a variable holds the last state -/
def JR (p n : Nat) (c : ChD) (xs : List UInt64) (j : Nat) (F : List Nat) (w : World) : Prop :=
  F = [p] ∧ ∃ v, Blk w p 25 #[v] ∧ (1 ≤ j → ∃ b d, v = .slice b n d ∧ n ≤ d ∧ At w b (c.iter xs (j - 1)))
theorem JR.keep {p n : Nat} {c : ChD} {xs : List UInt64} {j : Nat} {F : List Nat} {w w' : World} (h : JR p n c xs j F w) (hb : Below w.heap.size w w') : JR p n c xs j F w' := by
  obtain ⟨rfl, v, h1, h2⟩ := h
  exact ⟨rfl, v, h1.belowN hb, fun hj => let ⟨b, d, e1, e2, e3⟩ := h2 hj; ⟨b, d, e1, e2, e3.belowN hb⟩⟩
theorem JR.lt {p n : Nat} {c : ChD} {xs : List UInt64} {j : Nat} {F : List Nat} {w : World} (h : JR p n c xs j F w) : ∀ b ∈ F, b < w.heap.size := by
  obtain ⟨rfl, v, h1, h2⟩ := h
  intro b hb
  simp at hb
  rw [hb]; exact h1.lt
theorem Last_calls (p n : Nat) (c : ChD) (xs : List UInt64) (j : Nat) (F : List Nat) (b : Option Addr) (d : Nat) (w : World) (h : JR p n c xs j F w) (hat : At w b (c.iter xs j)) (hnd : n ≤ d) (hb : ∀ q, b.map (·.block) = some q → q ∉ F) :
    Calls Tryz.prog 36 #[.slice b n d, .pointer (some ⟨p, 0, none⟩)] w fun e w2 => e = .returned (.tuple #[]) ∧ ∃ F', JR p n c xs (j + 1) F' w2 ∧ Turned F w w2 ∧ ∀ q ∈ F', q ∈ F ∨ w.heap.size ≤ q := by
  obtain ⟨rfl, v, h1, h2⟩ := h
  obtain ⟨p0, p1⟩ := h1.c1
  have hT : Turned [p] w (w.setCell ⟨p, 0, none⟩ (.slice b n d)) := Turned.ofGrown (F := [p]) (grown_setCell w p 0 _) (fun q hq => .inl (by injection hq with hq; simp [hq]))
  have hat2 := hat.turned hT (fun _ q hq e => hb q e hq)
  have h3 := h1.set_ 0 (.slice b n d)
  go_enter Tryz.func36, Tryz.ntmps36
  go_wp2
  go_end0
  exact ⟨rfl, [p], ⟨rfl, _, h3, fun _ => ⟨b, d, rfl, hnd, hat2⟩⟩, hT, fun q hq => .inl hq⟩
theorem Add_calls (B r n : Nat) (hr : r < B) (c : ChD) (xs : List UInt64) (j : Nat) (hj : j ≤ 1000000) (F : List Nat) (b : Option Addr) (d : Nat) (w : World) (h : JS B r c xs j F w) (hat : At w b (c.iter xs j)) (hn : n = (c.iter xs j).length) (hnd : n ≤ d) (hb : ∀ q, b.map (·.block) = some q → B ≤ q ∧ q ∉ F) (hB : B ≤ w.heap.size) :
    Calls Tryz.prog 35 #[.pointer (some ⟨r, 0, none⟩), .slice b n d] w fun e w2 => e = .returned (.tuple #[]) ∧ ∃ F', JS B r c xs (j + 1) F' w2 ∧ Turned F w w2 ∧ ∀ q ∈ F', q ∈ F ∨ w.heap.size ≤ q := by
  obtain ⟨ao, co, hs, rfl, h1, h2⟩ := h
  obtain ⟨p0, p1⟩ := h1.c1
  have hjs : j = hs.length := by rw [h2.2.1, ChD.firsts_length]
  have hne : c.iter xs j ≠ [] → ∃ g, b.map (·.block) = some g ∧ B ≤ g ∧ ao.map (·.block) ≠ some g := fun h0 => by
    obtain ⟨g, off, rfl, _⟩ := hat.lt h0
    obtain ⟨q1, q2⟩ := hb g rfl
    exact ⟨g, rfl, q1, fun e => q2 (by simp [e])⟩
  have hrao : ao.map (·.block) ≠ some r := fun e => by have := (h2.1.blk r e).1; omega
  have hrl := h1.lt
  have hown := h2.1
  have HJ := hide hjs
  clear hjs
  subst hn
  go_enter Tryz.func35, Tryz.ntmps35
  go_wp2_with (at_builtin; refine wpList_push tyUU hown (⟨b, (c.iter xs j).length, d⟩ : Hd) rfl rfl rfl rfl rfl rfl HJ.out hB (by omega) ?_; intro a3 c3 w3 hown3 hg3 hm3; have h13 := h1.grown hg3 (fun e => hrao e.symm); obtain ⟨q0, q1⟩ := h13.c1)
  go_end0
  have hpush := (h2.push hat hnd hne hown3 hg3 hm3).setCell (p := ⟨r, 0, none⟩) hr (.slice a3 (j + 1) c3)
  rw [c.firsts_succ xs j] at hpush
  have hs3 := hg3.size
  refine ⟨rfl, r :: (a3.map (·.block)).toList, ⟨a3, c3, _, rfl, h13.set_ 0 (.slice a3 (j + 1) c3), hpush⟩, (Turned.ofGrown hg3 (fun q hq => .inl (by simp [hq]))).trans (Turned.ofGrown (F := [r]) (grown_setCell w3 r 0 _) (fun q hq => .inl (by injection hq with hq; simp [hq]))) (fun q hq => .inl (by simp at hq; simp [hq])), fun q hq => ?_⟩
  simp only [List.mem_cons, Option.mem_toList, Option.mem_def] at hq ⊢
  rcases hq with rfl | hq
  · exact .inl (.inl rfl)
  · rcases hm3 with e | ⟨g', e, hle⟩
    · exact .inl (.inr (by have := e.symm.trans hq; simpa using this))
    · rw [e] at hq; injection hq with hq; exact .inr (by omega)
theorem StatesBad_calls (g : Nat) (c : ChD) (t : Int) (a : Option Addr) (n k : Nat) (w : World) (h : ChAt w g c) (hn : n ≤ 1000000) (E : Int) (hE : c.may t n = E) (h0 : E ≠ 0) :
    Calls Tryz.prog 15 #[.pointer (some ⟨g, 0, none⟩), .slice a n k, .int .i64 t] w fun e w' => e = .returned (.tuple #[.slice none 0 0, .int .i64 E]) ∧ Below w.heap.size w w' := by
  have hb := below_new w (.cells #[.slice none 0 0] 81)
  have HM := hide (EachBad_calls g c t a n k (.func (.func 35) #[.pointer (some ⟨w.heap.size, 0, none⟩)] #[]) _ (h.belowN hb) hn E hE h0)
  have hX := Blk.new w 81 #[.slice none 0 0]
  obtain ⟨p0, p1⟩ := hX.c1
  clear h0 hE
  go_enter Tryz.func15, Tryz.ntmps15
  go_wp2_with (go_at_call 34; go_must ((with_reducible refine (HM.out).mono ?_); rintro e w1 ⟨rfl, rfl⟩))
  go_ret2
  exact ⟨rfl, hb⟩
set_option maxHeartbeats 1600000 in
theorem StatesGood_calls (g : Nat) (c : ChD) (hc : c.Ok) (lN : Nat) (hl : lN < 65536) (a : Option Addr) (n k : Nat) (xs : List UInt64) (w : World) (h : ChAt w g c) (hat : At w a xs) (hn : n = xs.length) (hnk : n ≤ k) (hx : (n : Int) = c.x) :
    Calls Tryz.prog 15 #[.pointer (some ⟨g, 0, none⟩), .slice a n k, .int .i64 (lN : Int)] w fun e w' => ∃ a' c' hs, e = .returned (.tuple #[.slice a' (lN + 1) c', .int .i64 0]) ∧ OwnL w' w.heap.size 25 a' c' hs (c.states xs lN) ∧ Below w.heap.size w w' := by
  have hb := below_new w (.cells #[.slice none 0 0] 81)
  have hX := Blk.new w 81 #[.slice none 0 0]
  obtain ⟨w0, hw0⟩ : ∃ w0, w0 = w.alloc (.cells #[.slice none 0 0] 81) := ⟨_, rfl⟩
  have hz0 : w0.heap.size = w.heap.size + 1 := by rw [hw0]; simp
  have HW := hide hw0
  rw [← hw0] at hb hX
  have hx2 := hc.x2
  have hC : ∀ w1, Turned [w.heap.size] w0 w1 → ChAt w1 g c := fun w1 hT => h.belowN (Turned.below hb hT (by simp) (by omega))
  have hlen : ∀ j, n = (c.iter xs j).length := fun j => by have := ChD.iter_length hc (xs := xs) (by rw [← hn]; exact hx) j; omega
  have HE := hide (EachS_calls (.pointer (some ⟨w.heap.size, 0, none⟩)) g c hc lN hl a n k xs w0 (h.belowN hb) (hat.belowN hb) hn hnk hx (JS w0.heap.size w.heap.size c xs) [w.heap.size] hC (fun j F w w' hJ hb => hJ.keep hb) (fun j F w hJ => hJ.lt)
    (fun j F w1 b d hj hJ hat' hnd hf hT => Add_calls w0.heap.size w.heap.size n (by omega) c xs j (by omega) F b d w1 hJ hat' (hlen j) hnd (fun q hq => ⟨(hf q hq).1, (hf q hq).2.2⟩) hT.size)
    ⟨none, 0, [], rfl, hX, OwnL.none _ _ _⟩)
  rw [hw0] at HE
  have HS := hide (show c.firsts xs (lN + 1) = c.states xs lN from rfl)
  clear hC hlen hw0 hX hn
  go_enter Tryz.func15, Tryz.ntmps15
  go_wp2_with (go_at_call 34; go_must ((with_reducible refine (HE.out).mono ?_); rintro e w1 ⟨rfl, F, ⟨ao, co, hs, hF, hb1, hown⟩, hT⟩; obtain ⟨p0, p1⟩ := hb1.c1))
  go_ret2
  rw [← HW.out] at hT hown
  rw [HS.out] at hown
  exact ⟨ao, co, hs, rfl, hown.mono (by omega), Turned.below hb hT (by simp) (by omega)⟩
theorem CRunBad_calls (g : Nat) (c : ChD) (t : Int) (a : Option Addr) (n k : Nat) (w : World) (h : ChAt w g c) (hn : n ≤ 1000000) (E : Int) (hE : c.may t n = E) (h0 : E ≠ 0) :
    Calls Tryz.prog 16 #[.pointer (some ⟨g, 0, none⟩), .slice a n k, .int .i64 t] w fun e w' => e = .returned (.tuple #[.slice none 0 0, .int .u64 0, .int .i64 E]) ∧ Below w.heap.size w w' := by
  have hb := below_new w (.cells #[.slice none 0 0] 25)
  have HM := hide (EachBad_calls g c t a n k (.func (.func 36) #[] #[.pointer (some ⟨w.heap.size, 0, none⟩)]) _ (h.belowN hb) hn E hE h0)
  have e1 : (E == 0) = false := by simpa using h0
  have e2 : (E != 0) = true := by simpa using h0
  clear h0 hE
  go_enter Tryz.func16, Tryz.ntmps16
  go_wp2_with (go_at_call 34; go_must ((with_reducible refine (HM.out).mono ?_); rintro e w1 ⟨rfl, rfl⟩))
  go_ret3
  exact ⟨rfl, hb⟩
set_option maxHeartbeats 1600000 in
theorem CRunGood_calls (g : Nat) (c : ChD) (hc : c.Ok) (lN : Nat) (hl : lN < 65536) (a : Option Addr) (n k : Nat) (xs : List UInt64) (w : World) (h : ChAt w g c) (hat : At w a xs) (hn : n = xs.length) (hnk : n ≤ k) (hx : (n : Int) = c.x) (R : UInt64) (hR : c.loss (c.iter xs lN) = R) :
    Calls Tryz.prog 16 #[.pointer (some ⟨g, 0, none⟩), .slice a n k, .int .i64 (lN : Int)] w fun e w' => ∃ a' k', e = .returned (.tuple #[.slice a' n k', .int .u64 (R.toNat : Int), .int .i64 0]) ∧ n ≤ k' ∧ At w' a' (c.iter xs lN) ∧ Below w.heap.size w w' := by
  have hb := below_new w (.cells #[.slice none 0 0] 25)
  have hX := Blk.new w 25 #[.slice none 0 0]
  obtain ⟨w0, hw0⟩ : ∃ w0, w0 = w.alloc (.cells #[.slice none 0 0] 25) := ⟨_, rfl⟩
  have hz0 : w0.heap.size = w.heap.size + 1 := by rw [hw0]; simp
  have HW := hide hw0
  rw [← hw0] at hb hX
  have hx2 := hc.x2
  have hC : ∀ w1, Turned [w.heap.size] w0 w1 → ChAt w1 g c := fun w1 hT => h.belowN (Turned.below hb hT (by simp) (by omega))
  have hlen : ∀ j, n = (c.iter xs j).length := fun j => by have := ChD.iter_length hc (xs := xs) (by rw [← hn]; exact hx) j; omega
  have HE := hide (EachR_calls (.pointer (some ⟨w.heap.size, 0, none⟩)) g c hc lN hl a n k xs w0 (h.belowN hb) (hat.belowN hb) hn hnk hx (JR w.heap.size n c xs) [w.heap.size] hC (fun j F w w' hJ hb => hJ.keep hb) (fun j F w hJ => hJ.lt)
    (fun j F w1 b d hj hJ hat' hnd hf hT => Last_calls w.heap.size n c xs j F b d w1 hJ hat' hnd (fun q hq => (hf q hq).2.2))
    ⟨rfl, _, hX, fun h0 => by omega⟩)
  rw [hw0] at HE
  have HC := hide hC
  have HR := hide hR
  have HLN := hide (hlen lN)
  have HB := hide hb
  clear hC hlen hw0 hX hR hb hn
  go_enter Tryz.func16, Tryz.ntmps16
  go_wp2_with (first
    | (go_at_call 34; go_must ((with_reducible refine (HE.out).mono ?_); rintro e w1 ⟨rfl, F, ⟨rfl, v, hb1, hlast⟩, hT⟩; obtain ⟨b, d, rfl, hnd, hatb⟩ := hlast (by omega); rw [Nat.add_sub_cancel] at hatb; obtain ⟨p0, p1⟩ := hb1.c1; rw [← HW.out] at hT; have hch1 := HC.out w1 hT; have hB1 := Turned.below HB.out hT (by simp) (by omega)))
    | (go_at_call 37; go_must ((with_reducible refine (LossGood_calls g c hc b n d (c.iter xs lN) w1 hch1 hatb HLN.out hnd hx R HR.out).mono ?_); rintro e w2 ⟨rfl, hb2⟩; obtain ⟨q0, q1⟩ := (hb1.belowN hb2).c1)))
  go_ret3
  have hz1 := hB1.size
  exact ⟨b, d, rfl, hnd, hatb.belowN hb2, hB1.trans (hb2.mono hz1)⟩
end Go.Proofs.YtmmepffdjmpblaaGreat

/- Chapters 10, 23: the document's Pair, Dims, New. -/
namespace Go.Proofs.YtmmepffdjmpblaaGreat
set_option linter.unusedVariables false
set_option linter.unusedSimpArgs false
open Go.RowKit
theorem Dims10_calls (p q : PrD) (x t : Int) (hx : -9223372036854775808 ≤ x ∧ x ≤ 9223372036854775807) (ht : -9223372036854775808 ≤ t ∧ t ≤ 9223372036854775807) (w : World) :
    Calls Tryz.prog 39 #[.agg #[.int .i64 p.regs, .slice p.a p.l.length p.c], .agg #[.int .i64 q.regs, .slice q.a q.l.length q.c], .int .i64 x, .int .i64 t] w fun e w' => e = .returned (.int .i64 (dimsC p.regs q.regs x t)) ∧ Below w.heap.size w w' := by
  have hb0 : Below w.heap.size w ((w.alloc (.cells #[.int .i64 p.regs, .slice p.a p.l.length p.c] 24)).alloc (.cells #[.int .i64 q.regs, .slice q.a q.l.length q.c] 24)) := ((below_new _ _).alloc (by simp) _)
  go_enter Tryz.func39, Tryz.ntmps39
  go_wp2
  all_goals
    go_ret
    refine ⟨?_, hb0⟩
    unfold dimsC
    first
      | (rw [if_pos (by omega)] <;> rfl)
      | (rw [if_neg (by omega)] <;> rfl)
set_option maxHeartbeats 1600000 in
theorem Pair10_calls (p q : PrD) (w : World) (h : At w p.a p.l) (hl : p.l.length ≤ 1000000) (h' : At w q.a q.l) (hl' : q.l.length ≤ 1000000) (R : Int) (hR : pairS p q = R) :
    Calls Tryz.prog 38 #[.agg #[.int .i64 p.regs, .slice p.a p.l.length p.c], .agg #[.int .i64 q.regs, .slice q.a q.l.length q.c]] w fun e w' => e = .returned (.int .i64 R) ∧ Below w.heap.size w w' := by
  have hb0 : Below w.heap.size w ((w.alloc (.cells #[.int .i64 p.regs, .slice p.a p.l.length p.c] 24)).alloc (.cells #[.int .i64 q.regs, .slice q.a q.l.length q.c] 24)) := ((below_new _ _).alloc (by simp) _)
  have hX := (Blk.new w 24 #[.int .i64 p.regs, .slice p.a p.l.length p.c]).alloc (.cells #[.int .i64 q.regs, .slice q.a q.l.length q.c] 24)
  have hY := Blk.new (w.alloc (.cells #[.int .i64 p.regs, .slice p.a p.l.length p.c] 24)) 24 #[.int .i64 q.regs, .slice q.a q.l.length q.c]
  simp only [World.size_alloc] at hY
  have h1 := h.belowN hb0
  have h2 := h'.belowN hb0
  have HL := hide (fun k hk w' (g : At w' p.a p.l) => Look_calls k hk p.regs p.a p.c p.l w' g hl)
  have HM := hide (fun k hk w' (g : At w' q.a q.l) => Look_calls k hk q.regs q.a q.c q.l w' g hl')
  have hR2 : R = firstL [p, q] [0, 1, 2, 3] := hR.symm
  have HR := hide hR2
  clear hR hR2
  go_enter Tryz.func38, Tryz.ntmps38
  go_wp2
  obtain ⟨W0, hW0⟩ : ∃ W0, W0 = (w.alloc (.cells #[.int .i64 p.regs, .slice p.a p.l.length p.c] 24)).alloc (.cells #[.int .i64 q.regs, .slice q.a q.l.length q.c] 24) := ⟨_, rfl⟩
  rw [← hW0] at hX hY h1 h2 hb0 ⊢
  clear hW0
  go_loopw [5, 6, 7] (fun i _ _ wr => ∃ k : Nat, i = .int .i64 k ∧ k ≤ 4 ∧ Hid (R = firstL [p, q] ([0, 1, 2, 3].drop k)) ∧ Below W0.heap.size W0 wr) (fun i _ _ _ => 4 - (intOf i).toNat)
  case atStart => exact ⟨0, rfl, by omega, HR.out, Below.refl _ _⟩
  case round =>
    obtain ⟨k, rfl, hk, hRk, hbr⟩ := hrel
    obtain ⟨q0, q1, q2, q3⟩ := (hX.belowN hbr).c2
    obtain ⟨r0, r1, r2, r3⟩ := (hY.belowN hbr).c2
    by_cases hlt : k < 4
    · have hR2 : R = if rowE k [p, q] ≠ 0 then rowE k [p, q] else firstL [p, q] ([0, 1, 2, 3].drop (k + 1)) := by
        rw [hRk.out]
        have h4 : k = 0 ∨ k = 1 ∨ k = 2 ∨ k = 3 := by omega
        rcases h4 with rfl | rfl | rfl | rfl <;> rfl
      have hrow : rowE k [p, q] = if errI k p ≠ 0 then errI k p else errI k q := by
        rw [rowE, rowE_one]
      rw [hrow] at hR2
      have HC := hide (HL.out k hlt wr (h1.belowN hbr))
      have HD := hide (fun w' (hb : Below wr.heap.size wr w') => HM.out k hlt w' ((h2.belowN hbr).belowN hb))
      obtain ⟨E, hE⟩ : ∃ E, E = errI k p := ⟨_, rfl⟩
      obtain ⟨F, hF⟩ : ∃ F, F = errI k q := ⟨_, rfl⟩
      have hE' : errI k ⟨p.regs, p.a, p.c, p.l⟩ = E := hE.symm
      have hF' : errI k ⟨q.regs, q.a, q.c, q.l⟩ = F := hF.symm
      rw [hE'] at HC
      simp only [hF'] at HD
      rw [← hE, ← hF] at hR2
      have HR2 := hide hR2
      clear hE hF hR2 hRk hE' hF' hrow
      by_cases hE0 : E = 0
      · obtain rfl := hE0
        by_cases hF0 : F = 0
        · obtain rfl := hF0
          go_wp2_with (go_at_call 56; first
            | ((with_reducible refine (HD.out _ hb1).mono ?_); rintro e w2 ⟨rfl, hb2⟩)
            | ((with_reducible refine (HC.out).mono ?_); rintro e w1 ⟨rfl, hb1⟩; obtain ⟨s0, s1, s2, s3⟩ := ((hX.belowN hbr).belowN hb1).c2; obtain ⟨t0, t1, t2, t3⟩ := ((hY.belowN hbr).belowN hb1).c2))
          go_roundw
          case rel => exact ⟨k + 1, by go_num, by omega, by show R = _; rw [HR2.out]; rfl, (hbr.trans (hb1.mono hbr.size)).trans (hb2.mono (Nat.le_trans hbr.size hb1.size))⟩
          case measure => simp [intOf]; omega
        · have hE1 : (F == 0) = false := by simpa using hF0
          have hE2 : (F != 0) = true := by simpa using hF0
          have HF0 := hide hF0
          clear hF0
          go_wp2_with (go_at_call 56; first
            | ((with_reducible refine (HD.out _ hb1).mono ?_); rintro e w2 ⟨rfl, hb2⟩)
            | ((with_reducible refine (HC.out).mono ?_); rintro e w1 ⟨rfl, hb1⟩; obtain ⟨s0, s1, s2, s3⟩ := ((hX.belowN hbr).belowN hb1).c2; obtain ⟨t0, t1, t2, t3⟩ := ((hY.belowN hbr).belowN hb1).c2))
          go_ret
          have hRF : R = F := by rw [HR2.out]; simp [HF0.out]
          exact ⟨by rw [hRF] <;> rfl, hb0.trans (((hbr.trans (hb1.mono hbr.size)).trans (hb2.mono (Nat.le_trans hbr.size hb1.size))).mono hb0.size)⟩
      · have hE1 : (E == 0) = false := by simpa using hE0
        have hE2 : (E != 0) = true := by simpa using hE0
        have HE0 := hide hE0
        clear hE0
        go_wp2_with (go_at_call 56; ((with_reducible refine (HC.out).mono ?_); rintro e w1 ⟨rfl, hb1⟩))
        go_ret
        exact ⟨by rw [HR2.out, if_pos HE0.out, if_pos HE0.out] <;> rfl, hb0.trans ((hbr.trans (hb1.mono hbr.size)).mono hb0.size)⟩
    · obtain rfl : k = 4 := by omega
      go_wp2
      go_ret
      exact ⟨by rw [hRk.out] <;> rfl, hb0.trans (hbr.mono hb0.size)⟩
theorem New23_calls (c : ChD) (ta : Option Addr) (tc : Nat) (w : World) (h : At w c.p.a c.p.l) (hl : c.p.l.length ≤ 1000000) (h' : At w c.q.a c.q.l) (hl' : c.q.l.length ≤ 1000000) (hx : -9223372036854775808 ≤ c.x ∧ c.x ≤ 9223372036854775807) (hn : c.th.length ≤ 1000000) (E : Int) (hE : c.bad = E) :
    Calls Tryz.prog 18 #[.agg #[.int .i64 c.p.regs, .slice c.p.a c.p.l.length c.p.c, .int .i64 c.q.regs, .slice c.q.a c.q.l.length c.q.c, .int .i64 c.x, .slice ta c.th.length tc]] w fun e w' => e = .returned (.int .i64 E) ∧ Below w.heap.size w w' := by
  have hb0 := below_new w (.cells #[.int .i64 c.p.regs, .slice c.p.a c.p.l.length c.p.c, .int .i64 c.q.regs, .slice c.q.a c.q.l.length c.q.c, .int .i64 c.x, .slice ta c.th.length tc] 27)
  have hX := Blk.new w 27 #[.int .i64 c.p.regs, .slice c.p.a c.p.l.length c.p.c, .int .i64 c.q.regs, .slice c.q.a c.q.l.length c.q.c, .int .i64 c.x, .slice ta c.th.length tc]
  have h1 := h.belowN hb0
  have h2 := h'.belowN hb0
  obtain ⟨P, hP⟩ : ∃ P, pairS c.p c.q = P := ⟨_, rfl⟩
  unfold ChD.bad at hE
  rw [hP] at hE
  have HP := hide hP
  clear hP
  by_cases hP0 : P = 0
  · subst hP0
    rw [if_neg (by simp)] at hE
    have HD := hide (fun w => hE ▸ Dims10_calls c.p c.q c.x (c.th.length : Int) hx (by omega) w)
    clear hE
    go_enter Tryz.func18, Tryz.ntmps18
    go_wp2_with (first
      | (go_at_call 38; go_must ((with_reducible refine (Pair10_calls c.p c.q _ h1 hl h2 hl' 0 HP.out).mono ?_); rintro e w1 ⟨rfl, hb1⟩; have hB1 := hb0.trans (hb1.mono hb0.size); have hz1 := hB1.size; obtain ⟨p0, p1, p2, p3, p4, p5, p6, p7, p8, p9, p10, p11⟩ := (hX.belowN hb1).c6))
      | (go_at_call 39; go_must ((with_reducible refine (HD.out _).mono ?_); rintro e w2 ⟨rfl, hb2⟩)))
    go_ret
    exact ⟨rfl, hB1.trans (hb2.mono hz1)⟩
  · rw [if_pos hP0] at hE
    subst hE
    have e1 : (P == 0) = false := by simpa using hP0
    have e2 : (P != 0) = true := by simpa using hP0
    clear hP0
    go_enter Tryz.func18, Tryz.ntmps18
    go_wp2_with (go_at_call 38; go_must ((with_reducible refine (Pair10_calls c.p c.q _ h1 hl h2 hl' P HP.out).mono ?_); rintro e w1 ⟨rfl, hb1⟩; have hB1 := hb0.trans (hb1.mono hb0.size)))
    go_ret
    exact ⟨rfl, hB1⟩
end Go.Proofs.YtmmepffdjmpblaaGreat

/- Chapter 23: the document's steps and losses. -/
namespace Go.Proofs.YtmmepffdjmpblaaGreat
set_option linter.unusedVariables false
set_option linter.unusedSimpArgs false
open Go.RowKit
set_option maxHeartbeats 1600000 in
theorem Begin_calls (c : ChD) (ta : Option Addr) (tc : Nat) (v : UInt64) (hv : v.toNat < 65536) (a : Option Addr) (n k : Nat) (xs : List UInt64) (w : World) (h3 : At w ta c.th) (hat : At w a xs) (hn : n = xs.length) (hn1 : n ≤ 1000) (ht : c.th.length ≤ 1000) (tn : Nat) (htn : c.th.length = tn) (L : List UInt64) (hL : L = xs ++ c.th ++ [v]) (N : Nat) (hN : N = n + tn + 1) :
    Calls Tryz.prog 24 #[.agg #[.int .i64 c.p.regs, .slice c.p.a c.p.l.length c.p.c, .int .i64 c.q.regs, .slice c.q.a c.q.l.length c.q.c, .int .i64 c.x, .slice ta tn tc], .int .i64 (v.toNat : Int), .slice a n k] w fun e w' => ∃ a' c', e = .returned (.slice a' N c') ∧ Own w' w.heap.size 50 a' c' L ∧ Below w.heap.size w w' := by
  have hb0 : Below w.heap.size w ((w.alloc (.cells #[.int .i64 c.p.regs, .slice c.p.a c.p.l.length c.p.c, .int .i64 c.q.regs, .slice c.q.a c.q.l.length c.q.c, .int .i64 c.x, .slice ta tn tc] 27)).alloc (.cells #[.int .u64 (v.toNat : Int)] 50)) := (below_new _ _).alloc (by simp) _
  have hv1 := At.ofBlk (Blk.new (w.alloc (.cells #[.int .i64 c.p.regs, .slice c.p.a c.p.l.length c.p.c, .int .i64 c.q.regs, .slice c.q.a c.q.l.length c.q.c, .int .i64 c.x, .slice ta tn tc] 27)) 50 #[.int .u64 (v.toNat : Int)]) [v] rfl
  simp only [World.size_alloc] at hv1
  have h4 := h3.belowN hb0
  have h5 := hat.belowN hb0
  have hwr : IntKind.u64.wrap (v.toNat : Int) = (v.toNat : Int) := IntWalk.u64_in _ (by omega)
  rw [htn] at ht
  have HJ := hide (Joined_calls a ta (some ⟨w.heap.size + 1, 0, none⟩) k tc 1 n tn 1 xs c.th [v] _ hn htn.symm rfl h5 h4 hv1 (by omega) (by omega) (by omega))
  have HL := hide hL
  subst hN
  clear hn hL htn
  go_enter Tryz.func24, Tryz.ntmps24
  go_wp2_with (go_at_call 25; (try simp only [hwr]); go_must ((with_reducible refine (HJ.out).mono ?_); rintro e w1 ⟨a1, c1, rfl, hown, hb1⟩))
  go_ret
  rw [← HL.out] at hown
  exact ⟨a1, c1, rfl, hown.mono hb0.size, hb0.trans (hb1.mono hb0.size)⟩
end Go.Proofs.YtmmepffdjmpblaaGreat

/- Chapter 23: the document's states. -/
namespace Go.Proofs.YtmmepffdjmpblaaGreat
set_option linter.unusedVariables false
set_option linter.unusedSimpArgs false
open Go.RowKit
end Go.Proofs.YtmmepffdjmpblaaGreat

/- Chapter 23: Small, made. -/
namespace Go.Proofs.YtmmepffdjmpblaaGreat
set_option linter.unusedVariables false
set_option linter.unusedSimpArgs false
open Go.RowKit
theorem sizeW_bd (l : List OpD) : 0 ≤ sizeW l ∧ sizeW l ≤ 65536 := by
  cases hw : well l with
  | false => rw [(size_bad hw).2.1]; omega
  | true =>
    obtain ⟨f, hf, rfl⟩ := forest_of_well l hw
    rw [(sizes_flat hf).1]
    split
    · rename_i h; have := h.2; omega
    · omega
def smallC (c : ChD) (most : Int) : Bool := decide (c.p.l.length ≤ 60) && decide (c.q.l.length ≤ 60) && decide (c.th.length ≤ 100) && decide (sizeW c.p.l + sizeW c.q.l ≤ most)
set_option maxHeartbeats 1600000 in
theorem Small23_calls (c : ChD) (ta : Option Addr) (tc : Nat) (most : Int) (B : Bool) (hB : smallC c most = B) (w : World) (h : At w c.p.a c.p.l) (h' : At w c.q.a c.q.l) :
    Calls Tryz.prog 4 #[.agg #[.int .i64 c.p.regs, .slice c.p.a c.p.l.length c.p.c, .int .i64 c.q.regs, .slice c.q.a c.q.l.length c.q.c, .int .i64 c.x, .slice ta c.th.length tc], .int .i64 most] w fun e w' => e = .returned (.bool B) ∧ Below w.heap.size w w' := by
  have hb0 := below_new w (.cells #[.int .i64 c.p.regs, .slice c.p.a c.p.l.length c.p.c, .int .i64 c.q.regs, .slice c.q.a c.q.l.length c.q.c, .int .i64 c.x, .slice ta c.th.length tc] 27)
  have hX := Blk.new w 27 #[.int .i64 c.p.regs, .slice c.p.a c.p.l.length c.p.c, .int .i64 c.q.regs, .slice c.q.a c.q.l.length c.q.c, .int .i64 c.x, .slice ta c.th.length tc]
  have h1 := h.belowN hb0
  have h2 := h'.belowN hb0
  subst hB
  unfold smallC
  by_cases hs : c.p.l.length ≤ 60 ∧ c.q.l.length ≤ 60 ∧ c.th.length ≤ 100
  · obtain ⟨s1, s2, s3⟩ := hs
    have t1 : ¬ ((60 : Int) < (c.p.l.length : Int)) := by omega
    have t2 : ¬ ((60 : Int) < (c.q.l.length : Int)) := by omega
    have t3 : ¬ ((100 : Int) < (c.th.length : Int)) := by omega
    obtain ⟨P, hP⟩ : ∃ P, sizeW c.p.l = P := ⟨_, rfl⟩
    obtain ⟨Q, hQ⟩ : ∃ Q, sizeW c.q.l = Q := ⟨_, rfl⟩
    have b1 := sizeW_bd c.p.l
    have b2 := sizeW_bd c.q.l
    have HP := hide (Writes9_calls c.p.a c.p.c c.p.l _ h1 (by omega))
    have HQ := hide (fun w' (hb : Below (w.alloc (.cells #[.int .i64 c.p.regs, .slice c.p.a c.p.l.length c.p.c, .int .i64 c.q.regs, .slice c.q.a c.q.l.length c.q.c, .int .i64 c.x, .slice ta c.th.length tc] 27)).heap.size (w.alloc (.cells #[.int .i64 c.p.regs, .slice c.p.a c.p.l.length c.p.c, .int .i64 c.q.regs, .slice c.q.a c.q.l.length c.q.c, .int .i64 c.x, .slice ta c.th.length tc] 27)) w') => Writes9_calls c.q.a c.q.c c.q.l w' (h2.belowN hb) (by omega))
    rw [hP] at HP b1
    simp only [hQ] at HQ
    rw [hQ] at b2
    rw [hP, hQ]
    have hsum : IntKind.i64.wrap (P + Q) = P + Q := IntWalk.i64_in _ (by omega)
    have hd : (decide (c.p.l.length ≤ 60) && decide (c.q.l.length ≤ 60) && decide (c.th.length ≤ 100) && decide (P + Q ≤ most)) = decide (P + Q ≤ most) := by simp [s1, s2, s3]
    rw [hd]
    generalize sizeE c.p.l = E1 at *
    generalize sizeE c.q.l = E2 at *
    clear hP hQ hd
    go_enter Tryz.func4, Tryz.ntmps4
    go_wp2_with (go_at_call 12; first
      | ((with_reducible refine (HQ.out _ hb1).mono ?_); rintro e w2 ⟨rfl, hb2⟩)
      | ((with_reducible refine (HP.out).mono ?_); rintro e w1 ⟨rfl, hb1⟩; have hB1 := hb0.trans (hb1.mono hb0.size); have hz1 := hB1.size; obtain ⟨p0, p1, p2, p3, p4, p5, p6, p7, p8, p9, p10, p11⟩ := (hX.belowN hb1).c6))
    go_ret
    exact ⟨rfl, hB1.trans (hb2.mono hz1)⟩
  · have hd : (decide (c.p.l.length ≤ 60) && decide (c.q.l.length ≤ 60) && decide (c.th.length ≤ 100) && decide (sizeW c.p.l + sizeW c.q.l ≤ most)) = false := by
      rw [Bool.eq_false_iff]
      intro h
      simp only [Bool.and_eq_true, decide_eq_true_eq] at h
      exact hs ⟨h.1.1.1, h.1.1.2, h.1.2⟩
    rw [hd]
    clear hd
    by_cases u1 : c.p.l.length ≤ 60
    · by_cases u2 : c.q.l.length ≤ 60
      · have u3 : ¬ (c.th.length ≤ 100) := fun u3 => hs ⟨u1, u2, u3⟩
        clear hs
        have t1 : ¬ ((60 : Int) < (c.p.l.length : Int)) := by omega
        have t2 : ¬ ((60 : Int) < (c.q.l.length : Int)) := by omega
        have t3 : ((100 : Int) < (c.th.length : Int)) := by omega
        go_enter Tryz.func4, Tryz.ntmps4
        go_wp2
        go_ret
        exact ⟨rfl, hb0⟩
      · clear hs
        have t1 : ¬ ((60 : Int) < (c.p.l.length : Int)) := by omega
        have t2 : ((60 : Int) < (c.q.l.length : Int)) := by omega
        go_enter Tryz.func4, Tryz.ntmps4
        go_wp2
        go_ret
        exact ⟨rfl, hb0⟩
    · clear hs
      have t1 : ((60 : Int) < (c.p.l.length : Int)) := by omega
      go_enter Tryz.func4, Tryz.ntmps4
      go_wp2
      go_ret
      exact ⟨rfl, hb0⟩
set_option maxHeartbeats 1600000 in
theorem MadeBad_calls (c : ChD) (ta : Option Addr) (tc : Nat) (w : World) (h : At w c.p.a c.p.l) (hl : c.p.l.length ≤ 1000000) (h' : At w c.q.a c.q.l) (hl' : c.q.l.length ≤ 1000000) (hx : -9223372036854775808 ≤ c.x ∧ c.x ≤ 9223372036854775807) (hn : c.th.length ≤ 1000000) (h0 : c.bad ≠ 0) :
    Calls Tryz.prog 6 #[.agg #[.int .i64 c.p.regs, .slice c.p.a c.p.l.length c.p.c, .int .i64 c.q.regs, .slice c.q.a c.q.l.length c.q.c, .int .i64 c.x, .slice ta c.th.length tc]] w fun e w' => e = .returned (.tuple #[.pointer none, .bool true]) ∧ Below w.heap.size w w' := by
  have hb0 := below_new w (.cells #[.int .i64 c.p.regs, .slice c.p.a c.p.l.length c.p.c, .int .i64 c.q.regs, .slice c.q.a c.q.l.length c.q.c, .int .i64 c.x, .slice ta c.th.length tc] 27)
  have hX := Blk.new w 27 #[.int .i64 c.p.regs, .slice c.p.a c.p.l.length c.p.c, .int .i64 c.q.regs, .slice c.q.a c.q.l.length c.q.c, .int .i64 c.x, .slice ta c.th.length tc]
  have h1 := h.belowN hb0
  have h2 := h'.belowN hb0
  obtain ⟨E, hE⟩ : ∃ E, c.bad = E := ⟨_, rfl⟩
  rw [hE] at h0
  have HE := hide hE
  have e1 : (E == 0) = false := by simpa using h0
  have e3 : (E == E) = true := by simp
  have HN := hide (NewBad_calls c ta tc _ h1 hl h2 hl' hx hn E hE h0)
  clear hE h0
  go_enter Tryz.func6, Tryz.ntmps6
  go_wp2_with (first
    | (go_at_call 14; go_must ((with_reducible refine (HN.out).mono ?_); rintro e w1 ⟨rfl, hb1⟩; have hB1 := hb0.trans (hb1.mono hb0.size); have hz1 := hB1.size; obtain ⟨p0, p1, p2, p3, p4, p5, p6, p7, p8, p9, p10, p11⟩ := (hX.belowN hb1).c6; have h3 := h1.belowN hb1; have h4 := h2.belowN hb1))
    | (go_at_call 18; go_must ((with_reducible refine (New23_calls c ta tc _ h3 hl h4 hl' hx hn E HE.out).mono ?_); rintro e w2 ⟨rfl, hb2⟩)))
  go_ret2
  exact ⟨rfl, hB1.trans (hb2.mono hz1)⟩
set_option maxHeartbeats 1600000 in
theorem MadeGood_calls (c : ChD) (ta : Option Addr) (tc : Nat) (w : World) (h : At w c.p.a c.p.l) (hl : c.p.l.length ≤ 1000000) (h' : At w c.q.a c.q.l) (hl' : c.q.l.length ≤ 1000000) (h3 : At w ta c.th) (hx : -9223372036854775808 ≤ c.x ∧ c.x ≤ 9223372036854775807) (hn : c.th.length ≤ 1000000) (h0 : c.bad = 0) :
    Calls Tryz.prog 6 #[.agg #[.int .i64 c.p.regs, .slice c.p.a c.p.l.length c.p.c, .int .i64 c.q.regs, .slice c.q.a c.q.l.length c.q.c, .int .i64 c.x, .slice ta c.th.length tc]] w fun e w' => ∃ g, e = .returned (.tuple #[.pointer (some ⟨g, 0, none⟩), .bool true]) ∧ ChAt w' g c ∧ w.heap.size ≤ g ∧ Below w.heap.size w w' := by
  have hb0 := below_new w (.cells #[.int .i64 c.p.regs, .slice c.p.a c.p.l.length c.p.c, .int .i64 c.q.regs, .slice c.q.a c.q.l.length c.q.c, .int .i64 c.x, .slice ta c.th.length tc] 27)
  have hX := Blk.new w 27 #[.int .i64 c.p.regs, .slice c.p.a c.p.l.length c.p.c, .int .i64 c.q.regs, .slice c.q.a c.q.l.length c.q.c, .int .i64 c.x, .slice ta c.th.length tc]
  have h1 := h.belowN hb0
  have h2 := h'.belowN hb0
  have HE := hide h0
  have HN := hide (NewGood_calls c ta tc _ h1 hl h2 hl' (h3.belowN hb0) hx hn h0)
  clear h0
  go_enter Tryz.func6, Tryz.ntmps6
  go_wp2_with (first
    | (go_at_call 14; go_must ((with_reducible refine (HN.out).mono ?_); rintro e w1 ⟨g, rfl, hch, hg, hb1⟩; have hB1 := hb0.trans (hb1.mono hb0.size); have hz1 := hB1.size; obtain ⟨p0, p1, p2, p3, p4, p5, p6, p7, p8, p9, p10, p11⟩ := (hX.belowN hb1).c6; have h5 := h1.belowN hb1; have h4 := h2.belowN hb1))
    | (go_at_call 18; go_must ((with_reducible refine (New23_calls c ta tc _ h5 hl h4 hl' hx hn 0 HE.out).mono ?_); rintro e w2 ⟨rfl, hb2⟩)))
  go_ret2
  exact ⟨g, rfl, hch.belowN hb2, Nat.le_trans hb0.size hg, hB1.trans (hb2.mono hz1)⟩
end Go.Proofs.YtmmepffdjmpblaaGreat

/- Chapter 23: the page's example, plain; Sum. -/
namespace Go.Proofs.YtmmepffdjmpblaaGreat
set_option linter.unusedVariables false
set_option linter.unusedSimpArgs false
open Go.RowKit
theorem firstL_zero (p : PrD) : ∀ ks : List Nat, firstL [p] ks = 0 → ∀ k ∈ ks, errI k p = 0
  | [], _, k, hk => by simp at hk
  | j :: ks, h, k, hk => by
    simp only [firstL, rowE_one] at h
    by_cases h0 : errI j p = 0
    · rw [if_neg (by simpa using h0)] at h
      rcases List.mem_cons.1 hk with rfl | hk
      · exact h0
      · exact firstL_zero p ks h k hk
    · rw [if_pos h0] at h; exact absurd h h0
theorem firstL_both {p q : PrD} : ∀ ks : List Nat, (∀ k ∈ ks, errI k p = 0 ∧ errI k q = 0) → firstL [p, q] ks = 0
  | [], _ => rfl
  | j :: ks, h => by
    obtain ⟨h1, h2⟩ := h j (by simp)
    simp only [firstL, rowE, h1, h2, ne_eq, not_true_eq_false, if_false]
    exact firstL_both ks fun k hk => h k (by simp [hk])
theorem pairS_of {p q : PrD} (hp : checkS p.regs p.l = 0) (hq : checkS q.regs q.l = 0) : pairS p q = 0 :=
  firstL_both _ fun k hk => ⟨firstL_zero p _ ((firstS_one p).trans hp) k hk, firstL_zero q _ ((firstS_one q).trans hq) k hk⟩
def exP : Fo := .leaf ⟨1, 0, 0, 2, 0⟩ .nil
def exQ : Fo := .leaf ⟨3, 0, 0, 1, 0⟩ .nil
theorem exP_good : Good 3 exP := good_of_lit (by simp [exP, Fo.ok]) (by decide)
theorem exQ_good : Good 2 exQ := good_of_lit (by simp [exQ, Fo.ok]) (by decide)
/-- the page's example, its lists where they lie -/
def ex23 (a b : Option Addr) : ChD := ⟨⟨3, a, 1, exP.flat⟩, ⟨2, b, 1, exQ.flat⟩, 1, [2]⟩
theorem ex23_ok (a b : Option Addr) : (ex23 a b).Ok := ⟨⟨exP, rfl, exP_good⟩, ⟨exQ, rfl, exQ_good⟩, by show (1 : Int) ≤ 1; decide, by show (1 : Int) ≤ 64; decide, by show 1 ≤ 64; decide, by show (1 : Int) + 1 + 1 ≤ 3; decide, by show (1 : Int) + 1 ≤ 2; decide⟩
theorem ex23_step (a b : Option Addr) (t : Nat) (ht : t < 65536) (x : UInt64) : (ex23 a b).step (t : Int) [x] = [x + UInt64.ofNat t] := by
  unfold ChD.step ChD.beg
  show (uptoS 3 exP.flat ([x] ++ [2] ++ [UInt64.ofNat (t : Int).toNat]) (-1)).take 1 = _
  rw [uptoS_good exP_good (by simp)]
  simp only [Int.toNat_natCast]
  rfl
theorem ex23_loss (a b : Option Addr) (x : UInt64) : (ex23 a b).loss [x] = x * 2 := by
  unfold ChD.loss
  show (uptoS 2 exQ.flat ([x] ++ [2]) (-1)).getD 0 0 = _
  rw [uptoS_good exQ_good (by simp)]
  rfl
theorem ex23_iter (a b : Option Addr) : (ex23 a b).iter [5] 0 = [5] ∧ (ex23 a b).iter [5] 1 = [5] ∧ (ex23 a b).iter [5] 2 = [6] ∧ (ex23 a b).iter [5] 3 = [8] := by
  have h0 : (ex23 a b).iter [5] 0 = [5] := by rw [ChD.iter]
  have h1 : (ex23 a b).iter [5] 1 = [5] := by rw [ChD.iter, h0, ex23_step a b 0 (by decide)]; rfl
  have h2 : (ex23 a b).iter [5] 2 = [6] := by rw [ChD.iter, h1, ex23_step a b 1 (by decide)]; rfl
  have h3 : (ex23 a b).iter [5] 3 = [8] := by rw [ChD.iter, h2, ex23_step a b 2 (by decide)]; rfl
  exact ⟨h0, h1, h2, h3⟩
theorem ex23_states (a b : Option Addr) : (ex23 a b).states [5] 3 = [[5], [5], [6], [8]] := by
  obtain ⟨h0, h1, h2, h3⟩ := ex23_iter a b
  show [(ex23 a b).iter [5] 0, (ex23 a b).iter [5] 1, (ex23 a b).iter [5] 2, (ex23 a b).iter [5] 3] = _
  rw [h0, h1, h2, h3]
theorem ex23_bad (a b : Option Addr) : (ex23 a b).bad = 0 := by
  unfold ChD.bad
  have hp : checkS 3 exP.flat = 0 := exP_good.check
  have hq : checkS 2 exQ.flat = 0 := exQ_good.check
  have h : pairS (ex23 a b).p (ex23 a b).q = 0 := by
    exact pairS_of hp hq
  rw [if_neg (by simpa using h)]
  show dimsC 3 2 1 1 = 0
  decide
theorem Sum_calls (w : World) : Calls Tryz.prog 13 #[] w fun e w' => ∃ a b ta, e = .returned (.agg #[.int .i64 3, .slice a 1 1, .int .i64 2, .slice b 1 1, .int .i64 1, .slice ta 1 1]) ∧ At w' a exP.flat ∧ At w' b exQ.flat ∧ At w' ta [(2 : UInt64)] ∧ Below w.heap.size w w' := by
  go_enter Tryz.func13, Tryz.ntmps13
  go_wp2
  have hC := (((Blk.new w 27 #[.int .i64 3, .slice (some ⟨w.heap.size + 1, 0, none⟩) 1 1, .int .i64 2, .slice (some ⟨w.heap.size + 1 + 1, 0, none⟩) 1 1, .int .i64 1, .slice (some ⟨w.heap.size + 1 + 1 + 1, 0, none⟩) 1 1]).alloc (.cells #[.int .i64 1, .int .i64 0, .int .i64 0, .int .i64 2, .int .u64 0] 71)).alloc (.cells #[.int .i64 3, .int .i64 0, .int .i64 0, .int .i64 1, .int .u64 0] 71)).alloc (.cells #[.int .u64 2] 50)
  have hP := ((Blk.new (w.alloc (.cells #[.int .i64 3, .slice (some ⟨w.heap.size + 1, 0, none⟩) 1 1, .int .i64 2, .slice (some ⟨w.heap.size + 1 + 1, 0, none⟩) 1 1, .int .i64 1, .slice (some ⟨w.heap.size + 1 + 1 + 1, 0, none⟩) 1 1] 27)) 71 #[.int .i64 1, .int .i64 0, .int .i64 0, .int .i64 2, .int .u64 0]).alloc (.cells #[.int .i64 3, .int .i64 0, .int .i64 0, .int .i64 1, .int .u64 0] 71)).alloc (.cells #[.int .u64 2] 50)
  have hQ := (Blk.new ((w.alloc (.cells #[.int .i64 3, .slice (some ⟨w.heap.size + 1, 0, none⟩) 1 1, .int .i64 2, .slice (some ⟨w.heap.size + 1 + 1, 0, none⟩) 1 1, .int .i64 1, .slice (some ⟨w.heap.size + 1 + 1 + 1, 0, none⟩) 1 1] 27)).alloc (.cells #[.int .i64 1, .int .i64 0, .int .i64 0, .int .i64 2, .int .u64 0] 71)) 71 #[.int .i64 3, .int .i64 0, .int .i64 0, .int .i64 1, .int .u64 0]).alloc (.cells #[.int .u64 2] 50)
  have hT := Blk.new (((w.alloc (.cells #[.int .i64 3, .slice (some ⟨w.heap.size + 1, 0, none⟩) 1 1, .int .i64 2, .slice (some ⟨w.heap.size + 1 + 1, 0, none⟩) 1 1, .int .i64 1, .slice (some ⟨w.heap.size + 1 + 1 + 1, 0, none⟩) 1 1] 27)).alloc (.cells #[.int .i64 1, .int .i64 0, .int .i64 0, .int .i64 2, .int .u64 0] 71)).alloc (.cells #[.int .i64 3, .int .i64 0, .int .i64 0, .int .i64 1, .int .u64 0] 71)) 50 #[.int .u64 2]
  simp only [World.size_alloc] at hP hQ hT
  have hB : Below w.heap.size w ((((w.alloc (.cells #[.int .i64 3, .slice (some ⟨w.heap.size + 1, 0, none⟩) 1 1, .int .i64 2, .slice (some ⟨w.heap.size + 1 + 1, 0, none⟩) 1 1, .int .i64 1, .slice (some ⟨w.heap.size + 1 + 1 + 1, 0, none⟩) 1 1] 27)).alloc (.cells #[.int .i64 1, .int .i64 0, .int .i64 0, .int .i64 2, .int .u64 0] 71)).alloc (.cells #[.int .i64 3, .int .i64 0, .int .i64 0, .int .i64 1, .int .u64 0] 71)).alloc (.cells #[.int .u64 2] 50)) := (((below_new _ _).alloc (by simp) _).alloc (by simp; omega) _).alloc (by simp; omega) _
  refine bodyPost_ret (results_row_one rfl _ _ w.heap.size _ #[.int .i64 3, .slice (some ⟨w.heap.size + 1, 0, none⟩) 1 1, .int .i64 2, .slice (some ⟨w.heap.size + 1 + 1, 0, none⟩) 1 1, .int .i64 1, .slice (some ⟨w.heap.size + 1 + 1 + 1, 0, none⟩) 1 1] (0, 0) _ rfl hC Tryz.underlying27 rfl (by kernel_rfl)) rfl ⟨_, _, _, rfl, At.ofBlk hP exP.flat rfl, At.ofBlk hQ exQ.flat rfl, At.ofBlk hT [(2 : UInt64)] rfl, hB⟩
end Go.Proofs.YtmmepffdjmpblaaGreat

/- Chapter 23: the page's example. -/
namespace Go.Proofs.YtmmepffdjmpblaaGreat
set_option linter.unusedVariables false
set_option linter.unusedSimpArgs false
open Go.RowKit
set_option maxHeartbeats 400000 in
theorem Lists23_calls (a b : Option Addr) (ca cb : Nat) (ls : List (List UInt64)) (w : World) (h0 : AtL w a ls) (h1 : AtL w b ls) (hl : ls.length ≤ 1000000000) (hls : ∀ l ∈ ls, l.length ≤ 1000000000) :
    Calls Tryz.prog 17 #[.slice a ls.length ca, .slice b ls.length cb] w fun e w' => e = .returned (.bool true) ∧ ∃ n, w' = w.drewN n := by
  have HL := hide hls
  clear hls
  go_enter Tryz.func17, Tryz.ntmps17
  go_wp2
  go_loopw [5] (fun i wr => ∃ k : Nat, k ≤ ls.length ∧ i = .int .i64 k ∧ ∃ q, wr = w.drewN q) (fun i _ => ls.length - (intOf i).toNat)
  case atStart => exact ⟨0, by omega, rfl, ⟨0, rfl⟩⟩
  case round =>
    obtain ⟨k, hk, rfl, q, rfl⟩ := hrel
    by_cases hlt : k < ls.length
    · obtain ⟨b1, off1, a1, c1, x, rfl, hx, hc, _, hat⟩ := h0.get (Below.refl _ _) hlt
      obtain ⟨b2, off2, a2, c2, y, rfl, hy, hd, _, hbt⟩ := h1.get (Below.refl _ _) hlt
      obtain rfl : x = y := by have := hx.out.symm.trans hy.out; simpa using this
      have hxl := HL.out x (List.mem_of_getElem? hx.out)
      go_wp2
      go_quiet ((go_at_call 11; exact quiet_add (Same5_calls _ _ _ _ _ _ (hat.drewN _) (hbt.drewN _) hxl)))
      go_wp2
      go_roundw
      case rel => exact ⟨k + 1, by omega, by go_num, ⟨_, rfl⟩⟩
      case measure => simp [intOf]; omega
    · go_wp2
      go_ret
      exact ⟨rfl, _, rfl⟩

theorem ex23_lists (w : World) : AtL (((((w.alloc (.cells #[.int .u64 5] 50)).alloc (.cells #[.int .u64 5] 50)).alloc (.cells #[.int .u64 6] 50)).alloc (.cells #[.int .u64 8] 50)).alloc (.cells #[.slice (some ⟨w.heap.size, 0, none⟩) 1 1, .slice (some ⟨w.heap.size + 1, 0, none⟩) 1 1, .slice (some ⟨w.heap.size + 1 + 1, 0, none⟩) 1 1, .slice (some ⟨w.heap.size + 1 + 1 + 1, 0, none⟩) 1 1] 25)) (some ⟨w.heap.size + 1 + 1 + 1 + 1, 0, none⟩) [[5], [5], [6], [8]] ∧ Below w.heap.size w (((((w.alloc (.cells #[.int .u64 5] 50)).alloc (.cells #[.int .u64 5] 50)).alloc (.cells #[.int .u64 6] 50)).alloc (.cells #[.int .u64 8] 50)).alloc (.cells #[.slice (some ⟨w.heap.size, 0, none⟩) 1 1, .slice (some ⟨w.heap.size + 1, 0, none⟩) 1 1, .slice (some ⟨w.heap.size + 1 + 1, 0, none⟩) 1 1, .slice (some ⟨w.heap.size + 1 + 1 + 1, 0, none⟩) 1 1] 25)) := by
  have hB : Below w.heap.size w (((((w.alloc (.cells #[.int .u64 5] 50)).alloc (.cells #[.int .u64 5] 50)).alloc (.cells #[.int .u64 6] 50)).alloc (.cells #[.int .u64 8] 50)).alloc (.cells #[.slice (some ⟨w.heap.size, 0, none⟩) 1 1, .slice (some ⟨w.heap.size + 1, 0, none⟩) 1 1, .slice (some ⟨w.heap.size + 1 + 1, 0, none⟩) 1 1, .slice (some ⟨w.heap.size + 1 + 1 + 1, 0, none⟩) 1 1] 25)) := ((((below_new _ _).alloc (by simp) _).alloc (by simp; omega) _).alloc (by simp; omega) _).alloc (by simp; omega) _
  have b0 := ((((Blk.new w 50 #[.int .u64 5]).alloc (.cells #[.int .u64 5] 50)).alloc (.cells #[.int .u64 6] 50)).alloc (.cells #[.int .u64 8] 50)).alloc (.cells #[.slice (some ⟨w.heap.size, 0, none⟩) 1 1, .slice (some ⟨w.heap.size + 1, 0, none⟩) 1 1, .slice (some ⟨w.heap.size + 1 + 1, 0, none⟩) 1 1, .slice (some ⟨w.heap.size + 1 + 1 + 1, 0, none⟩) 1 1] 25)
  have b1 := (((Blk.new (w.alloc (.cells #[.int .u64 5] 50)) 50 #[.int .u64 5]).alloc (.cells #[.int .u64 6] 50)).alloc (.cells #[.int .u64 8] 50)).alloc (.cells #[.slice (some ⟨w.heap.size, 0, none⟩) 1 1, .slice (some ⟨w.heap.size + 1, 0, none⟩) 1 1, .slice (some ⟨w.heap.size + 1 + 1, 0, none⟩) 1 1, .slice (some ⟨w.heap.size + 1 + 1 + 1, 0, none⟩) 1 1] 25)
  have b2 := ((Blk.new ((w.alloc (.cells #[.int .u64 5] 50)).alloc (.cells #[.int .u64 5] 50)) 50 #[.int .u64 6]).alloc (.cells #[.int .u64 8] 50)).alloc (.cells #[.slice (some ⟨w.heap.size, 0, none⟩) 1 1, .slice (some ⟨w.heap.size + 1, 0, none⟩) 1 1, .slice (some ⟨w.heap.size + 1 + 1, 0, none⟩) 1 1, .slice (some ⟨w.heap.size + 1 + 1 + 1, 0, none⟩) 1 1] 25)
  have b3 := (Blk.new (((w.alloc (.cells #[.int .u64 5] 50)).alloc (.cells #[.int .u64 5] 50)).alloc (.cells #[.int .u64 6] 50)) 50 #[.int .u64 8]).alloc (.cells #[.slice (some ⟨w.heap.size, 0, none⟩) 1 1, .slice (some ⟨w.heap.size + 1, 0, none⟩) 1 1, .slice (some ⟨w.heap.size + 1 + 1, 0, none⟩) 1 1, .slice (some ⟨w.heap.size + 1 + 1 + 1, 0, none⟩) 1 1] 25)
  have b4 := Blk.new ((((w.alloc (.cells #[.int .u64 5] 50)).alloc (.cells #[.int .u64 5] 50)).alloc (.cells #[.int .u64 6] 50)).alloc (.cells #[.int .u64 8] 50)) 25 #[.slice (some ⟨w.heap.size, 0, none⟩) 1 1, .slice (some ⟨w.heap.size + 1, 0, none⟩) 1 1, .slice (some ⟨w.heap.size + 1 + 1, 0, none⟩) 1 1, .slice (some ⟨w.heap.size + 1 + 1 + 1, 0, none⟩) 1 1]
  simp only [World.size_alloc] at b1 b2 b3 b4
  refine ⟨AtL.ofBlk [⟨some ⟨w.heap.size, 0, none⟩, 1, 1⟩, ⟨some ⟨w.heap.size + 1, 0, none⟩, 1, 1⟩, ⟨some ⟨w.heap.size + 1 + 1, 0, none⟩, 1, 1⟩, ⟨some ⟨w.heap.size + 1 + 1 + 1, 0, none⟩, 1, 1⟩] _ b4 rfl rfl fun i hd l e1 e2 => ?_, hB⟩
  match i, e1, e2 with
  | 0, e1, e2 => simp at e1 e2; subst e1 e2; exact ⟨rfl, Nat.le_refl 1, At.ofBlk b0 [(5 : UInt64)] rfl⟩
  | 1, e1, e2 => simp at e1 e2; subst e1 e2; exact ⟨rfl, Nat.le_refl 1, At.ofBlk b1 [(5 : UInt64)] rfl⟩
  | 2, e1, e2 => simp at e1 e2; subst e1 e2; exact ⟨rfl, Nat.le_refl 1, At.ofBlk b2 [(6 : UInt64)] rfl⟩
  | 3, e1, e2 => simp at e1 e2; subst e1 e2; exact ⟨rfl, Nat.le_refl 1, At.ofBlk b3 [(8 : UInt64)] rfl⟩
  | j + 4, e1, e2 => simp at e1
theorem ex23_eight (w : World) (q : Nat) : At (((((((w.alloc (.cells #[.int .u64 5] 50)).alloc (.cells #[.int .u64 5] 50)).alloc (.cells #[.int .u64 6] 50)).alloc (.cells #[.int .u64 8] 50)).alloc (.cells #[.slice (some ⟨w.heap.size, 0, none⟩) 1 1, .slice (some ⟨w.heap.size + 1, 0, none⟩) 1 1, .slice (some ⟨w.heap.size + 1 + 1, 0, none⟩) 1 1, .slice (some ⟨w.heap.size + 1 + 1 + 1, 0, none⟩) 1 1] 25)).drewN q).alloc (.cells #[.int .u64 8] 50)) (some ⟨w.heap.size + 1 + 1 + 1 + 1 + 1, 0, none⟩) [(8 : UInt64)] ∧ Below w.heap.size w (((((((w.alloc (.cells #[.int .u64 5] 50)).alloc (.cells #[.int .u64 5] 50)).alloc (.cells #[.int .u64 6] 50)).alloc (.cells #[.int .u64 8] 50)).alloc (.cells #[.slice (some ⟨w.heap.size, 0, none⟩) 1 1, .slice (some ⟨w.heap.size + 1, 0, none⟩) 1 1, .slice (some ⟨w.heap.size + 1 + 1, 0, none⟩) 1 1, .slice (some ⟨w.heap.size + 1 + 1 + 1, 0, none⟩) 1 1] 25)).drewN q).alloc (.cells #[.int .u64 8] 50)) := by
  have hB := (ex23_lists w).2
  have hd := below_drawn (((((w.alloc (.cells #[.int .u64 5] 50)).alloc (.cells #[.int .u64 5] 50)).alloc (.cells #[.int .u64 6] 50)).alloc (.cells #[.int .u64 8] 50)).alloc (.cells #[.slice (some ⟨w.heap.size, 0, none⟩) 1 1, .slice (some ⟨w.heap.size + 1, 0, none⟩) 1 1, .slice (some ⟨w.heap.size + 1 + 1, 0, none⟩) 1 1, .slice (some ⟨w.heap.size + 1 + 1 + 1, 0, none⟩) 1 1] 25)) w.heap.size q
  have b5 := Blk.new ((((((w.alloc (.cells #[.int .u64 5] 50)).alloc (.cells #[.int .u64 5] 50)).alloc (.cells #[.int .u64 6] 50)).alloc (.cells #[.int .u64 8] 50)).alloc (.cells #[.slice (some ⟨w.heap.size, 0, none⟩) 1 1, .slice (some ⟨w.heap.size + 1, 0, none⟩) 1 1, .slice (some ⟨w.heap.size + 1 + 1, 0, none⟩) 1 1, .slice (some ⟨w.heap.size + 1 + 1 + 1, 0, none⟩) 1 1] 25)).drewN q) 50 #[.int .u64 8]
  have e : ((((((w.alloc (.cells #[.int .u64 5] 50)).alloc (.cells #[.int .u64 5] 50)).alloc (.cells #[.int .u64 6] 50)).alloc (.cells #[.int .u64 8] 50)).alloc (.cells #[.slice (some ⟨w.heap.size, 0, none⟩) 1 1, .slice (some ⟨w.heap.size + 1, 0, none⟩) 1 1, .slice (some ⟨w.heap.size + 1 + 1, 0, none⟩) 1 1, .slice (some ⟨w.heap.size + 1 + 1 + 1, 0, none⟩) 1 1] 25)).drewN q).heap.size = w.heap.size + 1 + 1 + 1 + 1 + 1 := by show (((((w.alloc (.cells #[.int .u64 5] 50)).alloc (.cells #[.int .u64 5] 50)).alloc (.cells #[.int .u64 6] 50)).alloc (.cells #[.int .u64 8] 50)).alloc (.cells #[.slice (some ⟨w.heap.size, 0, none⟩) 1 1, .slice (some ⟨w.heap.size + 1, 0, none⟩) 1 1, .slice (some ⟨w.heap.size + 1 + 1, 0, none⟩) 1 1, .slice (some ⟨w.heap.size + 1 + 1 + 1, 0, none⟩) 1 1] 25)).heap.size = _; simp
  rw [e] at b5
  exact ⟨At.ofBlk b5 [(8 : UInt64)] rfl, (hB.trans hd).alloc (by rw [e]; omega) _⟩
set_option maxRecDepth 100000 in
set_option maxHeartbeats 3200000 in
theorem goes23_calls (w : World) : Calls Tryz.prog 5 #[] w fun e w' => e = .returned (.bool true) ∧ Below w.heap.size w w' := by
  have HS := hide (Sum_calls w)
  have hl0 : 1 ≤ 1 := by decide
  have hl1 : 1 ≤ 1000000 := by decide
  have hl2 : (-9223372036854775808 : Int) ≤ 1 ∧ (1 : Int) ≤ 9223372036854775807 := by decide
  go_enter Tryz.func5, Tryz.ntmps5
  go_wp2_with (first
    | (go_at_call 13; go_must ((with_reducible refine (HS.out).mono ?_); rintro e w1 ⟨a, b, ta, rfl, hp, hq, ht, hb1⟩; have hn1 := below_new w1 (.cells #[.int .i64 3, .slice a 1 1, .int .i64 2, .slice b 1 1, .int .i64 1, .slice ta 1 1] 27); have hX := Blk.new w1 27 #[.int .i64 3, .slice a 1 1, .int .i64 2, .slice b 1 1, .int .i64 1, .slice ta 1 1]; have hB1 := hb1.trans (hn1.mono hb1.size); have hz1 := hB1.size))
    | (go_at_call 14; go_must ((refine (NewGood_calls (ex23 a b) ta 1 _ (hp.belowN hn1) hl1 (hq.belowN hn1) hl1 (ht.belowN hn1) hl2 hl1 (ex23_bad a b)).mono ?_); rintro e w2 ⟨g, rfl, hch, hg, hb2⟩; have hB2 := hB1.trans (hb2.mono hz1); have hz2 := hB2.size; have hLs := ex23_states a b; have hc := ex23_ok a b; have hLo : (ex23 a b).loss ((ex23 a b).iter [5] 3) = 16 := (by rw [(ex23_iter a b).2.2.2, ex23_loss]; rfl); have hIt := (ex23_iter a b).2.2.2; have hn2 := below_new w2 (.cells #[.int .u64 5] 50); have hx5 := At.ofBlk (Blk.new w2 50 #[.int .u64 5]) [(5 : UInt64)] rfl))
    | (go_at_call 15; go_must ((refine (StatesGood_calls g (ex23 a b) hc 3 (by decide) _ 1 1 [5] _ (hch.belowN hn2) hx5 rfl hl0 rfl).mono ?_); rintro e w3 ⟨a3, c3, hs3, rfl, hL3, hb3⟩; rw [hLs] at hL3; have hb3' := hn2.trans (hb3.mono hn2.size); have hB3 := hB2.trans (hb3'.mono hz2); have hz3 := hB3.size; have hn3 := below_new w3 (.cells #[.int .u64 5] 50); have hx6 := At.ofBlk (Blk.new w3 50 #[.int .u64 5]) [(5 : UInt64)] rfl))
    | (go_at_call 16; go_must ((refine (CRunGood_calls g (ex23 a b) hc 3 (by decide) _ 1 1 [5] _ ((hch.belowN hb3').belowN hn3) hx6 rfl hl0 rfl 16 hLo).mono ?_); rintro e w4 ⟨a4, k4, rfl, hk4, hat4, hb4⟩; rw [hIt] at hat4; have hb4' := hn3.trans (hb4.mono hn3.size); have hB4 := hB3.trans (hb4'.mono hz3); have hz4 := hB4.size; have hL4 := hL3.belowN hb4'; obtain ⟨hAL, hB5⟩ := ex23_lists w4; have hz5 := hB5.size))
    | (go_at_call 17; go_must ((refine (Lists23_calls a3 _ c3 4 [[5], [5], [6], [8]] _ (hL4.at_.belowN hB5) hAL (by decide) (by decide)).mono ?_); rintro e w5 ⟨rfl, q5, rfl⟩; obtain ⟨h8, hB6⟩ := ex23_eight w4 q5))
    | (go_at_call 11; go_must ((refine (Same5_calls a4 _ k4 1 [(8 : UInt64)] _ (hat4.belowN hB6) h8 (by decide)).mono ?_); rintro e w6 ⟨rfl, q6, rfl⟩)))
  go_ret
  exact ⟨rfl, (hB4.trans (hB6.mono hz4)).trans (below_drawn _ _ _)⟩
end Go.Proofs.YtmmepffdjmpblaaGreat

/- Chapter 23: ChainSteps. -/
namespace Go.Proofs.YtmmepffdjmpblaaGreat
set_option linter.unusedVariables false
set_option linter.unusedSimpArgs false
open Go.RowKit
theorem small_lens {c : ChD} {m : Int} (h : smallC c m = true) : c.p.l.length ≤ 60 ∧ c.q.l.length ≤ 60 ∧ c.th.length ≤ 100 := by
  unfold smallC at h
  simp only [Bool.and_eq_true, decide_eq_true_eq] at h
  exact ⟨h.1.1.1, h.1.1.2, h.1.2⟩
theorem Same23 (a b : Option Addr) (ca cb n : Nat) (l : List UInt64) (w : World) (hn : n = l.length) (h0 : At w a l) (h1 : At w b l) (hl : n ≤ 1000000) :
    Calls Tryz.prog 11 #[.slice a n ca, .slice b n cb] w fun e w' => e = .returned (.bool true) ∧ ∃ q, w' = w.drewN q := by
  subst hn; exact Same5_calls a b ca cb l w h0 h1 (by omega)
end Go.Proofs.YtmmepffdjmpblaaGreat
