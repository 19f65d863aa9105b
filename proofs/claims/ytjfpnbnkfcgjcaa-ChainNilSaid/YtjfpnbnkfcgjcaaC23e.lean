/- Chapter 23: each: a callee sees all states. -/
import Derived.Test.YtjfpnbnkfcgjcaaC23d
namespace Go.Proofs.Ytjfpnbnkfcgjcaa
set_option linter.unusedVariables false
set_option linter.unusedSimpArgs false
open Go.RowKit
theorem EachBad_calls (g : Nat) (c : ChD) (t : Int) (a : Option Addr) (n k : Nat) (fv : Value) (w : World) (h : ChAt w g c) (hn : n ≤ 1000000) (E : Int) (hE : c.may t n = E) (h0 : E ≠ 0) :
    Calls Try.prog 71 #[.pointer (some ⟨g, 0, none⟩), .slice a n k, .int .i64 t, fv] w fun e w' => e = .returned (.int .i64 E) ∧ w = w' := by
  have HM := hide (May_calls g c t a n k w h hn E hE)
  have e1 : (E == 0) = false := by simpa using h0
  have e2 : (E != 0) = true := by simpa using h0
  clear h0 hE
  go_enter Try.func71, Try.ntmps71
  go_wp2_with (go_at_call 69; go_must ((with_reducible refine (HM.out).mono ?_); rintro e w1 ⟨rfl, rfl⟩))
  go_ret
  exact ⟨rfl, rfl⟩
set_option maxRecDepth 100000 in
set_option maxHeartbeats 1600000 in
theorem EachR_calls (cp : Value) (g : Nat) (c : ChD) (hc : c.Ok) (lN : Nat) (hl : lN < 65536) (a : Option Addr) (n k : Nat) (xs : List UInt64) (w : World) (hch : ChAt w g c) (hat : At w a xs) (hn : n = xs.length) (hnk : n ≤ k) (hx : (n : Int) = c.x)
    (J : Nat → List Nat → World → Prop) (F0 : List Nat)
    (hC : ∀ w1, Turned F0 w w1 → ChAt w1 g c)
    (hkeep : ∀ j F w w', J j F w → Below w.heap.size w w' → J j F w') (hlt : ∀ j F w, J j F w → ∀ b ∈ F, b < w.heap.size)
    (hcall : ∀ (j : Nat) (F : List Nat) (w1 : World) (b : Option Addr) (d : Nat), j ≤ lN → J j F w1 → At w1 b (c.iter xs j) → n ≤ d → (∀ q, b.map (·.block) = some q → w.heap.size ≤ q ∧ q < w1.heap.size ∧ q ∉ F) → Turned F0 w w1 →
      Calls Try.prog 73 #[.slice b n d, cp] w1 fun e w2 => e = .returned (.tuple #[]) ∧ ∃ F', J (j + 1) F' w2 ∧ Turned F w1 w2 ∧ ∀ q ∈ F', q ∈ F ∨ w1.heap.size ≤ q)
    (h0 : J 0 F0 w) :
    Calls Try.prog 71 #[.pointer (some ⟨g, 0, none⟩), .slice a n k, .int .i64 (lN : Int), .func (.func 73) #[] #[cp]] w fun e w' => e = .returned (.int .i64 0) ∧ ∃ F', J (lN + 1) F' w' ∧ Turned F0 w w' := by
  have hmay : c.may (lN : Int) n = 0 := by unfold ChD.may; rw [if_neg (by omega), if_neg (by simpa using hx)]
  have hx2 := hc.x2
  have hx1 := hc.x1
  have HM := hide (May_calls g c (lN : Int) a n k w hch (by omega) 0 hmay)
  have HN := hide hn
  have HK := hide hkeep
  have HLT := hide hlt
  have HC := hide hC
  have HCA := hide hcall
  have HNE : Hid (∀ j, (c.iter xs j).length = n) := hide (fun j => by have := ChD.iter_length hc (xs := xs) (by rw [← hn]; exact hx) j; omega)
  have HI0 : Hid (c.iter xs 0 = xs) := hide (by rw [ChD.iter])
  have hn64 : n ≤ 64 := by omega
  have hn0 : 1 ≤ n := by omega
  clear hkeep hlt hC hcall hmay hn
  go_enter Try.func71, Try.ntmps71
  go_wp2_with (first
    | (go_at_call 69; go_must ((with_reducible refine (HM.out).mono ?_); rintro e w1 ⟨rfl, rfl⟩))
    | (go_at_call 44; go_must ((with_reducible refine (CloneU_calls _ _ _ xs _ HN.out hat (by omega)).mono ?_); rintro e w2 ⟨a2, c2, rfl, hown2, hb2⟩; have hT2 : Turned F0 w w2 := Turned.ofBelow hb2; have hJ2 := HK.out 0 F0 w w2 h0 hb2; have hcap2 := hown2.cap.1; have hf2 : ∀ q, a2.map (·.block) = some q → w.heap.size ≤ q ∧ q < w2.heap.size ∧ q ∉ F0 := fun q hq => ⟨(hown2.blk q hq).1, (hown2.blk q hq).2, fun hm => by have h1 := HLT.out _ _ _ h0 q hm; have h2 := (hown2.blk q hq).1; omega⟩))
    | (go_at_call 73; go_must ((with_reducible refine (HCA.out 0 F0 _ a2 c2 (by omega) hJ2 (by rw [HI0.out]; exact hown2.at_) (by rw [HN.out]; exact hcap2) hf2 hT2).mono ?_); rintro e w3 ⟨rfl, F3, hJ3, hT23, hF3⟩)))
  have hT3 := hT2.trans hT23 (fun q hq => .inl hq)
  have hat3 := hown2.at_.turned hT23 (fun _ q hq e => (hf2 q e).2.2 hq)
  have hs2 := hT2.size
  have hs3 := hT3.size
  have hs23 := hT23.size
  rw [← HI0.out] at hat3
  have HF3 := hide hF3
  have hf3 : ∀ q, a2.map (·.block) = some q → w.heap.size ≤ q ∧ q < w3.heap.size ∧ q ∉ F3 := fun q hq => ⟨(hf2 q hq).1, by have := (hf2 q hq).2.1; omega, fun hm => by
    rcases HF3.out q hm with h1 | h1
    · exact (hf2 q hq).2.2 h1
    · have := (hf2 q hq).2.1; omega⟩
  have hF3' : ∀ q ∈ F3, q ∈ F0 ∨ w.heap.size ≤ q := fun q hq => (HF3.out q hq).imp id (fun h1 => by omega)
  have hcap3 : n ≤ c2 := by rw [HN.out]; exact hcap2
  clear hown2 hb2 hJ2 hf2 hcap2 hF3
  go_loopw [1, 10, 24] (fun xv _ iv wr => ∃ (j : Nat) (F : List Nat) (b : Option Addr) (d : Nat), iv = .int .i64 j ∧ j ≤ lN ∧ xv = .slice b n d ∧ n ≤ d ∧ At wr b (c.iter xs j) ∧ Hid (∀ q, b.map (·.block) = some q → w.heap.size ≤ q ∧ q < wr.heap.size ∧ q ∉ F) ∧ Hid (J (j + 1) F wr) ∧ Hid (∀ q ∈ F, q ∈ F0 ∨ w.heap.size ≤ q) ∧ Turned F0 w wr) (fun _ _ iv _ => lN - (intOf iv).toNat)
  case atStart => exact ⟨0, F3, a2, c2, rfl, by omega, rfl, hcap3, hat3, hf3, hJ3, hF3', hT3⟩
  case round =>
    clear hat3 hf3 hJ3 hF3' hcap3 hT23 hT2 HF3 hT3 hs2 hs3 hs23
    obtain ⟨j, F, b, d, rfl, hj, rfl, hnd, hatj, hfj, hJj, hFj, hTj⟩ := hrel
    have hsj := hTj.size
    by_cases hlt : j < lN
    · obtain ⟨v, hv⟩ : ∃ v : UInt64, v.toNat = j := ⟨UInt64.ofNat j, by rw [UInt64.toNat_ofNat', Nat.mod_eq_of_lt (by omega)]⟩
      have hvj : ((v.toNat : Nat) : Int) = (j : Int) := by rw [hv]
      have HST := hide (StepGood_calls g c hc v b n d (c.iter xs j) wr (HC.out wr hTj) hatj (HNE.out j).symm hnd hx (by omega) (c.iter xs (j + 1)) (by rw [ChD.iter, hvj]))
      rw [hvj] at HST
      clear hv hvj
      go_wp2_with (first
        | (go_at_call 34; go_must ((with_reducible refine (HST.out).mono ?_); rintro e w5 ⟨a5, c5, rfl, hcap5, hat5, hfr5, hb5⟩; have hT5 := hTj.trans (Turned.ofBelow (F := F0) hb5) (fun q hq => .inl hq); have hJ5 := HK.out (j + 1) F wr w5 hJj.out hb5; have hf5 : ∀ q, a5.map (·.block) = some q → w.heap.size ≤ q ∧ q < w5.heap.size ∧ q ∉ F := fun q hq => ⟨Nat.le_trans hsj (hfr5 q hq).1, (hfr5 q hq).2, fun hm => by have h1 := HLT.out _ _ _ hJj.out q hm; have h2 := (hfr5 q hq).1; omega⟩))
        | (go_at_call 73; go_must ((with_reducible refine (HCA.out (j + 1) F _ a5 c5 (by omega) hJ5 hat5 hcap5 hf5 hT5).mono ?_); rintro e w6 ⟨rfl, F6, hJ6, hT56, hF6⟩)))
      go_roundw
      case rel =>
        have hs5 := hb5.size
        have hs6 := hT56.size
        have hFs : ∀ q ∈ F, q ∈ F0 ∨ w.heap.size ≤ q := hFj.out
        have hT6 : Turned F0 w w6 := hT5.trans hT56 (fun q hq => hFs q hq)
        exact ⟨j + 1, F6, a5, c5, by go_num, by omega, rfl, hcap5, hat5.turned hT56 (fun _ q hq e => (hf5 q e).2.2 hq), hide (fun q hq => ⟨(hf5 q hq).1, by have := (hf5 q hq).2.1; omega, fun hm => by
          rcases hF6 q hm with h1 | h1
          · exact (hf5 q hq).2.2 h1
          · have := (hf5 q hq).2.1; omega⟩), hide hJ6, hide (fun q hq => by
          rcases hF6 q hq with h1 | h1
          · exact hFs q h1
          · have := hT5.size; exact .inr (by omega)), hT6⟩
      case measure => simp [intOf]; omega
    · obtain rfl : lN = j := by omega
      go_wp2
      go_ret
      exact ⟨rfl, F, hJj.out, hTj⟩
set_option maxRecDepth 100000 in
set_option maxHeartbeats 1600000 in
theorem EachS_calls (cp : Value) (g : Nat) (c : ChD) (hc : c.Ok) (lN : Nat) (hl : lN < 65536) (a : Option Addr) (n k : Nat) (xs : List UInt64) (w : World) (hch : ChAt w g c) (hat : At w a xs) (hn : n = xs.length) (hnk : n ≤ k) (hx : (n : Int) = c.x)
    (J : Nat → List Nat → World → Prop) (F0 : List Nat)
    (hC : ∀ w1, Turned F0 w w1 → ChAt w1 g c)
    (hkeep : ∀ j F w w', J j F w → Below w.heap.size w w' → J j F w') (hlt : ∀ j F w, J j F w → ∀ b ∈ F, b < w.heap.size)
    (hcall : ∀ (j : Nat) (F : List Nat) (w1 : World) (b : Option Addr) (d : Nat), j ≤ lN → J j F w1 → At w1 b (c.iter xs j) → n ≤ d → (∀ q, b.map (·.block) = some q → w.heap.size ≤ q ∧ q < w1.heap.size ∧ q ∉ F) → Turned F0 w w1 →
      Calls Try.prog 72 #[cp, .slice b n d] w1 fun e w2 => e = .returned (.tuple #[]) ∧ ∃ F', J (j + 1) F' w2 ∧ Turned F w1 w2 ∧ ∀ q ∈ F', q ∈ F ∨ w1.heap.size ≤ q)
    (h0 : J 0 F0 w) :
    Calls Try.prog 71 #[.pointer (some ⟨g, 0, none⟩), .slice a n k, .int .i64 (lN : Int), .func (.func 72) #[cp] #[]] w fun e w' => e = .returned (.int .i64 0) ∧ ∃ F', J (lN + 1) F' w' ∧ Turned F0 w w' := by
  have hmay : c.may (lN : Int) n = 0 := by unfold ChD.may; rw [if_neg (by omega), if_neg (by simpa using hx)]
  have hx2 := hc.x2
  have hx1 := hc.x1
  have HM := hide (May_calls g c (lN : Int) a n k w hch (by omega) 0 hmay)
  have HN := hide hn
  have HK := hide hkeep
  have HLT := hide hlt
  have HC := hide hC
  have HCA := hide hcall
  have HNE : Hid (∀ j, (c.iter xs j).length = n) := hide (fun j => by have := ChD.iter_length hc (xs := xs) (by rw [← hn]; exact hx) j; omega)
  have HI0 : Hid (c.iter xs 0 = xs) := hide (by rw [ChD.iter])
  have hn64 : n ≤ 64 := by omega
  have hn0 : 1 ≤ n := by omega
  clear hkeep hlt hC hcall hmay hn
  go_enter Try.func71, Try.ntmps71
  go_wp2_with (first
    | (go_at_call 69; go_must ((with_reducible refine (HM.out).mono ?_); rintro e w1 ⟨rfl, rfl⟩))
    | (go_at_call 44; go_must ((with_reducible refine (CloneU_calls _ _ _ xs _ HN.out hat (by omega)).mono ?_); rintro e w2 ⟨a2, c2, rfl, hown2, hb2⟩; have hT2 : Turned F0 w w2 := Turned.ofBelow hb2; have hJ2 := HK.out 0 F0 w w2 h0 hb2; have hcap2 := hown2.cap.1; have hf2 : ∀ q, a2.map (·.block) = some q → w.heap.size ≤ q ∧ q < w2.heap.size ∧ q ∉ F0 := fun q hq => ⟨(hown2.blk q hq).1, (hown2.blk q hq).2, fun hm => by have h1 := HLT.out _ _ _ h0 q hm; have h2 := (hown2.blk q hq).1; omega⟩))
    | (go_at_call 72; go_must ((with_reducible refine (HCA.out 0 F0 _ a2 c2 (by omega) hJ2 (by rw [HI0.out]; exact hown2.at_) (by rw [HN.out]; exact hcap2) hf2 hT2).mono ?_); rintro e w3 ⟨rfl, F3, hJ3, hT23, hF3⟩)))
  have hT3 := hT2.trans hT23 (fun q hq => .inl hq)
  have hat3 := hown2.at_.turned hT23 (fun _ q hq e => (hf2 q e).2.2 hq)
  have hs2 := hT2.size
  have hs3 := hT3.size
  have hs23 := hT23.size
  rw [← HI0.out] at hat3
  have HF3 := hide hF3
  have hf3 : ∀ q, a2.map (·.block) = some q → w.heap.size ≤ q ∧ q < w3.heap.size ∧ q ∉ F3 := fun q hq => ⟨(hf2 q hq).1, by have := (hf2 q hq).2.1; omega, fun hm => by
    rcases HF3.out q hm with h1 | h1
    · exact (hf2 q hq).2.2 h1
    · have := (hf2 q hq).2.1; omega⟩
  have hF3' : ∀ q ∈ F3, q ∈ F0 ∨ w.heap.size ≤ q := fun q hq => (HF3.out q hq).imp id (fun h1 => by omega)
  have hcap3 : n ≤ c2 := by rw [HN.out]; exact hcap2
  clear hown2 hb2 hJ2 hf2 hcap2 hF3
  go_loopw [1, 10, 24] (fun xv _ iv wr => ∃ (j : Nat) (F : List Nat) (b : Option Addr) (d : Nat), iv = .int .i64 j ∧ j ≤ lN ∧ xv = .slice b n d ∧ n ≤ d ∧ At wr b (c.iter xs j) ∧ Hid (∀ q, b.map (·.block) = some q → w.heap.size ≤ q ∧ q < wr.heap.size ∧ q ∉ F) ∧ Hid (J (j + 1) F wr) ∧ Hid (∀ q ∈ F, q ∈ F0 ∨ w.heap.size ≤ q) ∧ Turned F0 w wr) (fun _ _ iv _ => lN - (intOf iv).toNat)
  case atStart => exact ⟨0, F3, a2, c2, rfl, by omega, rfl, hcap3, hat3, hf3, hJ3, hF3', hT3⟩
  case round =>
    clear hat3 hf3 hJ3 hF3' hcap3 hT23 hT2 HF3 hT3 hs2 hs3 hs23
    obtain ⟨j, F, b, d, rfl, hj, rfl, hnd, hatj, hfj, hJj, hFj, hTj⟩ := hrel
    have hsj := hTj.size
    by_cases hlt : j < lN
    · obtain ⟨v, hv⟩ : ∃ v : UInt64, v.toNat = j := ⟨UInt64.ofNat j, by rw [UInt64.toNat_ofNat', Nat.mod_eq_of_lt (by omega)]⟩
      have hvj : ((v.toNat : Nat) : Int) = (j : Int) := by rw [hv]
      have HST := hide (StepGood_calls g c hc v b n d (c.iter xs j) wr (HC.out wr hTj) hatj (HNE.out j).symm hnd hx (by omega) (c.iter xs (j + 1)) (by rw [ChD.iter, hvj]))
      rw [hvj] at HST
      clear hv hvj
      go_wp2_with (first
        | (go_at_call 34; go_must ((with_reducible refine (HST.out).mono ?_); rintro e w5 ⟨a5, c5, rfl, hcap5, hat5, hfr5, hb5⟩; have hT5 := hTj.trans (Turned.ofBelow (F := F0) hb5) (fun q hq => .inl hq); have hJ5 := HK.out (j + 1) F wr w5 hJj.out hb5; have hf5 : ∀ q, a5.map (·.block) = some q → w.heap.size ≤ q ∧ q < w5.heap.size ∧ q ∉ F := fun q hq => ⟨Nat.le_trans hsj (hfr5 q hq).1, (hfr5 q hq).2, fun hm => by have h1 := HLT.out _ _ _ hJj.out q hm; have h2 := (hfr5 q hq).1; omega⟩))
        | (go_at_call 72; go_must ((with_reducible refine (HCA.out (j + 1) F _ a5 c5 (by omega) hJ5 hat5 hcap5 hf5 hT5).mono ?_); rintro e w6 ⟨rfl, F6, hJ6, hT56, hF6⟩)))
      go_roundw
      case rel =>
        have hs5 := hb5.size
        have hs6 := hT56.size
        have hFs : ∀ q ∈ F, q ∈ F0 ∨ w.heap.size ≤ q := hFj.out
        have hT6 : Turned F0 w w6 := hT5.trans hT56 (fun q hq => hFs q hq)
        exact ⟨j + 1, F6, a5, c5, by go_num, by omega, rfl, hcap5, hat5.turned hT56 (fun _ q hq e => (hf5 q e).2.2 hq), hide (fun q hq => ⟨(hf5 q hq).1, by have := (hf5 q hq).2.1; omega, fun hm => by
          rcases hF6 q hm with h1 | h1
          · exact (hf5 q hq).2.2 h1
          · have := (hf5 q hq).2.1; omega⟩), hide hJ6, hide (fun q hq => by
          rcases hF6 q hq with h1 | h1
          · exact hFs q h1
          · have := hT5.size; exact .inr (by omega)), hT6⟩
      case measure => simp [intOf]; omega
    · obtain rfl : lN = j := by omega
      go_wp2
      go_ret
      exact ⟨rfl, F, hJj.out, hTj⟩
end Go.Proofs.Ytjfpnbnkfcgjcaa
