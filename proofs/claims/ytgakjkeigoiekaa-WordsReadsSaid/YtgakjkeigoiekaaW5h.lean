/- Chapter 5: the law WordsBack. -/
import Derived.Test.YtgakjkeigoiekaaW5g
import Derived.Deep.RegionHeld3
namespace Go.Proofs.Ytgakjkeigoiekaa
set_option linter.unusedVariables false
set_option linter.unusedSimpArgs false
open Go.RowKit

theorem frame_cons (x : List UInt64) (r : List (List UInt64)) (m : List UInt64) : frame (x :: r) ++ m = UInt64.ofNat x.length :: (x ++ (frame r ++ m)) := by simp [frame]
theorem ofNat_len (n : Nat) (h : n ≤ 1000000000) : (UInt64.ofNat n).toNat = n := by rw [UInt64.toNat_ofNat']; exact Nat.mod_eq_of_lt (by omega)

theorem splitF_frame (m : List UInt64) : ∀ ls : List (List UInt64), (∀ l ∈ ls, l.length ≤ 1000000000) → splitF ls.length (frame ls ++ m) = some (ls, m)
  | [], _ => by simp [splitF, frame]
  | x :: r, h => by
    have hx := ofNat_len x.length (h x (by simp))
    rw [frame_cons, List.length_cons, splitF, hx, if_neg (by simp), List.drop_left, splitF_frame m r (fun l hl => h l (by simp [hl]))]
    simp

theorem split_frame (m : List UInt64) (ls : List (List UInt64)) (h : ∀ l ∈ ls, l.length ≤ 1000000000) : split (frame ls ++ m) ls.length = (ls, m, 0) := by
  unfold split
  rw [if_neg (by omega)]
  simp [splitF_frame m ls h]

theorem lS_frame (x : List UInt64) (r : List (List UInt64)) (m : List UInt64) (hx : x.length ≤ 200) : lS (frame (x :: r) ++ m) 0 200 = (x, frame r ++ m, 0) := by
  have h := ofNat_len x.length (by omega)
  rw [frame_cons]
  simp only [lS, if_true, h]
  rw [if_neg (by omega), if_neg (by simp)]
  simp

theorem frame_small : ∀ xs : List (List UInt64), (∀ m ∈ xs, m.length ≤ 200) → (frame xs).length ≤ xs.length * 201 := by
  intro xs
  induction xs with
  | nil => intro _; simp [frame]
  | cons x r ih =>
    intro hx
    have h1 := hx x (by simp)
    have h2 := ih fun m hm => hx m (by simp [hm])
    simp [frame] at h2 ⊢
    omega

theorem small_of (ls : List (List UInt64)) (n : Int) (h : smallB ls n = true) : (ls.length : Int) ≤ n ∧ ∀ m ∈ ls, m.length ≤ 200 := by
  unfold smallB at h
  simpa using h

theorem grown_undrew {w w' : World} {row : Option Nat} (h : w.drew.grownBy w' row) : w.grownBy w' row := ⟨h.os, h.tape, h.output, h.size, h.block⟩

theorem Split_n (a : Option Addr) (c k : Nat) (l : List UInt64) (n : Int) (w : World) (hk : k = l.length) (h : At w a l) (hc : k ≤ c) (hl : k ≤ 1000000) (hn1 : -9223372036854775808 ≤ n) (hn2 : n ≤ 9223372036854775807) :
    Calls Try.prog 15 #[.slice a k c, .int .i64 n] w fun e w' => ∃ a1 c1 a2 c2, e = .returned (.tuple #[.slice a1 (split l n).1.length c1, .slice a2 (split l n).2.1.length c2, .int .i64 (split l n).2.2]) ∧
      AtL w' a1 (split l n).1 ∧ At w' a2 (split l n).2.1 ∧ Below w.heap.size w w' := by
  subst hk
  exact Split_calls a c l n w h hc hl hn1 hn2

set_option maxHeartbeats 800000 in
theorem WordsBack_calls (a b : Option Addr) (ca cb : Nat) (ls : List (List UInt64)) (m : List UInt64) (w : World) (h : AtL w a ls) (hb : At w b m) (hl : ls.length ≤ 9223372036854775807) (hls : ∀ l ∈ ls, l.length ≤ 9223372036854775807)
    (hl2 : m.length ≤ 9223372036854775807) :
    Calls Try.prog 10 #[.slice a ls.length ca, .slice b m.length cb] w fun e w' => e = .returned (.bool true) ∧ Below w.heap.size w w' := by
  have HL := hide hls
  by_cases hS : smallB ls 20 = true
  · by_cases hm : m.length ≤ 200
    · obtain ⟨hlen, hall⟩ := small_of ls 20 hS
      have hlen' : ls.length ≤ 20 := by omega
      have hfr := frame_small ls hall
      have hfr' : (frame ls).length ≤ 1000000000 := by omega
      have hsp := split_frame m ls (fun l hl => by have := hall l hl; omega)
      have hwl : (frame ls ++ m).length ≤ 1000000 := by simp; omega
      have HA := hide hall
      have HW := hide hwl
      have HF := hide hfr'
      obtain ⟨W, hW⟩ : ∃ W, W = frame ls ++ m := ⟨_, rfl⟩
      rw [← hW] at hsp HW
      have HSP := hide hsp
      have HWE := hide hW
      clear hall hls hsp hwl hfr' hfr hlen hW
      go_enter Try.func10, Try.ntmps10
      go_wp2_with (first
        | (go_at_call 13; refine (Small_calls _ _ ls _ _ h hl HL.out).mono ?_; rintro e w1 ⟨rfl, rfl⟩)
        | (go_at_call 18; refine (Frame_calls _ _ ls _ h (by omega) HF.out).mono ?_; rintro e w1 ⟨a1, c1, rfl, hown1, hbel1⟩; have hs1 := hbel1.size)
        | (at_builtin; refine wpList_pushAll tyU hown1 (l2 := m) (hb.belowN hbel1) rfl rfl rfl rfl rfl rfl (by omega) HF.out (by omega) ?_; intro a2 c2 w2 hown2 hg2 _; have hB2 := below_push hbel1 hown1 hg2 (by omega); have hs2 := hg2.size; rw [← HWE.out] at hown2; have hle := HWE.out; have hlen2 : W.length = (frame ls).length + m.length := (by rw [hle]; simp); have HLE := hide hlen2; clear hle hlen2)
        | (go_at_call 15; (with_reducible refine (Split_n _ _ _ W _ _ HLE.out.symm hown2.at_ (by rw [← HLE.out]; exact hown2.cap.1) (by have := HLE.out; have := HW.out; omega) (by omega) (by omega)).mono ?_); rw [HSP.out]; rintro e w3 ⟨a3, c3, a4, c4, rfl, hp3, hp4, hbel3⟩; have hs3 := hbel3.size; have hB3 := hB2.trans (hbel3.mono (by omega)))
        | (go_at_call 20; (with_reducible refine (Lists_calls _ _ _ _ ls _ hp3 (h.belowN hB3) (by omega) (fun l hl => by have := HA.out l hl; omega)).mono ?_); rintro e w4 ⟨rfl, q4, rfl⟩)
        | (go_at_call 17; (with_reducible refine (Same5_calls _ _ _ _ m _ (hp4.drewN _) ((hb.belowN hB3).drewN _) (by omega)).mono ?_); rintro e w5 ⟨rfl, q5, rfl⟩)
        | (go_at_call 21; (with_reducible refine (New_calls _ _ _ _ W HLE.out.symm ((hown2.at_.belowN hbel3).belowN (below_drawn _ _ _)) (by have := HLE.out; have := HW.out; omega)).mono ?_); rintro e w6 ⟨rb, ab, rfl, hR6, hbel6, hrb, _⟩; rw [HWE.out] at hR6; have hs6 := hbel6.size; simp only [World.heap_drewN] at hs6 hrb))
      have hB6 : Below w.heap.size w w6 := (below_drewN hB3 _).trans (hbel6.mono (by simp; omega))
      go_loopw [10] (fun i wr => ∃ k : Nat, k ≤ ls.length ∧ i = .int .i64 k ∧ Rdr wr rb ab (frame (ls.drop k) ++ m) 0 ∧ w6.grownBy wr (some rb)) (fun i _ => ls.length - (intOf i).toNat)
      case atStart => exact ⟨0, by omega, rfl, hR6, World.grownBy.refl _ _⟩
      case round =>
        obtain ⟨k, hk, rfl, hR, hg⟩ := hrel
        have hBr : Below w.heap.size w wr := hB6.grown hg (by omega) (fun k hk => by simp at hk; omega)
        have hsr := hBr.size
        by_cases hlt : k < ls.length
        · obtain ⟨b1, off1, a7, c7, x, rfl, hx, hc, hcap, hat⟩ := h.get hBr hlt
          have hxl := HA.out x (List.mem_of_getElem? hx.out)
          have hdr := drop_at hx.out
          have hls := lS_frame x (ls.drop (k + 1)) m hxl
          rw [hdr] at hR
          have hlR : (frame (x :: ls.drop (k + 1)) ++ m).length ≤ 1000000000 := by
            have h1 := frame_small (ls.drop k) (fun l hl => HA.out l (List.mem_of_mem_drop hl))
            rw [hdr] at h1
            simp at h1 ⊢
            omega
          have hb0 : b1 < w.heap.size := by
            obtain ⟨hs, e1, e2, e3⟩ := h
            obtain ⟨b', off', e, hb'⟩ := e1.lt (by intro e; subst e; simp at e2; omega)
            simp at e
            omega
          have HC := hide (List_calls 200 hR.drew hlR (by omega) (by omega))
          rw [hls] at HC
          clear hdr hls hlR
          go_wp2
          go_region_held3 (fun w' => w'.cell? ⟨b1, off1 + k, none⟩ = some (.slice a7 x.length c7)) (go_keep)
            (first
              | (go_at_call 22; (with_reducible refine HC.out.mono ?_); rintro o w8 ⟨a8, c8, rfl, hown8, hR8, hg8⟩; have hk8 : w8.cell? ⟨b1, off1 + k, none⟩ = some (.slice a7 x.length c7) := hg8.cell (a := ⟨b1, off1 + k, none⟩) hc (by simp; omega); have hB8 : Below w.heap.size w w8 := (hBr.drew).grown hg8 (by simp; omega) (fun k hk => by simp at hk; omega); have hg9 := grown_trans hg (grown_undrew hg8))
              | (go_at_call 17; (with_reducible refine (Same5_calls _ _ _ _ x _ hown8.at_ (hat.belowN hB8) (by omega)).mono ?_); rintro e w9 ⟨rfl, q9, rfl⟩))
          go_wp2
          go_roundw
          case rel => exact ⟨k + 1, by omega, by go_num, hR8.drewN _, grown_trans hg9 (grown_drewN _ _ _)⟩
          case measure => simp [intOf]; omega
        · have ek : ls.drop k = [] := List.drop_eq_nil_of_le (by omega)
          rw [ek] at hR
          have he2 : (frame [] ++ m).length = m.length := by simp [frame]
          have hL1 := Left_calls hR
          have hE1 := End_calls hR
          rw [he2] at hL1
          by_cases hm0 : m = []
          · have hs : endS (frame [] ++ m) 0 = 0 := by rw [hm0]; rfl
            rw [hs] at hE1
            have HL1 := hide hL1
            have HE1 := hide hE1
            have hm1 : m.length = 0 := by rw [hm0]; rfl
            have hmm : ((m.length : Int) == 0) = true := by rw [hm1]; rfl
            clear ek he2 hs hL1 hE1 hm1 hm0
            go_wp2_with (first
              | (go_at_call 36; (with_reducible refine HL1.out.mono ?_); rintro o w8 ⟨rfl, rfl⟩)
              | (go_at_call 37; (with_reducible refine HE1.out.mono ?_); rintro o w8 ⟨rfl, rfl⟩)
              | (go_at_call 14; refine (goes5_calls _).mono ?_; rintro e w8 ⟨rfl, hbel8⟩))
            go_ret
            exact ⟨rfl, hBr.trans (hbel8.mono (by omega))⟩
          · have hs : endS (frame [] ++ m) 0 = 21 := by simp [endS, frame, hm0]
            rw [hs] at hE1
            have HL1 := hide hL1
            have HE1 := hide hE1
            have hm1 : m.length ≠ 0 := by intro e; exact hm0 (List.eq_nil_of_length_eq_zero e)
            have hmm : ((m.length : Int) == 0) = false := by simpa using hm1
            clear ek he2 hs hL1 hE1 hm1 hm0
            go_wp2_with (first
              | (go_at_call 36; (with_reducible refine HL1.out.mono ?_); rintro o w8 ⟨rfl, rfl⟩)
              | (go_at_call 37; (with_reducible refine HE1.out.mono ?_); rintro o w8 ⟨rfl, rfl⟩)
              | (go_at_call 14; refine (goes5_calls _).mono ?_; rintro e w8 ⟨rfl, hbel8⟩))
            go_ret
            exact ⟨rfl, hBr.trans (hbel8.mono (by omega))⟩
    · clear hls
      go_enter Try.func10, Try.ntmps10
      go_wp2_with (first
        | (go_at_call 13; refine (Small_calls _ _ ls _ _ h hl HL.out).mono ?_; rintro e w1 ⟨rfl, rfl⟩)
        | (go_at_call 14; refine (goes5_calls _).mono ?_; rintro e w8 ⟨rfl, hbel8⟩))
      go_ret
      exact ⟨rfl, hbel8⟩
  · have hS' : smallB ls 20 = false := by simpa using hS
    clear hls hS
    go_enter Try.func10, Try.ntmps10
    go_wp2_with (first
      | (go_at_call 13; refine (Small_calls _ _ ls _ _ h hl HL.out).mono ?_; rintro e w1 ⟨rfl, rfl⟩)
      | (go_at_call 14; refine (goes5_calls _).mono ?_; rintro e w8 ⟨rfl, hbel8⟩))
    go_ret
    exact ⟨rfl, hbel8⟩
end Go.Proofs.Ytgakjkeigoiekaa
