/- Chapter 5: the law WordsCut. -/
import Derived.Test.YtgakjkeigoiekaaW5h
namespace Go.Proofs.Ytgakjkeigoiekaa
set_option linter.unusedVariables false
set_option linter.unusedSimpArgs false
open Go.RowKit

theorem splitF_cut : ∀ (ls : List (List UInt64)) (k : Nat), (∀ l ∈ ls, l.length ≤ 1000000000) → k < (frame ls).length → splitF ls.length ((frame ls).take k) = none
  | [], k, _, h => by simp [frame] at h
  | x :: r, k, h, hk => by
    have hx := ofNat_len x.length (h x (by simp))
    have e := frame_cons x r []
    simp only [List.append_nil] at e
    rw [e] at hk ⊢
    cases k with
    | zero => rfl
    | succ k =>
      simp only [List.length_cons, List.length_append] at hk
      rw [List.take_succ_cons, List.length_cons, splitF, hx]
      by_cases hc : k < x.length
      · rw [if_pos (by simp; omega)]
      · rw [if_neg (by simp; omega), List.drop_take, List.drop_left, splitF_cut r _ (fun l hl => h l (by simp [hl])) (by omega)]
        rfl

theorem split_cut (ls : List (List UInt64)) (k : Nat) (h : ∀ l ∈ ls, l.length ≤ 1000000000) (hk : k < (frame ls).length) : split ((frame ls).take k) ls.length = ([], [], 4) := by
  unfold split
  rw [if_neg (by omega)]
  simp [splitF_cut ls k h hk]

theorem rem_bd (x : Int) (n : Nat) (hn : 0 < n) : -(n : Int) < x.tmod n ∧ x.tmod n < n := by
  have h1 := Int.tmod_lt_of_pos x (show (0 : Int) < n by omega)
  have h2 := Int.lt_tmod_of_pos x (show (0 : Int) < n by omega)
  exact ⟨h2, h1⟩

set_option maxHeartbeats 400000 in
theorem New_own (w : World) (a : Option Addr) (n c : Nat) (l : List UInt64) (hn : n = l.length) (h : At w a l) (hl : n ≤ 1000000000) :
    Calls Try.prog 21 #[.slice a n c] w fun o w' => ∃ rb a2 c2, o = .returned (.pointer (some ⟨rb, 0, none⟩)) ∧ Blk w' rb 89 #[.slice a2 l.length c2, .int .i64 0] ∧ Own w' w.heap.size 38 a2 c2 l ∧ a2.map (·.block) ≠ some rb ∧ Below w.heap.size w w' ∧ w.heap.size ≤ rb := by
  subst hn
  go_enter Try.func21, Try.ntmps21
  go_wp2_with (go_at_call 44; refine (CloneU_calls _ _ _ l _ rfl h hl).mono ?_; rintro o w2 ⟨a2, c2, rfl, hown, hbel⟩)
  go_ret
  have hs := hbel.size
  refine ⟨w2.heap.size, a2, c2, rfl, Blk.new _ _ _, hown.alloc _, fun e => ?_, Below.alloc hbel hs _, hs⟩
  have := (hown.blk _ e).2
  omega

set_option maxHeartbeats 800000 in
theorem WordsCut_calls (a : Option Addr) (ca : Nat) (ls : List (List UInt64)) (t : Int) (w : World) (h : AtL w a ls) (hl : ls.length ≤ 9223372036854775807) (hls : ∀ l ∈ ls, l.length ≤ 9223372036854775807)
    (ht1 : -9223372036854775808 ≤ t) (ht2 : t ≤ 9223372036854775807) :
    Calls Try.prog 4 #[.slice a ls.length ca, .int .i64 t] w fun e w' => e = .returned (.bool true) ∧ Below w.heap.size w w' := by
  have HL := hide hls
  by_cases hS : smallB ls 20 = true
  · by_cases h0 : ls.length = 0
    · have h0' : ((ls.length : Int) == 0) = true := by simpa using h0
      clear hls h0
      go_enter Try.func4, Try.ntmps4
      go_wp2_with (first
        | (go_at_call 13; refine (Small_calls _ _ ls _ _ h hl HL.out).mono ?_; rintro e w1 ⟨rfl, rfl⟩)
        | (go_at_call 14; refine (goes5_calls _).mono ?_; rintro e w8 ⟨rfl, hbel8⟩))
      go_ret
      exact ⟨rfl, hbel8⟩
    · obtain ⟨hlen, hall⟩ := small_of ls 20 hS
      have hlen' : ls.length ≤ 20 := by omega
      have hfr := frame_small ls hall
      have hfr' : (frame ls).length ≤ 1000000 := by omega
      obtain ⟨x, r, hxr⟩ : ∃ x r, ls = x :: r := List.exists_cons_of_ne_nil (by intro e; subst e; simp at h0)
      have hpos : 0 < (frame ls).length := by rw [hxr]; simp [frame]
      have hb := rem_bd t (frame ls).length hpos
      have hb1 := hb.1
      have hb2 := hb.2
      have hK1 : 0 ≤ t.tmod ((frame ls).length : Int) % ((frame ls).length : Int) := Int.emod_nonneg _ (by omega)
      have hK2 : t.tmod ((frame ls).length : Int) % ((frame ls).length : Int) < ((frame ls).length : Int) := Int.emod_lt_of_pos _ (by omega)
      have hcut := split_cut ls (t.tmod ((frame ls).length : Int) % ((frame ls).length : Int)).toNat (fun l hl => by have := hall l hl; omega) (by omega)
      have HCUT := hide hcut
      have HA := hide hall
      have HX := hide hxr
      have hlp : 0 < ls.length := by omega
      have h0' : ((ls.length : Int) == 0) = false := by simpa using h0
      clear hls hall hfr hb hxr h0 hlen hcut
      go_enter Try.func4, Try.ntmps4
      go_wp2_with (first
        | (go_at_call 13; refine (Small_calls _ _ ls _ _ h hl HL.out).mono ?_; rintro e w1 ⟨rfl, rfl⟩)
        | (go_at_call 18; refine (Frame_calls _ _ ls _ h (by omega) (by omega)).mono ?_; rintro e w1 ⟨a1, c1, rfl, hown1, hbel1⟩; have hs1 := hbel1.size; have hcap1 := hown1.cap.1; have hK3 : t.tmod ((frame ls).length : Int) % ((frame ls).length : Int) ≤ (c1 : Int) := (by omega))
        | (go_at_call 15; (with_reducible refine (Split_n _ _ _ ((frame ls).take (t.tmod ((frame ls).length : Int) % ((frame ls).length : Int)).toNat) _ _ (by simp; omega) (hown1.at_.take _) (by omega) (by omega) (by omega) (by omega)).mono ?_); rw [HCUT.out]; rintro e w2 ⟨a2, c2, a3, c3, rfl, hp2, hp3, hbel2⟩; have hs2 := hbel2.size; have hf2 := hown1.at_.belowN hbel2)
        | (at_builtin; refine wpList_pushAll tyU (Own.new w2 (Nat.le_refl _) _ UInt64) (hf2.belowN (Below.alloc (Below.refl _ _) (Nat.le_refl _) _)) rfl rfl rfl rfl rfl rfl (by simp) (by omega) (by omega) ?_; intro a4 c4 w4 hown4 hg4 _; have hB4 := below_push (Below.alloc (Below.refl _ _) (Nat.le_refl _) _) (Own.new w2 (Nat.le_refl _) _ UInt64) hg4 (by simp); rw [List.nil_append] at hown4; have hs4 := hB4.size; obtain ⟨g4, hga, hgb, hgc⟩ := hown4.some_ (by intro e; rw [e] at hpos; simp at hpos); subst hga)
        | (go_at_call 21; (with_reducible refine (New_own _ _ _ _ (frame ls) (by simp) hown4.at_ (by omega)).mono ?_); rintro e w6 ⟨rb, a6, c6, rfl, hb6, hown6, hne6, hbel6, hrb⟩; have hs6 := hbel6.size))
      have hB6 : Below w.heap.size w w6 := ((hbel1.trans (hbel2.mono hs1)).trans (hB4.mono (by omega))).trans (hbel6.mono (by omega))
      have hown7 := hown4.belowN hbel6
      go_loopw [12] (fun i wr => ∃ (k : Nat) (L : List UInt64), k ≤ (frame ls).length ∧ i = .int .i64 k ∧ Hid (L.length = (frame ls).length) ∧ Own wr w2.heap.size 38 (some ⟨g4, 0, none⟩) c4 L ∧ w6.grownBy wr (some g4)) (fun i _ => (frame ls).length - (intOf i).toNat)
      case atStart => exact ⟨0, frame ls, by omega, rfl, rfl, hown7, World.grownBy.refl _ _⟩
      case round =>
        obtain ⟨k, L, hk, rfl, hL, hown, hg⟩ := hrel
        by_cases hlt : k < (frame ls).length
        · obtain ⟨y, u, hy1, hy2, hy3⟩ := hown.cell1 (i := k) (by rw [hL.out]; exact hlt) rfl
          have hf := hown.frozen k
          go_wp2
          go_roundw
          case rel => exact ⟨k + 1, L.set k 0, by omega, by go_num, by simpa [Hid] using hL.out, hown.set1 k 0 _ rfl, grown_trans hg (grown_setCell _ _ _ _)⟩
          case measure => simp [intOf]; omega
        · have hsr := hg.size
          have hBr : Below w.heap.size w wr := hB6.grown hg (by omega) (fun k hk => by simp at hk; omega)
          have hRb : Blk wr rb 89 #[.slice a6 (frame ls).length c6, .int .i64 0] := hb6.grown hg (by simp; omega)
          have hRo := hown6.grown hg (.inr (fun e => by have := (hown6.blk _ e).1; omega))
          have hR : Rdr wr rb (a6.map (·.block)) (frame ls) 0 := ⟨a6, c6, hRb, hRo.at_, hRo.cap.1, rfl, hne6⟩
          have hxl : x.length ≤ 200 := HA.out x (by rw [HX.out]; simp)
          obtain ⟨b1, off1, a7, c7, x', rfl, hx, hc, hcap, hat⟩ := h.get hBr hlp
          obtain rfl : x = x' := by
            have := hx.out
            rw [HX.out] at this
            simpa using this
          rw [Nat.add_zero] at hc
          have hb0 : b1 < w.heap.size := by
            obtain ⟨hs, e1, e2, e3⟩ := h
            obtain ⟨b', off', e, hb'⟩ := e1.lt (by intro e; subst e; simp at e2; omega)
            simp at e
            omega
          have hls := lS_frame x r [] hxl
          simp only [List.append_nil] at hls
          rw [← HX.out] at hls
          have HC := hide (List_calls 200 hR.drew (by omega) (by omega) (by omega))
          rw [hls] at HC
          clear hls
          go_wp2
          go_region_held3 (fun w' => w'.cell? ⟨b1, off1, none⟩ = some (.slice a7 x.length c7)) (go_keep)
            (first
              | (go_at_call 22; (with_reducible refine HC.out.mono ?_); rintro o w8 ⟨a8, c8, rfl, hown8, hR8, hg8⟩; have hk8 : w8.cell? ⟨b1, off1, none⟩ = some (.slice a7 x.length c7) := hg8.cell (a := ⟨b1, off1, none⟩) hc (by simp; omega); have hB8 : Below w.heap.size w w8 := (hBr.drew).grown hg8 (by simp; omega) (fun k hk => by simp at hk; omega); have hs8 := hB8.size)
              | (go_at_call 17; (with_reducible refine (Same5_calls _ _ _ _ x _ hown8.at_ (hat.belowN hB8) (by omega)).mono ?_); rintro e w9 ⟨rfl, q9, rfl⟩)
              | (go_at_call 14; refine (goes5_calls _).mono ?_; rintro e w10 ⟨rfl, hbel10⟩; have hk10 : w10.cell? ⟨b1, off1, none⟩ = some (.slice a7 x.length c7) := (hbel10.cell (p := ⟨b1, off1, none⟩) (by simp; omega)).trans (by simpa using hk8)))
          go_wp2
          go_ret
          exact ⟨rfl, (below_drewN hB8 _).trans (hbel10.mono (by simp; omega))⟩
  · have hS' : smallB ls 20 = false := by simpa using hS
    clear hls hS
    go_enter Try.func4, Try.ntmps4
    go_wp2_with (first
      | (go_at_call 13; refine (Small_calls _ _ ls _ _ h hl HL.out).mono ?_; rintro e w1 ⟨rfl, rfl⟩)
      | (go_at_call 14; refine (goes5_calls _).mono ?_; rintro e w8 ⟨rfl, hbel8⟩))
    go_ret
    exact ⟨rfl, hbel8⟩
end Go.Proofs.Ytgakjkeigoiekaa
