/- Chapter 16: the closures of look: mark, the test of the wanted registers; slices.Backward as an iterator. -/
import Derived.Deep.DeepMust
import Derived.Test.YthncfoompoheoaaQi
import Derived.Test.YthncfoompoheoaaQg
import Derived.Test.YthncfoompoheoaaLv
namespace Go.Proofs.Ythncfoompoheoaa
set_option linter.unusedVariables false
set_option linter.unusedSimpArgs false
open Go.RowKit Go.Shelf

/-! ### mark -/
theorem markL_snoc (w : List Bool) (l : List Int) {k : Nat} {x : Int} (h : l[k]? = some x) : markL w (l.take (k + 1)) = (markL w (l.take k)).set x.toNat true := by
  rw [List.take_add_one, h]
  show markL w (l.take k ++ [x]) = _
  unfold markL
  rw [List.foldl_append]
  rfl
set_option maxHeartbeats 800000 in
theorem Mark_calls (wb gw cw nr B : Nat) (W : List Bool) (a : Option Addr) (c n : Nat) (l : List Int) (w : World) (hn : n = l.length) (h : At w a l) (hl : n ≤ 1000000) (hb : Blk w wb 138 #[.slice (some ⟨gw, 0, none⟩) nr cw]) (hne : wb ≠ gw) (hag : l ≠ [] → a.map (·.block) ≠ some gw)
    (hW : Own w B 4 (some ⟨gw, 0, none⟩) cw W) (hnr : nr = W.length) (hin : ∀ i ∈ l, 0 ≤ i ∧ i.toNat < nr) :
    Calls Try.prog 143 #[.slice a n c, .pointer (some ⟨wb, 0, none⟩)] w fun e w' => e = .returned (.tuple #[]) ∧ Own w' B 4 (some ⟨gw, 0, none⟩) cw (markL W l) ∧ Turned [gw] w w' := by
  have HIN := hide hin
  have HNR := hide hnr
  have HN := hide hn
  have hbl := hb.lt
  have hgl := (hW.blk gw rfl).2
  clear hin hnr hn
  go_enter Try.func143, Try.ntmps143
  go_wp2
  go_loopw [7] (fun iv wr => ∃ k : Nat, iv = .int .i64 k ∧ k ≤ n ∧ Own wr B 4 (some ⟨gw, 0, none⟩) cw (markL W (l.take k)) ∧ Turned [gw] w wr) (fun iv _ => n - (intOf iv).toNat)
  case atStart => exact ⟨0, rfl, by omega, hW, Turned.refl _ _⟩
  case round =>
    obtain ⟨k, rfl, hk, hown, hT⟩ := hrel
    have hbr : Blk wr wb 138 #[.slice (some ⟨gw, 0, none⟩) nr cw] := (hT.block wb hbl (by simp; omega)).trans hb
    obtain ⟨p0, p1⟩ := hbr.c1
    by_cases hlt : k < n
    · have hat : At wr a l := h.turned hT (fun hnl q hq e => by simp at hq; subst hq; exact hag hnl e)
      obtain ⟨b1, off1, x, rfl, hx, c0⟩ := hat.getI (Below.refl _ _) (by have := HN.out; omega : k < l.length)
      obtain ⟨x0, x1⟩ := HIN.out x (List.mem_of_getElem? hx.out)
      have HS := hide (markL_snoc W l hx.out)
      have hx2 : x < (nr : Int) := by omega
      have hml : (markL W (l.take k)).length = nr := by rw [markL_length, HNR.out]
      obtain ⟨vb, hvb⟩ : ∃ vb, (markL W (l.take k))[x.toNat]? = some vb := ⟨_, List.getElem?_eq_getElem (by omega)⟩
      have q0 : wr.cell? ⟨gw, x.toNat, none⟩ = some (.bool vb) := by simpa [Flat.n] using hown.cellAt hvb (f := 0) rfl
      have q1 := hown.frozen x.toNat
      have hown2 := hown.set1 x.toNat true _ rfl
      clear hml hvb
      go_wp2
      go_roundw
      case rel => exact ⟨k + 1, by go_num, by omega, by rw [HS.out]; exact hown2, hT.trans (Turned.ofGrown (F := [gw]) (grown_setCell _ gw _ _) (fun q hq => .inl (by injection hq with hq; simp [hq]))) (fun b hb => .inl hb)⟩
      case measure => simp [intOf]; omega
    · obtain rfl : k = n := by omega
      rw [HN.out, List.take_length] at hown
      go_wp2
      go_end0
      exact ⟨rfl, hown, hT⟩
theorem Look2_calls (regs k : Int) (g : Nat) (sl : Value) (w : World) (h : Blk w g 24 #[.int .i64 regs, sl]) : Calls Try.prog 145 #[.int .i64 k, .pointer (some ⟨g, 0, none⟩)] w fun e w' => e = .returned (.bool (!(decide (0 ≤ k) && decide (k < regs)))) ∧ Below w.heap.size w w' := by
  obtain ⟨q0, q1, q2, q3⟩ := h.c2
  rcases Int.lt_or_le k 0 with h0 | h0
  · go_enter Try.func145, Try.ntmps145
    go_wp2
    go_ret
    exact ⟨by rw [decide_eq_false (by omega)]; rfl, Below.refl _ _⟩
  · rcases Int.lt_or_le k regs with h1 | h1
    · go_enter Try.func145, Try.ntmps145
      go_wp2
      go_ret
      exact ⟨by have e1 : ¬ k < 0 := by omega
                have e2 : ¬ regs ≤ k := by omega
                simp [h0, h1, e1, e2], Below.refl _ _⟩
    · go_enter Try.func145, Try.ntmps145
      go_wp2
      go_ret
      exact ⟨by have e1 : ¬ k < regs := by omega
                simp [h0, e1], Below.refl _ _⟩
set_option maxRecDepth 100000 in
set_option maxHeartbeats 800000 in
theorem IndexOuts (g : Nat) (p : Int → Bool) (a : Option Addr) (c : Nat) (l : List Int) (w : World) (h : At w a l) (hl : l.length ≤ 1000000)
    (hcall : ∀ (x : Int) (w' : World), x ∈ l → Below w.heap.size w w' → Calls Try.prog 145 #[.int .i64 x, .pointer (some ⟨g, 0, none⟩)] w' fun e w'' => e = .returned (.bool (p x)) ∧ Below w'.heap.size w' w'') :
    Calls Try.prog 153 #[.slice a l.length c, .func (.func 145) #[] #[.pointer (some ⟨g, 0, none⟩)]] w fun e w' => ((l.any p = true → ∃ j : Nat, e = .returned (.int .i64 (j : Int))) ∧ (l.any p = false → e = .returned (.int .i64 (-1)))) ∧ Below w.heap.size w w' := by
  have HC := hide hcall
  obtain ⟨R, hR⟩ : ∃ R, R = l.any p := ⟨_, rfl⟩
  rw [← hR]
  have HR := hide hR
  clear hcall hR
  go_enter Try.func153, Try.ntmps153
  go_wp2
  go_loopw [8] (fun i wr => ∃ k : Nat, i = .int .i64 k ∧ k ≤ l.length ∧ Hid (R = (l.drop k).any p) ∧ Below w.heap.size w wr) (fun i _ => l.length - (intOf i).toNat)
  case atStart => exact ⟨0, rfl, by omega, HR.out, Below.refl _ _⟩
  case round =>
    obtain ⟨k, rfl, hk, hRk, hbr⟩ := hrel
    by_cases hlt : k < l.length
    · obtain ⟨b1, off1, x, rfl, hx, x0⟩ := h.getI hbr hlt
      have hd := drop_at hx.out
      have hR2 := hRk.out
      rw [hd, List.any_cons] at hR2
      have hcx := fun w' hb => HC.out x w' (List.mem_of_getElem? hx.out) hb
      have HCX := hide hcx
      cases hp : p x with
      | true =>
        rw [hp] at hR2 HCX
        have HRT : Hid (R = true) := by show R = true; rw [hR2]; rfl
        clear hd hR2 hcx hx hp hRk
        go_wp2_with (go_at_call 145; ((with_reducible refine (HCX.out _ hbr).mono ?_); rintro e w1 ⟨rfl, hb1⟩))
        go_ret
        exact ⟨⟨fun _ => ⟨k, rfl⟩, fun h => by rw [HRT.out] at h; cases h⟩, hbr.trans (hb1.mono hbr.size)⟩
      | false =>
        rw [hp] at hR2 HCX
        have HR2 := hide hR2
        clear hd hR2 hcx hx hp hRk
        go_wp2_with (go_at_call 145; ((with_reducible refine (HCX.out _ hbr).mono ?_); rintro e w1 ⟨rfl, hb1⟩))
        go_roundw
        case rel => exact ⟨k + 1, by go_num, by omega, by show R = _; rw [HR2.out]; rfl, hbr.trans (hb1.mono hbr.size)⟩
        case measure => simp [intOf]; omega
    · obtain rfl : k = l.length := by omega
      have HRF : Hid (R = false) := by show R = false; rw [hRk.out, List.drop_eq_nil_of_le (by omega)]; rfl
      go_wp2
      go_ret
      exact ⟨⟨fun h => (by rw [HRF.out] at h; cases h), fun _ => rfl⟩, hbr⟩
theorem ContOuts (g : Nat) (p : Int → Bool) (a : Option Addr) (c : Nat) (l : List Int) (w : World) (h : At w a l) (hl : l.length ≤ 1000000)
    (hcall : ∀ (x : Int) (w' : World), x ∈ l → Below w.heap.size w w' → Calls Try.prog 145 #[.int .i64 x, .pointer (some ⟨g, 0, none⟩)] w' fun e w'' => e = .returned (.bool (p x)) ∧ Below w'.heap.size w' w'') :
    Calls Try.prog 144 #[.slice a l.length c, .func (.func 145) #[] #[.pointer (some ⟨g, 0, none⟩)]] w fun e w' => e = .returned (.bool (l.any p)) ∧ Below w.heap.size w w' := by
  have HI := hide (IndexOuts g p a c l w h hl hcall)
  clear hcall
  cases hp : l.any p with
  | true =>
    rw [hp] at HI
    clear hp
    go_enter Try.func144, Try.ntmps144
    go_wp2_with (go_at_call 153; ((with_reducible refine (HI.out).mono ?_); rintro e w1 ⟨⟨h1, h2⟩, hb1⟩; obtain ⟨j, rfl⟩ := h1 rfl; clear h1 h2))
    go_ret
    exact ⟨by simp, hb1⟩
  | false =>
    rw [hp] at HI
    clear hp
    go_enter Try.func144, Try.ntmps144
    go_wp2_with (go_at_call 153; ((with_reducible refine (HI.out).mono ?_); rintro e w1 ⟨⟨h1, h2⟩, hb1⟩; obtain rfl := h2 rfl; clear h1 h2))
    go_ret
    exact ⟨by simp, hb1⟩
theorem outs_any (regs : Int) (outs : List Int) : (outs.any fun k => !(decide (0 ≤ k) && decide (k < regs))) = !outsB regs outs := by
  unfold outsB
  induction outs with
  | nil => rfl
  | cons x r ih => rw [List.any_cons, List.all_cons, ih, Bool.not_and (decide (0 ≤ x) && decide (x < regs))]

/-! ### from the end -/
def bwN (l : List Int) : Nat → List (Int × Int)
  | 0 => []
  | n + 1 => ((n : Int), (l[n]?).getD 0) :: bwN l n
theorem bw_calls (a : Option Addr) (n c : Nat) (w : World) : Calls Try.prog 146 #[.slice a n c] w fun e w' => e = .returned (.func (.func 154) #[] #[.pointer (some ⟨w.heap.size, 0, none⟩)]) ∧ w' = w.alloc (.cells #[.slice a n c] 25) := by
  go_enter Try.func146, Try.ntmps146
  go_wp2
  go_ret
  exact ⟨rfl, rfl⟩
set_option maxRecDepth 100000 in
set_option maxHeartbeats 3200000 in
theorem bw_seq (n : Nat) (hn : 1 ≤ n) (Bs : Nat) (ac : Option Addr) (cc : Nat) (l : List Int) (hl : l.length ≤ 1000000) (w : World) (hBs : Blk w Bs 25 #[.slice ac l.length cc]) (hc : At w ac l) :
    SeqAll Fence.wide n Try.prog 154 #[.pointer (some ⟨Bs, 0, none⟩)] (fun x : Int × Int => #[.int .i64 x.1, .int .i64 x.2]) (bwN l l.length) (fun b => b ≠ Bs ∧ (l ≠ [] → ac.map (·.block) ≠ some b)) w := fun lb J F0 W hW hJ hF0 hY h0 => by
  obtain ⟨xs, hxs⟩ : ∃ xs, xs = bwN l l.length := ⟨_, rfl⟩
  rw [← hxs] at hY ⊢
  have HXS := hide hxs
  have HY := hide hY
  have HJ := hide hJ
  have HF0 := hide hF0
  have H0 := hide h0
  have hBW := hBs.belowN hW
  have hcW := hc.belowN hW
  have hbl := hBW.lt
  obtain ⟨p0, p1⟩ := hBW.c1
  clear hY hJ hF0 h0 hBs hxs
  refine callsIn_of_wp Try.func154 rfl trivial ?_ rfl
  simp only [Try.ntmps154, List.size_toArray, List.length_cons, List.length_nil, Nat.reduceAdd, Nat.reduceSub, Array.replicate_succ, Array.replicate_zero, List.push_toArray, List.append_toArray, List.nil_append, List.cons_append]
  gi_wp2
  gi_loopw [3] (fun iv wr => ∃ (n : Nat) (pre : List (Int × Int)) (G : List Nat), iv = .int .i64 ((n : Int) - 1) ∧ n ≤ l.length ∧ Hid (xs = pre ++ bwN l n) ∧ Hid (J pre G wr) ∧ Hid (∀ b ∈ G, b ∈ F0 ∨ W.heap.size ≤ b) ∧ Turned F0 W wr) (fun iv _ => (intOf iv + 1).toNat)
  case atStart => exact ⟨l.length, [], F0, rfl, by omega, HXS.out, H0.out, fun b hb => .inl hb, Turned.refl _ _⟩
  case round =>
    obtain ⟨m, pre, G, rfl, hm, hx, hj, hG, hT⟩ := hrel
    have hXr : At wr ac l := hcW.turned hT (fun hne g hg e => (HF0.out g hg).2 hne e)
    have hBr : Blk wr Bs 25 #[.slice ac l.length cc] := (hT.block Bs hbl (fun hm => (HF0.out _ hm).1 rfl)).trans hBW
    obtain ⟨q0, q1⟩ := hBr.c1
    cases m with
    | zero =>
      have e3 : xs = pre := by rw [hx.out]; simp [bwN]
      have HE := hide e3
      clear e3
      gi_wp2
      go_end0
      exact ⟨⟨_, rfl⟩, G, by rw [HE.out]; exact hj.out, hT, hG.out⟩
    | succ m =>
      obtain ⟨b1, off1, x, hac, hxm, c0⟩ := hXr.getI (Below.refl _ _) (by omega : m < l.length)
      subst hac
      have hxs2 : xs = pre ++ ((m : Int), x) :: bwN l m := by rw [hx.out, bwN, hxm.out]; rfl
      obtain ⟨fn, tmps, assign, body, hy, hR⟩ := HY.out pre ((m : Int), x) G _ hj.out hT ⟨bwN l m, hxs2⟩
      have HXS2 := hide hxs2
      clear hxs2 HY
      try dsimp only at hy
      gi_wp2
      refine hR.mono ?_
      rintro e W3 ⟨rfl, G', hj3, hT3, hG3⟩
      have hHT := hide (fun b (hb : b ∈ G') => hG3 b hb)
      have hsz := hT.size
      have hT13 : Turned F0 W W3 := hT.trans hT3 (fun b hb => hG.out b hb)
      have hG3' : ∀ b ∈ G', b ∈ F0 ∨ W.heap.size ≤ b := fun b hb => (hG3 b hb).elim (hG.out b) (fun h => .inr (by omega))
      have hx3 : xs = (pre ++ [((m : Int), x)]) ++ bwN l m := by rw [HXS2.out]; simp
      have HJ3 := hide hj3
      have HG3 := hide hG3'
      have HX3 := hide hx3
      clear hj3 hG3 hG3' hx3 hT3 hR hy
      gi_wp2
      go_roundw
      case rel => exact ⟨m, pre ++ [((m : Int), x)], G', by go_num, by omega, HX3.out, HJ3.out, HG3.out, hT13⟩
      case measure => simp [intOf]
end Go.Proofs.Ythncfoompoheoaa
