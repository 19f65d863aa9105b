/- The walks of chapter 5: words. -/
import Derived.Test.YtgakjkeigoiekaaProg
import Derived.Test.YtgakjkeigoiekaaPre
namespace Go.Proofs.Ytgakjkeigoiekaa
set_option linter.unusedVariables false
set_option linter.unusedSimpArgs false
open Go.RowKit

theorem tyU : Ty Try.prog 23 38 UInt64 := Ty.of (z := .int .u64 0) (size := 1) (bytes := 8) Try.underlying23 (by kernel_rfl) rfl (by decide) rfl
theorem tyUU : Ty Try.prog 22 23 Hd := Ty.of (z := .slice none 0 0) (size := 1) (bytes := 24) Try.underlying22 (by kernel_rfl) rfl (by decide) rfl

def frame (ls : List (List UInt64)) : List UInt64 := ls.flatMap fun l => UInt64.ofNat l.length :: l

set_option maxHeartbeats 400000 in
theorem Frame_calls (a : Option Addr) (c : Nat) (ls : List (List UInt64)) (w : World) (h : AtL w a ls) (hl : ls.length ≤ 1000000) (hf : (frame ls).length ≤ 1000000000) :
    Calls Try.prog 18 #[.slice a ls.length c] w fun e w' => ∃ a' c', e = .returned (.slice a' (frame ls).length c') ∧ Own w' w.heap.size 38 a' c' (frame ls) ∧ Below w.heap.size w w' := by
  have HF := hide hf
  clear hf
  go_enter Try.func18, Try.ntmps18
  go_wp2
  go_loopw [3, 8] (fun out i wr => ∃ (a' : Option Addr) (c' : Nat) (o : List UInt64) (k : Nat), out = .slice a' o.length c' ∧ i = .int .i64 k ∧ k ≤ ls.length ∧ Hid (o ++ frame (ls.drop k) = frame ls) ∧ Own wr w.heap.size 38 a' c' o ∧ Below w.heap.size w wr)
    (fun _ i _ => ls.length - (intOf i).toNat)
  case atStart => exact ⟨none, 0, [], 0, rfl, rfl, by omega, by simp [Hid], Own.none _ _ _, Below.refl _ _⟩
  case round =>
    obtain ⟨a', c', o, k, rfl, rfl, hk, ho, hown, hbel⟩ := hrel
    have hsz := hbel.size
    by_cases hlt : k < ls.length
    · obtain ⟨b, off, ha, hc, l, rfl, hx, hcell, hcap, hin⟩ := h.get hbel hlt
      have HO : Hid (o ++ [UInt64.ofNat l.length] ++ l ++ frame (ls.drop (k + 1)) = frame ls) := by
        have := ho.out
        rw [drop_at hx.out] at this
        simpa [frame, Hid] using this
      have hlen : o.length + 1 + l.length ≤ 1000000000 := by
        have h1 := congrArg List.length HO.out
        simp only [List.length_append, List.length_cons, List.length_nil] at h1
        have := HF.out
        omega
      clear ho
      have hll : (UInt64.ofNat l.length).toNat = l.length := by rw [UInt64.toNat_ofNat']; exact Nat.mod_eq_of_lt (by omega)
      go_wp2_with (first
        | (at_builtin; refine wpList_push tyU hown (UInt64.ofNat l.length) rfl rfl (by simp [Flat.enc, hll]) rfl rfl rfl rfl (by omega) (by omega) ?_; intro a2 c2 w2 hown2 hg2 _)
        | (at_builtin; go_loud (refine wpList_pushAll tyU hown2 (l2 := l) (hin.belowN (below_push hbel hown hg2 hsz)) rfl rfl rfl rfl (by simp) rfl (by have := hg2.size; omega) (by omega) (by omega) ?_); intro a3 c3 w3 hown3 hg3 _))
      go_roundw
      case rel => exact ⟨a3, c3, o ++ [UInt64.ofNat l.length] ++ l, k + 1, by simp; omega, by go_num, by omega, HO, hown3, below_push (below_push hbel hown hg2 hsz) hown2 hg3 (by have := hg2.size; omega)⟩
      case measure => simp [intOf]; omega
    · go_wp2
      go_ret
      have e : o = frame ls := by
        have := ho.out
        rw [List.drop_eq_nil_of_le (by omega)] at this
        simpa [frame] using this
      subst e
      exact ⟨a', c', rfl, hown, hbel⟩
set_option maxHeartbeats 400000 in
theorem CloneU_calls (a : Option Addr) (n c : Nat) (l : List UInt64) (w : World) (hn : n = l.length) (h : At w a l) (hl : n ≤ 1000000000) :
    Calls Try.prog 44 #[.slice a n c] w fun e w' => ∃ a' c', e = .returned (.slice a' n c') ∧ Own w' w.heap.size 38 a' c' l ∧ Below w.heap.size w w' := by
  subst hn
  have heq := @Lib.run_eql_slice_nil Try.prog
  cases a with
  | none =>
    have h0 : l = [] := by
      cases l with
      | nil => rfl
      | cons x r => obtain ⟨b, off, h, _⟩ := h 0 x rfl; cases h
    subst h0
    go_enter Try.func44, Try.ntmps44
    go_wp2
    go_ret
    exact ⟨none, 0, rfl, Own.none _ _ _, Below.refl _ _⟩
  | some ad =>
    go_enter Try.func44, Try.ntmps44
    go_wp2_with (at_builtin; refine wpList_pushAll tyU (Own.new w (Nat.le_refl _) _ UInt64) (h.belowN (Below.alloc (Below.refl _ _) (Nat.le_refl _) _)) rfl rfl rfl rfl rfl rfl (by simp) (by omega) (by omega) ?_; intro a3 c3 w3 hown3 hg3 _)
    go_ret
    exact ⟨a3, c3, by simp, by simpa using hown3, (below_push (Below.alloc (Below.refl _ _) (Nat.le_refl _) _) (Own.new w (Nat.le_refl _) _ UInt64) hg3 (by simp))⟩
set_option maxHeartbeats 400000 in
theorem Same5_calls (a b : Option Addr) (ca cb : Nat) (l : List UInt64) (w : World) (h0 : At w a l) (h1 : At w b l) (hl : l.length ≤ 1000000000) :
    Calls Try.prog 17 #[.slice a l.length ca, .slice b l.length cb] w fun e w' => e = .returned (.bool true) ∧ ∃ n, w' = w.drewN n := by
  go_enter Try.func17, Try.ntmps17
  go_wp2
  go_loopw [5] (fun i wr => ∃ k : Nat, k ≤ l.length ∧ i = .int .i64 k ∧ ∃ q, wr = w.drewN q) (fun i _ => l.length - (intOf i).toNat)
  case atStart => exact ⟨0, by omega, rfl, ⟨0, rfl⟩⟩
  case round =>
    obtain ⟨k, hk, rfl, q, rfl⟩ := hrel
    by_cases hlt : k < l.length
    · obtain ⟨b1, off1, x, rfl, hx, hc⟩ := h0.getU (Below.refl _ _) hlt
      obtain ⟨b2, off2, y, rfl, hy, hd⟩ := h1.getU (Below.refl _ _) hlt
      obtain rfl : x = y := by have := hx.out.symm.trans hy.out; simpa using this
      go_wp2
      go_quiet (fail)
      go_wp2
      go_roundw
      case rel => exact ⟨k + 1, by omega, by go_num, ⟨_, rfl⟩⟩
      case measure => simp [intOf]; omega
    · go_wp2
      go_ret
      exact ⟨rfl, _, rfl⟩
set_option maxHeartbeats 400000 in
theorem Lists_calls (a b : Option Addr) (ca cb : Nat) (ls : List (List UInt64)) (w : World) (h0 : AtL w a ls) (h1 : AtL w b ls) (hl : ls.length ≤ 1000000000) (hls : ∀ l ∈ ls, l.length ≤ 1000000000) :
    Calls Try.prog 20 #[.slice a ls.length ca, .slice b ls.length cb] w fun e w' => e = .returned (.bool true) ∧ ∃ n, w' = w.drewN n := by
  have HL := hide hls
  clear hls
  go_enter Try.func20, Try.ntmps20
  go_wp2
  go_loopw [5] (fun i wr => ∃ k : Nat, k ≤ ls.length ∧ i = .int .i64 k ∧ ∃ q, wr = w.drewN q) (fun i _ => ls.length - (intOf i).toNat)
  case atStart => exact ⟨0, by omega, rfl, ⟨0, rfl⟩⟩
  case round =>
    obtain ⟨k, hk, rfl, q, rfl⟩ := hrel
    by_cases hlt : k < ls.length
    · obtain ⟨b1, off1, a1, c1, x, rfl, hx, hc, _, hat⟩ := h0.get (Below.refl _ _) hlt
      obtain ⟨b2, off2, a2, c2, y, rfl, hy, hd, _, hbt⟩ := h1.get (Below.refl _ _) hlt
      obtain rfl : x = y := by have := hx.out.symm.trans hy.out; simpa using this
      have hxl := HL.out x (List.mem_of_getElem? hx.out)
      go_wp2
      go_quiet ((go_at_call 17; exact quiet_add (Same5_calls _ _ _ _ _ _ (hat.drewN _) (hbt.drewN _) hxl)))
      go_wp2
      go_roundw
      case rel => exact ⟨k + 1, by omega, by go_num, ⟨_, rfl⟩⟩
      case measure => simp [intOf]; omega
    · go_wp2
      go_ret
      exact ⟨rfl, _, rfl⟩

set_option maxHeartbeats 800000 in
theorem Frame5_calls (a : Option Addr) (c : Nat) (ls : List (List UInt64)) (w : World) (h : AtL w a ls) (hl : ls.length ≤ 1000000) (hf : (frame ls).length ≤ 1000000000) :
    Calls Try.prog 19 #[.slice a ls.length c] w fun e w' => ∃ a' c', e = .returned (.slice a' (frame ls).length c') ∧ Own w' w.heap.size 38 a' c' (frame ls) ∧ Below w.heap.size w w' := by
  have HF := hide hf
  clear hf
  go_enter Try.func19, Try.ntmps19
  go_wp2
  go_loopw [3, 4] (fun out i wr => ∃ (a' : Option Addr) (c' : Nat) (o : List UInt64) (k : Nat), out = .slice a' o.length c' ∧ i = .int .i64 k ∧ k ≤ ls.length ∧ Hid (o ++ frame (ls.drop k) = frame ls) ∧ Own wr w.heap.size 38 a' c' o ∧ Below w.heap.size w wr)
    (fun _ i _ => ls.length - (intOf i).toNat)
  case atStart => exact ⟨_, 0, [], 0, rfl, rfl, by omega, by simp [Hid], Own.new _ (Nat.le_refl _) _ _, Below.alloc (Below.refl _ _) (Nat.le_refl _) _⟩
  case round =>
    obtain ⟨a', c', o, k, rfl, rfl, hk, ho, hown, hbel⟩ := hrel
    have hsz := hbel.size
    by_cases hlt : k < ls.length
    · obtain ⟨b, off, ha, hc, l, rfl, hx, hcell, hcap, hin⟩ := h.get hbel hlt
      have hb : b < w.heap.size := by
        obtain ⟨hs, h1, h2, h3⟩ := h
        obtain ⟨b', off', e, hb'⟩ := h1.lt (by intro e; subst e; simp at h2; omega)
        simp at e
        omega
      have HO : Hid (o ++ [UInt64.ofNat l.length] ++ l ++ frame (ls.drop (k + 1)) = frame ls) := by
        have := ho.out
        rw [drop_at hx.out] at this
        simpa [frame, Hid] using this
      have hlen : o.length + 1 + l.length ≤ 1000000000 := by
        have h1 := congrArg List.length HO.out
        simp only [List.length_append, List.length_cons, List.length_nil] at h1
        have := HF.out
        omega
      clear ho
      have hll : (UInt64.ofNat l.length).toNat = l.length := by rw [UInt64.toNat_ofNat']; exact Nat.mod_eq_of_lt (by omega)
      go_wp2_with (at_builtin; refine wpList_push tyU hown (UInt64.ofNat l.length) rfl rfl (by simp [Flat.enc, hll]) rfl rfl rfl rfl (by omega) (by omega) ?_; intro a2 c2 w2 hown2 hg2 _)
      have hbel2 := below_push hbel hown hg2 hsz
      obtain ⟨wo, rfl⟩ : ∃ wo, wo = w2 := ⟨_, rfl⟩
      go_loopw [3, 5] (fun out j wr => ∃ (a3 : Option Addr) (c3 : Nat) (m : Nat), out = .slice a3 (o.length + 1 + m) c3 ∧ j = .int .i64 m ∧ m ≤ l.length ∧ Own wr w.heap.size 38 a3 c3 (o ++ [UInt64.ofNat l.length] ++ l.take m) ∧ Below w.heap.size w wr)
        (fun _ j _ => l.length - (intOf j).toNat)
      case atStart => exact ⟨_, _, 0, rfl, rfl, by omega, by simpa using hown2, hbel2⟩
      case round =>
        obtain ⟨a3, c3, m, rfl, rfl, hm, hown3, hbel3⟩ := hrel
        have hsz3 := hbel3.size
        have hcell3 := (hbel3.cell (p := ⟨b, off + k, none⟩) hb).trans ((hbel.cell (p := ⟨b, off + k, none⟩) hb).symm.trans hcell)
        by_cases hlm : m < l.length
        · obtain ⟨b4, off4, x, rfl, hx4, hc4⟩ := hin.getU hbel3 hlm
          go_wp2_with (at_builtin; refine wpList_push tyU hown3 x rfl rfl (by simp [Flat.enc]) rfl rfl rfl (by simp; omega) (by omega) (by omega) ?_; intro a5 c5 w5 hown5 hg5 _)
          have ht : l.take (m + 1) = l.take m ++ [x] := by rw [List.take_add_one, hx4.out]; rfl
          go_roundw
          case rel => exact ⟨a5, c5, m + 1, by simp; omega, by go_num, by omega, by rw [ht, ← List.append_assoc]; exact hown5, below_push hbel3 hown3 hg5 hsz3⟩
          case measure => simp [intOf]; omega
        · go_wp2
          have em : m = l.length := by omega
          subst em
          rw [List.take_length] at hown3
          go_roundw
          case rel => exact ⟨a3, c3, o ++ [UInt64.ofNat l.length] ++ l, k + 1, by simp; omega, by go_num, by omega, HO, hown3, hbel3⟩
          case measure => simp [intOf]; omega
    · go_wp2
      go_ret
      have e : o = frame ls := by
        have := ho.out
        rw [List.drop_eq_nil_of_le (by omega)] at this
        simpa [frame] using this
      subst e
      exact ⟨a', c', rfl, hown, hbel⟩
set_option maxHeartbeats 400000 in
theorem Ints7_calls (a b : Option Addr) (ca cb : Nat) (l : List Int) (w : World) (h0 : At w a l) (h1 : At w b l) (hl : l.length ≤ 1000000000) :
    Calls Try.prog 28 #[.slice a l.length ca, .slice b l.length cb] w fun e w' => e = .returned (.bool true) ∧ ∃ n, w' = w.drewN n := by
  go_enter Try.func28, Try.ntmps28
  go_wp2
  go_loopw [5] (fun i wr => ∃ k : Nat, k ≤ l.length ∧ i = .int .i64 k ∧ ∃ q, wr = w.drewN q) (fun i _ => l.length - (intOf i).toNat)
  case atStart => exact ⟨0, by omega, rfl, ⟨0, rfl⟩⟩
  case round =>
    obtain ⟨k, hk, rfl, q, rfl⟩ := hrel
    by_cases hlt : k < l.length
    · obtain ⟨b1, off1, x, rfl, hx, hc⟩ := h0.getI (Below.refl _ _) hlt
      obtain ⟨b2, off2, y, rfl, hy, hd⟩ := h1.getI (Below.refl _ _) hlt
      obtain rfl : x = y := by have := hx.out.symm.trans hy.out; simpa using this
      go_wp2
      go_quiet (fail)
      go_wp2
      go_roundw
      case rel => exact ⟨k + 1, by omega, by go_num, ⟨_, rfl⟩⟩
      case measure => simp [intOf]; omega
    · go_wp2
      go_ret
      exact ⟨rfl, _, rfl⟩
set_option maxHeartbeats 400000 in
theorem Ops8_calls (a b : Option Addr) (ca cb : Nat) (l : List OpD) (w : World) (h0 : At w a l) (h1 : At w b l) (hl : l.length ≤ 1000000000) :
    Calls Try.prog 35 #[.slice a l.length ca, .slice b l.length cb] w fun e w' => e = .returned (.bool true) ∧ ∃ n, w' = w.drewN n := by
  go_enter Try.func35, Try.ntmps35
  go_wp2
  go_loopw [5] (fun i wr => ∃ k : Nat, k ≤ l.length ∧ i = .int .i64 k ∧ ∃ q, wr = w.drewN q) (fun i _ => l.length - (intOf i).toNat)
  case atStart => exact ⟨0, by omega, rfl, ⟨0, rfl⟩⟩
  case round =>
    obtain ⟨k, hk, rfl, q, rfl⟩ := hrel
    by_cases hlt : k < l.length
    · obtain ⟨b1, off1, x, rfl, hx, hc0, hc1, hc2, hc3, hc4⟩ := h0.getOp (Below.refl _ _) hlt
      obtain ⟨b2, off2, y, rfl, hy, hd0, hd1, hd2, hd3, hd4⟩ := h1.getOp (Below.refl _ _) hlt
      obtain rfl : x = y := by have := hx.out.symm.trans hy.out; simpa using this
      go_wp2
      go_quiet (fail)
      go_wp2
      go_roundw
      case rel => exact ⟨k + 1, by omega, by go_num, ⟨_, rfl⟩⟩
      case measure => simp [intOf]; omega
    · go_wp2
      go_ret
      exact ⟨rfl, _, rfl⟩

def splitF : Nat → List UInt64 → Option (List (List UInt64) × List UInt64)
  | 0, w => some ([], w)
  | _ + 1, [] => none
  | n + 1, h :: t => if t.length < h.toNat then none else (splitF n (t.drop h.toNat)).map fun p => (t.take h.toNat :: p.1, p.2)

/-- Into which lists words are split, and what is left; or why not. -/
def split (w : List UInt64) (n : Int) : List (List UInt64) × List UInt64 × Int :=
  if n < 0 then ([], [], 2) else match splitF n.toNat w with
    | none => ([], [], 4)
    | some p => (p.1, p.2, 0)

set_option maxHeartbeats 800000 in
theorem Split_calls (a : Option Addr) (c : Nat) (l : List UInt64) (n : Int) (w : World) (h : At w a l) (hc : l.length ≤ c) (hl : l.length ≤ 1000000) (hn1 : -9223372036854775808 ≤ n) (hn2 : n ≤ 9223372036854775807) :
    Calls Try.prog 15 #[.slice a l.length c, .int .i64 n] w fun e w' => ∃ a1 c1 a2 c2, e = .returned (.tuple #[.slice a1 (split l n).1.length c1, .slice a2 (split l n).2.1.length c2, .int .i64 (split l n).2.2]) ∧
      AtL w' a1 (split l n).1 ∧ At w' a2 (split l n).2.1 ∧ Below w.heap.size w w' := by
  by_cases hn : n < 0
  · have hs : split l n = ([], [], 2) := by simp [split, hn]
    rw [hs]
    clear hs
    go_enter Try.func15, Try.ntmps15
    go_wp2
    go_step3
    go_wp2
    try rw [Exit.noGoto_ret]
    go_ret3
    exact ⟨none, 0, none, 0, rfl, (OwnL.none w 0 0).at_, At.nil _ _, Below.refl _ _⟩
  · obtain ⟨R, hR⟩ : ∃ R, R = split l n := ⟨_, rfl⟩
    have hs : R = match splitF n.toNat l with | none => ([], [], 4) | some p => (p.1, p.2, 0) := by rw [hR]; simp [split, hn]
    rw [← hR]
    have HS := hide hs
    clear hs hR
    go_enter Try.func15, Try.ntmps15
    go_wp2
    go_step3
    go_wp2
    go_step3
    go_wp2
    go_loopw [0, 7, 8] (fun wv out ev wr => ∃ (ar : Option Addr) (cr : Nat) (r : List UInt64) (ao : Option Addr) (co : Nat) (hs : List Hd) (o : List (List UInt64)), wv = .slice ar r.length cr ∧ out = .slice ao o.length co ∧ ev = .int .i64 0 ∧ r.length ≤ cr ∧ At w ar r ∧ r.length + o.length ≤ l.length ∧
        (o.length : Int) ≤ n ∧ Hid (splitF n.toNat l = (splitF (n.toNat - o.length) r).map fun p => (o ++ p.1, p.2)) ∧ OwnL wr w.heap.size 23 ao co hs o ∧ Below w.heap.size w wr)
      (fun wv _ _ _ => match wv with | .slice _ k _ => k | _ => 0)
    case atStart => exact ⟨a, c, l, none, 0, [], [], rfl, rfl, rfl, hc, h, by simp, by simpa using hn, by simp [Hid], OwnL.none _ _ _, Below.refl _ _⟩
    case round =>
      obtain ⟨ar, cr, r, ao, co, hs, o, rfl, rfl, rfl, hcr, hat, hsum, hon, hsp, hown, hbel⟩ := hrel
      have hsz := hbel.size
      by_cases hlt : (o.length : Int) < n
      · by_cases h0 : r.length = 0
        · have hr0 : r = [] := List.eq_nil_of_length_eq_zero h0
          subst hr0
          have hR2 : R = ([], [], 4) := by
            rw [HS.out, hsp.out]
            have : n.toNat - o.length = (n.toNat - o.length - 1) + 1 := by omega
            rw [this]
            rfl
          subst hR2
          go_wp2
          try rw [Exit.noGoto_ret]
          go_ret3
          exact ⟨none, 0, none, 0, rfl, (OwnL.none wr 0 0).at_, At.nil _ _, hbel⟩
        · have hpos : 0 < r.length := by omega
          obtain ⟨b, off, x, rfl, hy, hcell⟩ := hat.getU hbel hpos
          rw [Nat.add_zero] at hcell
          obtain ⟨t, ht⟩ : ∃ t, r = x :: t := by
            cases r with
            | nil => simp at hpos
            | cons y t => exact ⟨t, by have := hy.out; simp at this; rw [this]⟩
          have hstep : splitF (n.toNat - o.length) r = if t.length < x.toNat then none else (splitF (n.toNat - (o.length + 1)) (t.drop x.toNat)).map fun p => (t.take x.toNat :: p.1, p.2) := by
            have : n.toNat - o.length = (n.toNat - (o.length + 1)) + 1 := by omega
            rw [this, ht]
            rfl
          have HST := hide hstep
          have htl : r.length = t.length + 1 := by rw [ht]; rfl
          have HT := hide ht
          have HTL := hide htl
          clear hstep h0
          by_cases hx : r.length - 1 < x.toNat
          · have hR2 : R = ([], [], 4) := by
              rw [HS.out, hsp.out, HST.out, if_pos (by omega)]
              rfl
            clear ht htl
            subst hR2
            go_wp2
            try rw [Exit.noGoto_ret]
            go_ret3
            exact ⟨none, 0, none, 0, rfl, (OwnL.none wr 0 0).at_, At.nil _ _, hbel⟩
          · clear ht htl
            have hatt : At w (cutA (some ⟨b, off, none⟩) 1 cr 1) (r.drop 1) := hat.cut hcr
            rw [HT.out] at hatt
            replace hatt : At w (cutA (some ⟨b, off, none⟩) 1 cr 1) t := hatt
            have hatd : At w (cutA (some ⟨b, off, none⟩) (x.toNat + 1) cr 1) (t.drop x.toNat) := by
              have h9 := hat.cut (k := x.toNat + 1) hcr
              rw [HT.out] at h9
              exact h9
            have htx : (t.take x.toNat).length = x.toNat := by rw [List.length_take]; have := HTL.out; omega
            have htd : (t.drop x.toNat).length = r.length - (x.toNat + 1) := by rw [List.length_drop]; have := HTL.out; omega
            have HTX := hide htx
            have HTD := hide htd
            clear htx htd
            generalize hA1 : cutA (some ⟨b, off, none⟩) 1 cr 1 = A1 at hatt
            generalize hA2 : cutA (some ⟨b, off, none⟩) (x.toNat + 1) cr 1 = A2 at hatd
            go_wp2_with (first
              | (go_at_call 44; refine (CloneU_calls _ _ _ (t.take x.toNat) _ HTX.out.symm ((hatt.take _).belowN hbel) (by omega)).mono ?_; rintro e w1 ⟨a1, c1, rfl, hown1, hbel1⟩; have hownL := hown.belowN hbel1)
              | (at_builtin; go_loud (refine wpList_push tyUU hownL.1 ⟨a1, x.toNat, c1⟩ rfl rfl rfl rfl rfl rfl hownL.2.1.symm (by have := hbel1.size; omega) (by omega) ?_); intro a2 c2 w2 hown2 hg2 hm2))
            go_roundw
            case rel =>
              have hs1 := hbel1.size
              have hne := own_apart (w0 := w) hown.1 hown1 (by omega) (Nat.le_refl _)
              have hcap1 := hown1.cap
              have e1 := HTX.out
              refine ⟨A2, cr - (x.toNat + 1), t.drop x.toNat, a2, c2, hs ++ [⟨a1, x.toNat, c1⟩], o ++ [t.take x.toNat], by rw [HTD.out], by simp, rfl, by rw [HTD.out]; omega, hatd, by rw [HTD.out]; simp; omega, by simp; omega, ?_, ?_, below_push (hbel.trans (hbel1.mono hsz)) hownL.1 hg2 (by omega)⟩
              · show splitF n.toNat l = _
                rw [hsp.out, HST.out, if_neg (by have := HTL.out; omega)]
                simp [List.append_assoc, Function.comp_def]
              · have := hownL.push hown1.at_ hcap1.1 hne (by rw [e1]; exact hown2) hg2 hm2
                rw [e1] at this
                exact this
            case measure => simp; omega
      · have e0 : n.toNat - o.length = 0 := by omega
        have hR2 : R = (o, r, 0) := by
          rw [HS.out, hsp.out, e0]
          simp [splitF]
        subst hR2
        go_wp2_with (go_at_call 44; refine (CloneU_calls _ _ _ r _ rfl (hat.belowN hbel) (by omega)).mono ?_; rintro e w1 ⟨a1, c1, rfl, hown1, hbel1⟩)
        try rw [Exit.noGoto_ret]
        go_ret3
        exact ⟨ao, co, a1, c1, rfl, (hown.belowN hbel1).at_, hown1.at_, hbel.trans (hbel1.mono hsz)⟩
end Go.Proofs.Ytgakjkeigoiekaa
