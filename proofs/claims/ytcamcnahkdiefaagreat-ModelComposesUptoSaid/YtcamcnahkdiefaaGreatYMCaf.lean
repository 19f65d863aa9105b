/- Several texts of mine in one file. -/
import Derived.Test.YtcamcnahkdiefaaGreatYMCae
import Derived.Laws.EntriesVeiled
/- Several texts of mine in one file: C10a, C10b, C10c. -/
/- Chapter 10: whether a program may be: the looks, one by one. -/
namespace Go.Proofs.YtcamcnahkdiefaaGreat
set_option linter.unusedVariables false
set_option linter.unusedSimpArgs false
open Go.RowKit

theorem fail_calls (b : Bool) (n : Int) (w : World) : Calls Tryz.prog 124 #[.bool b, .int .i64 n] w fun e w' => e = .returned (.int .i64 (if b = true then n else 0)) ∧ w = w' := by
  cases b
  all_goals
    go_enter Tryz.func124, Tryz.ntmps124
    go_wp2
    go_ret
    exact ⟨rfl, rfl⟩

set_option maxRecDepth 100000 in
set_option maxHeartbeats 800000 in
theorem IndexForm  (p : OpD → Bool) (a : Option Addr) (c : Nat) (l : List OpD) (w : World) (h : At w a l) (hl : l.length ≤ 1000000)
    (hcall : ∀ (x : OpD) (w' : World), x ∈ l → Below w.heap.size w w' → Calls Tryz.prog 195 #[.agg #[.int .i64 x.kind, .int .i64 x.d, .int .i64 x.a, .int .i64 x.b, .int .u64 (x.v.toNat : Int)]] w' fun e w'' => e = .returned (.bool (p x)) ∧ Below w'.heap.size w' w'') :
    Calls Tryz.prog 206 #[.slice a l.length c, .func (.func 195) #[] #[]] w fun e w' => ((l.any p = true → ∃ j : Nat, e = .returned (.int .i64 (j : Int))) ∧ (l.any p = false → e = .returned (.int .i64 (-1)))) ∧ Below w.heap.size w w' := by
  have HC := hide hcall
  obtain ⟨R, hR⟩ : ∃ R, R = l.any p := ⟨_, rfl⟩
  rw [← hR]
  have HR := hide hR
  clear hcall hR
  go_enter Tryz.func206, Tryz.ntmps206
  go_wp2
  go_loopw [8] (fun i wr => ∃ k : Nat, i = .int .i64 k ∧ k ≤ l.length ∧ Hid (R = (l.drop k).any p) ∧ Below w.heap.size w wr) (fun i _ => l.length - (intOf i).toNat)
  case atStart => exact ⟨0, rfl, by omega, HR.out, Below.refl _ _⟩
  case round =>
    obtain ⟨k, rfl, hk, hRk, hbr⟩ := hrel
    by_cases hlt : k < l.length
    · obtain ⟨b1, off1, x, rfl, hx, x0, x1, x2, x3, x4⟩ := h.getOp hbr hlt
      have hd := drop_at hx.out
      have hR2 := hRk.out
      rw [hd, List.any_cons] at hR2
      have hcx := fun w' hb => HC.out x w' (List.mem_of_getElem? hx.out) hb
      have HCX := hide hcx
      cases hp : p x with
      | true =>
        rw [hp] at hR2 HCX
        have HRT : Hid (R = true) := by show R = true; rw [hR2]; rfl
        clear hd hR2 hcx hx hp hRk
        go_wp2_with (go_at_call 195; ((with_reducible refine (HCX.out _ hbr).mono ?_); rintro e w1 ⟨rfl, hb1⟩))
        go_ret
        exact ⟨⟨fun _ => ⟨k, rfl⟩, fun h => by rw [HRT.out] at h; cases h⟩, hbr.trans (hb1.mono hbr.size)⟩
      | false =>
        rw [hp] at hR2 HCX
        have HR2 := hide hR2
        clear hd hR2 hcx hx hp hRk
        go_wp2_with (go_at_call 195; ((with_reducible refine (HCX.out _ hbr).mono ?_); rintro e w1 ⟨rfl, hb1⟩))
        go_roundw
        case rel => exact ⟨k + 1, by go_num, by omega, by show R = _; rw [HR2.out]; rfl, hbr.trans (hb1.mono hbr.size)⟩
        case measure => simp [intOf]; omega
    · obtain rfl : k = l.length := by omega
      have HRF : Hid (R = false) := by show R = false; rw [hRk.out, List.drop_eq_nil_of_le (by omega)]; rfl
      go_wp2
      go_ret
      exact ⟨⟨fun h => (by rw [HRF.out] at h; cases h), fun _ => rfl⟩, hbr⟩
theorem ContForm  (p : OpD → Bool) (a : Option Addr) (c : Nat) (l : List OpD) (w : World) (h : At w a l) (hl : l.length ≤ 1000000)
    (hcall : ∀ (x : OpD) (w' : World), x ∈ l → Below w.heap.size w w' → Calls Tryz.prog 195 #[.agg #[.int .i64 x.kind, .int .i64 x.d, .int .i64 x.a, .int .i64 x.b, .int .u64 (x.v.toNat : Int)]] w' fun e w'' => e = .returned (.bool (p x)) ∧ Below w'.heap.size w' w'') :
    Calls Tryz.prog 197 #[.slice a l.length c, .func (.func 195) #[] #[]] w fun e w' => e = .returned (.bool (l.any p)) ∧ Below w.heap.size w w' := by
  have HI := hide (IndexForm  p a c l w h hl hcall)
  clear hcall
  cases hp : l.any p with
  | true =>
    rw [hp] at HI
    clear hp
    go_enter Tryz.func197, Tryz.ntmps197
    go_wp2_with (go_at_call 206; ((with_reducible refine (HI.out).mono ?_); rintro e w1 ⟨⟨h1, h2⟩, hb1⟩; obtain ⟨j, rfl⟩ := h1 rfl; clear h1 h2))
    go_ret
    exact ⟨by simp, hb1⟩
  | false =>
    rw [hp] at HI
    clear hp
    go_enter Tryz.func197, Tryz.ntmps197
    go_wp2_with (go_at_call 206; ((with_reducible refine (HI.out).mono ?_); rintro e w1 ⟨⟨h1, h2⟩, hb1⟩; obtain rfl := h2 rfl; clear h1 h2))
    go_ret
    exact ⟨by simp, hb1⟩

theorem form1_calls (x : OpD) (w : World) : Calls Tryz.prog 195 #[.agg #[.int .i64 x.kind, .int .i64 x.d, .int .i64 x.a, .int .i64 x.b, .int .u64 (x.v.toNat : Int)]] w fun e w' => e = .returned (.bool (!rightB x)) ∧ Below w.heap.size w w' := by
  obtain ⟨k, rd, ra, rb, v⟩ := x
  have HR := hide (fun w => Right_calls ⟨k, rd, ra, rb, v⟩ w)
  generalize rightB ⟨k, rd, ra, rb, v⟩ = R at *
  simp only at *
  go_enter Tryz.func195, Tryz.ntmps195
  go_wp2_with (go_at_call 196; ((with_reducible refine (HR.out _).mono ?_); rintro e w1 ⟨rfl, hb1⟩))
  go_ret
  exact ⟨rfl, (Below.alloc (Below.refl _ _) (Nat.le_refl _) _).trans (hb1.mono (by simp))⟩
theorem formB_any (l : List OpD) : formB l = (decide (l.length ≤ 4096) && well l && !(l.any fun x => !rightB x)) := by
  unfold formB
  congr 1
  induction l with
  | nil => rfl
  | cons x r ih => simp [ih]

set_option maxHeartbeats 800000 in
theorem form_calls (regs : Int) (a : Option Addr) (c : Nat) (l : List OpD) (w : World) (h : At w a l) (hl : l.length ≤ 1000000) :
    Calls Tryz.prog 182 #[.agg #[.int .i64 regs, .slice a l.length c]] w fun e w' => e = .returned (.int .i64 (if formB l = true then 0 else 6)) ∧ Below w.heap.size w w' := by
  have hX := Blk.new w 200 #[.int .i64 regs, .slice a l.length c]
  obtain ⟨R, hR⟩ : ∃ R, R = formB l := ⟨_, rfl⟩
  have hR2 := hR.trans (formB_any l)
  rw [← hR]
  have HF := hide (fun n w => fail_calls true n w)
  have HF0 := hide (fun n w => fail_calls false n w)
  have HC := hide (fun w' (g : At w' a l) => ContForm (fun x => !rightB x) a c l w' g hl (fun x w2 _ _ => form1_calls x w2))
  obtain ⟨Y, hY⟩ : ∃ Y, Y = l.any (fun x => !rightB x) := ⟨_, rfl⟩
  rw [← hY] at hR2 HC
  have HR := hide hR2
  obtain ⟨V, hV⟩ : ∃ V : Int, V = if R = true then 0 else 6 := ⟨_, rfl⟩
  rw [← hV]
  have HV := hide hV
  clear hR hR2 hY hV
  cases hw : well l with
  | false =>
    rw [hw] at HR
    have HM := hide (fun w' (g : At w' a l) => MatchN a c l w' g hl hw)
    have hRf : Hid (R = false) := by show R = false; rw [HR.out]; simp
    clear hw
    by_cases h1 : 4096 < l.length
    all_goals
      go_enter Tryz.func182, Tryz.ntmps182
      go_wp2_with (first
        | (go_at_call 96; ((with_reducible refine (HM.out _ (h.belowN (Below.alloc (Below.refl _ _) (Nat.le_refl _) _))).mono ?_); rintro e w1 ⟨a1, c1, rfl, hb1⟩; obtain ⟨q0, q1, q2, q3⟩ := (hX.belowN hb1).c2))
        | (go_at_call 124; ((with_reducible refine (HF.out _ _).mono ?_); rintro e w2 ⟨rfl, rfl⟩)))
      go_ret
      exact ⟨by rw [HV.out, hRf.out] <;> rfl, (Below.alloc (Below.refl _ _) (Nat.le_refl _) _).trans (hb1.mono (by simp))⟩
  | true =>
    rw [hw] at HR
    have HM := hide (fun w' (g : At w' a l) => MatchW a c l w' g hl hw)
    clear hw
    by_cases h1 : 4096 < l.length
    · have hRf : Hid (R = false) := by show R = false; rw [HR.out]; simp; omega
      go_enter Tryz.func182, Tryz.ntmps182
      go_wp2_with (first
        | (go_at_call 96; ((with_reducible refine (HM.out _ (h.belowN (Below.alloc (Below.refl _ _) (Nat.le_refl _) _))).mono ?_); rintro e w1 ⟨a1, c1, rfl, hom, hb1⟩; obtain ⟨q0, q1, q2, q3⟩ := (hX.belowN hb1).c2))
        | (go_at_call 124; ((with_reducible refine (HF.out _ _).mono ?_); rintro e w2 ⟨rfl, rfl⟩)))
      go_ret
      exact ⟨by rw [HV.out, hRf.out] <;> rfl, (Below.alloc (Below.refl _ _) (Nat.le_refl _) _).trans (hb1.mono (by simp))⟩
    · have hRy : Hid (R = !Y) := by show R = _; rw [HR.out]; simp; omega
      have d1 : decide (4096 < (l.length : Int)) = false := by simp; omega
      cases Y
      all_goals
        go_enter Tryz.func182, Tryz.ntmps182
        go_wp2_with (first
          | (go_at_call 96; ((with_reducible refine (HM.out _ (h.belowN (Below.alloc (Below.refl _ _) (Nat.le_refl _) _))).mono ?_); rintro e w1 ⟨a1, c1, rfl, hom, hb1⟩; obtain ⟨q0, q1, q2, q3⟩ := (hX.belowN hb1).c2))
          | (go_at_call 197; ((with_reducible refine (HC.out _ ((h.belowN (Below.alloc (Below.refl _ _) (Nat.le_refl _) _)).belowN hb1)).mono ?_); rintro e w2 ⟨rfl, hb2⟩))
          | (go_at_call 124; first | ((with_reducible refine (HF.out _ _).mono ?_); rintro e w3 ⟨rfl, rfl⟩) | ((with_reducible refine (HF0.out _ _).mono ?_); rintro e w3 ⟨rfl, rfl⟩)))
        go_ret
        exact ⟨by rw [HV.out, hRy.out] <;> rfl, (Below.alloc (Below.refl _ _) (Nat.le_refl _) _).trans ((hb1.trans (hb2.mono hb1.size)).mono (by simp))⟩

theorem depth_calls (regs : Int) (a : Option Addr) (c : Nat) (l : List OpD) (w : World) (h : At w a l) (hl : l.length ≤ 1000000) :
    Calls Tryz.prog 184 #[.agg #[.int .i64 regs, .slice a l.length c]] w fun e w' => e = .returned (.int .i64 (if (deepS l).1 ≤ 8 then 0 else 8)) ∧ Below w.heap.size w w' := by
  have HF := hide (fun n w => fail_calls true n w)
  have HF0 := hide (fun n w => fail_calls false n w)
  have HD := hide (fun w' (g : At w' a l) => Deep_calls a c l w' g hl)
  generalize (deepS l).1 = D at *
  generalize (deepS l).2 = E at *
  by_cases h1 : D ≤ 8
  · have e : (if D ≤ 8 then (0 : Int) else 8) = 0 := if_pos h1
    have d1 : decide (8 < D) = false := by simp; omega
    rw [e]
    clear e
    go_enter Tryz.func184, Tryz.ntmps184
    go_wp2_with (first
      | (go_at_call 201; ((with_reducible refine (HD.out _ (h.belowN (Below.alloc (Below.refl _ _) (Nat.le_refl _) _))).mono ?_); rintro e w1 ⟨rfl, hb1⟩))
      | (go_at_call 124; ((with_reducible refine (HF0.out _ _).mono ?_); rintro e w2 ⟨rfl, rfl⟩)))
    go_ret
    exact ⟨rfl, (Below.alloc (Below.refl _ _) (Nat.le_refl _) _).trans (hb1.mono (by simp))⟩
  · have e : (if D ≤ 8 then (0 : Int) else 8) = 8 := if_neg h1
    have d1 : decide (8 < D) = true := by simp; omega
    rw [e]
    clear e
    go_enter Tryz.func184, Tryz.ntmps184
    go_wp2_with (first
      | (go_at_call 201; ((with_reducible refine (HD.out _ (h.belowN (Below.alloc (Below.refl _ _) (Nat.le_refl _) _))).mono ?_); rintro e w1 ⟨rfl, hb1⟩))
      | (go_at_call 124; ((with_reducible refine (HF.out _ _).mono ?_); rintro e w2 ⟨rfl, rfl⟩)))
    go_ret
    exact ⟨rfl, (Below.alloc (Below.refl _ _) (Nat.le_refl _) _).trans (hb1.mono (by simp))⟩
theorem cwrites_calls (regs : Int) (a : Option Addr) (c : Nat) (l : List OpD) (w : World) (h : At w a l) (hl : l.length ≤ 1000000) :
    Calls Tryz.prog 185 #[.agg #[.int .i64 regs, .slice a l.length c]] w fun e w' => e = .returned (.int .i64 (sizeE l)) ∧ Below w.heap.size w w' := by
  have HD := hide (fun w' (g : At w' a l) => SizeW_calls a c l w' g hl)
  generalize sizeW l = W at *
  generalize sizeE l = E at *
  go_enter Tryz.func185, Tryz.ntmps185
  go_wp2_with (go_at_call 58; ((with_reducible refine (HD.out _ (h.belowN (Below.alloc (Below.refl _ _) (Nat.le_refl _) _))).mono ?_); rintro e w1 ⟨rfl, hb1⟩))
  go_ret
  exact ⟨rfl, (Below.alloc (Below.refl _ _) (Nat.le_refl _) _).trans (hb1.mono (by simp))⟩

/-! ### registers -/
set_option maxRecDepth 100000 in
set_option maxHeartbeats 800000 in
theorem IndexReg (g : Nat) (p : Int → Bool) (a : Option Addr) (c : Nat) (l : List Int) (w : World) (h : At w a l) (hl : l.length ≤ 1000000)
    (hcall : ∀ (x : Int) (w' : World), x ∈ l → Below w.heap.size w w' → Calls Tryz.prog 200 #[.int .i64 x, .pointer (some ⟨g, 0, none⟩)] w' fun e w'' => e = .returned (.bool (p x)) ∧ Below w'.heap.size w' w'') :
    Calls Tryz.prog 165 #[.slice a l.length c, .func (.func 200) #[] #[.pointer (some ⟨g, 0, none⟩)]] w fun e w' => ((l.any p = true → ∃ j : Nat, e = .returned (.int .i64 (j : Int))) ∧ (l.any p = false → e = .returned (.int .i64 (-1)))) ∧ Below w.heap.size w w' := by
  have HC := hide hcall
  obtain ⟨R, hR⟩ : ∃ R, R = l.any p := ⟨_, rfl⟩
  rw [← hR]
  have HR := hide hR
  clear hcall hR
  go_enter Tryz.func165, Tryz.ntmps165
  go_wp2
  go_loopw [8] (fun i wr => ∃ k : Nat, i = .int .i64 k ∧ k ≤ l.length ∧ Hid (R = (l.drop k).any p) ∧ Below w.heap.size w wr) (fun i _ => l.length - (intOf i).toNat)
  case atStart => exact ⟨0, rfl, by omega, HR.out, Below.refl _ _⟩
  case round =>
    obtain ⟨k, rfl, hk, hRk, hbr⟩ := hrel
    by_cases hlt : k < l.length
    · obtain ⟨b1, off1, x, rfl, hx, x0⟩ := h.getI hbr hlt
      have hd := drop_at hx.out
      have hR2 := hRk.out
      rw [hd, List.any_cons] at hR2
      have hcx := fun w' hb => HC.out x w' (List.mem_of_getElem? hx.out) hb
      have HCX := hide hcx
      cases hp : p x with
      | true =>
        rw [hp] at hR2 HCX
        have HRT : Hid (R = true) := by show R = true; rw [hR2]; rfl
        clear hd hR2 hcx hx hp hRk
        go_wp2_with (go_at_call 200; ((with_reducible refine (HCX.out _ hbr).mono ?_); rintro e w1 ⟨rfl, hb1⟩))
        go_ret
        exact ⟨⟨fun _ => ⟨k, rfl⟩, fun h => by rw [HRT.out] at h; cases h⟩, hbr.trans (hb1.mono hbr.size)⟩
      | false =>
        rw [hp] at hR2 HCX
        have HR2 := hide hR2
        clear hd hR2 hcx hx hp hRk
        go_wp2_with (go_at_call 200; ((with_reducible refine (HCX.out _ hbr).mono ?_); rintro e w1 ⟨rfl, hb1⟩))
        go_roundw
        case rel => exact ⟨k + 1, by go_num, by omega, by show R = _; rw [HR2.out]; rfl, hbr.trans (hb1.mono hbr.size)⟩
        case measure => simp [intOf]; omega
    · obtain rfl : k = l.length := by omega
      have HRF : Hid (R = false) := by show R = false; rw [hRk.out, List.drop_eq_nil_of_le (by omega)]; rfl
      go_wp2
      go_ret
      exact ⟨⟨fun h => (by rw [HRF.out] at h; cases h), fun _ => rfl⟩, hbr⟩
theorem ContReg (g : Nat) (p : Int → Bool) (a : Option Addr) (c : Nat) (l : List Int) (w : World) (h : At w a l) (hl : l.length ≤ 1000000)
    (hcall : ∀ (x : Int) (w' : World), x ∈ l → Below w.heap.size w w' → Calls Tryz.prog 200 #[.int .i64 x, .pointer (some ⟨g, 0, none⟩)] w' fun e w'' => e = .returned (.bool (p x)) ∧ Below w'.heap.size w' w'') :
    Calls Tryz.prog 140 #[.slice a l.length c, .func (.func 200) #[] #[.pointer (some ⟨g, 0, none⟩)]] w fun e w' => e = .returned (.bool (l.any p)) ∧ Below w.heap.size w w' := by
  have HI := hide (IndexReg g p a c l w h hl hcall)
  clear hcall
  cases hp : l.any p with
  | true =>
    rw [hp] at HI
    clear hp
    go_enter Tryz.func140, Tryz.ntmps140
    go_wp2_with (go_at_call 165; ((with_reducible refine (HI.out).mono ?_); rintro e w1 ⟨⟨h1, h2⟩, hb1⟩; obtain ⟨j, rfl⟩ := h1 rfl; clear h1 h2))
    go_ret
    exact ⟨by simp, hb1⟩
  | false =>
    rw [hp] at HI
    clear hp
    go_enter Tryz.func140, Tryz.ntmps140
    go_wp2_with (go_at_call 165; ((with_reducible refine (HI.out).mono ?_); rintro e w1 ⟨⟨h1, h2⟩, hb1⟩; obtain rfl := h2 rfl; clear h1 h2))
    go_ret
    exact ⟨by simp, hb1⟩

theorem reg11_calls (regs n : Int) (g : Nat) (sl : Value) (w : World) (h : Blk w g 200 #[.int .i64 regs, sl]) : Calls Tryz.prog 200 #[.int .i64 n, .pointer (some ⟨g, 0, none⟩)] w fun e w' => e = .returned (.bool (decide (regs ≤ n))) ∧ Below w.heap.size w w' := by
  obtain ⟨q0, q1, q2, q3⟩ := h.c2
  go_enter Tryz.func200, Tryz.ntmps200
  go_wp2
  go_ret
  exact ⟨rfl, Below.refl _ _⟩
theorem off_any (regs : Int) (x : OpD) : offB regs x = ((if dOf x.kind = true then readsL x ++ [x.d] else readsL x).any fun n => decide (regs ≤ n)) := by
  have hb : bOf x.kind = true → aOf x.kind = true := by unfold bOf aOf; simp; omega
  unfold offB readsL
  cases hA : aOf x.kind <;> cases hB : bOf x.kind <;> cases hD : dOf x.kind <;> simp [hA, hB] at hb ⊢
  all_goals simp [Bool.or_assoc]
theorem reads_len (x : OpD) : (readsL x).length ≤ 2 := by unfold readsL; split <;> (try split) <;> simp

set_option maxHeartbeats 1600000 in
theorem reg1_calls (regs : Int) (g : Nat) (sl : Value) (x : OpD) (w : World) (h : Blk w g 200 #[.int .i64 regs, sl]) : Calls Tryz.prog 198 #[.agg #[.int .i64 x.kind, .int .i64 x.d, .int .i64 x.a, .int .i64 x.b, .int .u64 (x.v.toNat : Int)], .pointer (some ⟨g, 0, none⟩)] w fun e w' => e = .returned (.bool (offB regs x)) ∧ Below w.heap.size w w' := by
  have hoff := off_any regs x
  have HR := hide (fun w => Reads_calls x w)
  have HW := hide (fun w => Writes7_calls x w)
  have hlen := reads_len x
  unfold ReadsPost at HR
  obtain ⟨V, hV⟩ : ∃ V, V = offB regs x := ⟨_, rfl⟩
  rw [← hV] at hoff ⊢
  obtain ⟨k, rd, ra, rb, v⟩ := x
  simp only at *
  generalize readsL ⟨k, rd, ra, rb, v⟩ = L at *
  have HV := hide hoff
  clear hoff hV
  have hg := h.lt
  cases hD : dOf k with
  | false =>
    rw [hD] at HW HV
    simp only [Bool.false_eq_true, if_false] at HW HV
    have HC := hide (fun w' a c (g1 : At w' a L) (g2 : Blk w' g 200 #[.int .i64 regs, sl]) => ContReg g (fun n => decide (regs ≤ n)) a c L w' g1 (by omega) (fun x w2 _ hb => reg11_calls regs x g sl w2 (g2.belowN hb)))
    rw [← HV.out] at HC
    clear hD
    go_enter Tryz.func198, Tryz.ntmps198
    go_wp2_with (first
      | (go_at_call 199; ((with_reducible refine (HR.out _).mono ?_); rintro e w1 ⟨a1, c1, rfl, own1, hb1⟩; obtain ⟨hz, hB1, hX⟩ := box5 hb1; obtain ⟨x0, x1, x2, x3, x4, y0, y1, y2, y3, y4⟩ := hX.c5))
      | (go_at_call 149; ((with_reducible refine (HW.out _).mono ?_); rintro e w2 ⟨rfl, hb2⟩))
      | (go_at_call 140; ((with_reducible refine (HC.out _ _ _ (own1.belowN hb2).at_ ((h.belowN hB1).belowN hb2)).mono ?_); rintro e w3 ⟨rfl, hb3⟩)))
    go_ret
    exact ⟨rfl, hB1.trans ((hb2.trans (hb3.mono hb2.size)).mono hB1.size)⟩
  | true =>
    rw [hD] at HW HV
    simp only [if_true] at HW HV
    have HC := hide (fun w' a c (g1 : At w' a (L ++ [rd])) (g2 : Blk w' g 200 #[.int .i64 regs, sl]) => ContReg g (fun n => decide (regs ≤ n)) a c (L ++ [rd]) w' g1 (by simp; omega) (fun x w2 _ hb => reg11_calls regs x g sl w2 (g2.belowN hb)))
    rw [← HV.out] at HC
    rw [List.length_append, List.length_singleton] at HC
    clear hD
    go_enter Tryz.func198, Tryz.ntmps198
    go_wp2_with (first
      | (go_at_call 199; ((with_reducible refine (HR.out _).mono ?_); rintro e w1 ⟨a1, c1, rfl, own1, hb1⟩; obtain ⟨hz, hB1, hX⟩ := box5 hb1; obtain ⟨x0, x1, x2, x3, x4, y0, y1, y2, y3, y4⟩ := hX.c5; clear hb1))
      | (go_at_call 149; ((with_reducible refine (HW.out _).mono ?_); rintro e w2 ⟨rfl, hb2⟩; have own2 := own1.belowN hb2; have hB2 := hB1.trans (hb2.mono hB1.size); have hz2 := hb2.size; clear own1))
      | (at_builtin; refine wpList_push tyI own2 rd rfl rfl rfl rfl rfl rfl rfl (by simp; omega) (by omega) ?_; intro a3 c3 w3 hown3 hg3 _)
      | (go_at_call 140; ((with_reducible refine (HC.out _ _ _ hown3.at_ ?_).mono ?_); (focus (skip; exact ((h.belowN hB2).grown hg3 (fun e => by have := (own2.blk g e.symm).1; simp at this; omega)))); rintro e w4 ⟨rfl, hb4⟩)))
    go_ret
    have hB3 := below_push hB2 (own2.mono (by simp)) hg3 hB2.size
    exact ⟨rfl, hB3.trans (hb4.mono hB3.size)⟩

set_option maxRecDepth 100000 in
set_option maxHeartbeats 800000 in
theorem IndexRegs (g : Nat) (p : OpD → Bool) (a : Option Addr) (c : Nat) (l : List OpD) (w : World) (h : At w a l) (hl : l.length ≤ 1000000)
    (hcall : ∀ (x : OpD) (w' : World), x ∈ l → Below w.heap.size w w' → Calls Tryz.prog 198 #[.agg #[.int .i64 x.kind, .int .i64 x.d, .int .i64 x.a, .int .i64 x.b, .int .u64 (x.v.toNat : Int)], .pointer (some ⟨g, 0, none⟩)] w' fun e w'' => e = .returned (.bool (p x)) ∧ Below w'.heap.size w' w'') :
    Calls Tryz.prog 206 #[.slice a l.length c, .func (.func 198) #[] #[.pointer (some ⟨g, 0, none⟩)]] w fun e w' => ((l.any p = true → ∃ j : Nat, e = .returned (.int .i64 (j : Int))) ∧ (l.any p = false → e = .returned (.int .i64 (-1)))) ∧ Below w.heap.size w w' := by
  have HC := hide hcall
  obtain ⟨R, hR⟩ : ∃ R, R = l.any p := ⟨_, rfl⟩
  rw [← hR]
  have HR := hide hR
  clear hcall hR
  go_enter Tryz.func206, Tryz.ntmps206
  go_wp2
  go_loopw [8] (fun i wr => ∃ k : Nat, i = .int .i64 k ∧ k ≤ l.length ∧ Hid (R = (l.drop k).any p) ∧ Below w.heap.size w wr) (fun i _ => l.length - (intOf i).toNat)
  case atStart => exact ⟨0, rfl, by omega, HR.out, Below.refl _ _⟩
  case round =>
    obtain ⟨k, rfl, hk, hRk, hbr⟩ := hrel
    by_cases hlt : k < l.length
    · obtain ⟨b1, off1, x, rfl, hx, x0, x1, x2, x3, x4⟩ := h.getOp hbr hlt
      have hd := drop_at hx.out
      have hR2 := hRk.out
      rw [hd, List.any_cons] at hR2
      have hcx := fun w' hb => HC.out x w' (List.mem_of_getElem? hx.out) hb
      have HCX := hide hcx
      cases hp : p x with
      | true =>
        rw [hp] at hR2 HCX
        have HRT : Hid (R = true) := by show R = true; rw [hR2]; rfl
        clear hd hR2 hcx hx hp hRk
        go_wp2_with (go_at_call 198; ((with_reducible refine (HCX.out _ hbr).mono ?_); rintro e w1 ⟨rfl, hb1⟩))
        go_ret
        exact ⟨⟨fun _ => ⟨k, rfl⟩, fun h => by rw [HRT.out] at h; cases h⟩, hbr.trans (hb1.mono hbr.size)⟩
      | false =>
        rw [hp] at hR2 HCX
        have HR2 := hide hR2
        clear hd hR2 hcx hx hp hRk
        go_wp2_with (go_at_call 198; ((with_reducible refine (HCX.out _ hbr).mono ?_); rintro e w1 ⟨rfl, hb1⟩))
        go_roundw
        case rel => exact ⟨k + 1, by go_num, by omega, by show R = _; rw [HR2.out]; rfl, hbr.trans (hb1.mono hbr.size)⟩
        case measure => simp [intOf]; omega
    · obtain rfl : k = l.length := by omega
      have HRF : Hid (R = false) := by show R = false; rw [hRk.out, List.drop_eq_nil_of_le (by omega)]; rfl
      go_wp2
      go_ret
      exact ⟨⟨fun h => (by rw [HRF.out] at h; cases h), fun _ => rfl⟩, hbr⟩
theorem ContRegs (g : Nat) (p : OpD → Bool) (a : Option Addr) (c : Nat) (l : List OpD) (w : World) (h : At w a l) (hl : l.length ≤ 1000000)
    (hcall : ∀ (x : OpD) (w' : World), x ∈ l → Below w.heap.size w w' → Calls Tryz.prog 198 #[.agg #[.int .i64 x.kind, .int .i64 x.d, .int .i64 x.a, .int .i64 x.b, .int .u64 (x.v.toNat : Int)], .pointer (some ⟨g, 0, none⟩)] w' fun e w'' => e = .returned (.bool (p x)) ∧ Below w'.heap.size w' w'') :
    Calls Tryz.prog 197 #[.slice a l.length c, .func (.func 198) #[] #[.pointer (some ⟨g, 0, none⟩)]] w fun e w' => e = .returned (.bool (l.any p)) ∧ Below w.heap.size w w' := by
  have HI := hide (IndexRegs g p a c l w h hl hcall)
  clear hcall
  cases hp : l.any p with
  | true =>
    rw [hp] at HI
    clear hp
    go_enter Tryz.func197, Tryz.ntmps197
    go_wp2_with (go_at_call 206; ((with_reducible refine (HI.out).mono ?_); rintro e w1 ⟨⟨h1, h2⟩, hb1⟩; obtain ⟨j, rfl⟩ := h1 rfl; clear h1 h2))
    go_ret
    exact ⟨by simp, hb1⟩
  | false =>
    rw [hp] at HI
    clear hp
    go_enter Tryz.func197, Tryz.ntmps197
    go_wp2_with (go_at_call 206; ((with_reducible refine (HI.out).mono ?_); rintro e w1 ⟨⟨h1, h2⟩, hb1⟩; obtain rfl := h2 rfl; clear h1 h2))
    go_ret
    exact ⟨by simp, hb1⟩
theorem regsB_any (regs : Int) (l : List OpD) : regsB regs l = (decide (1 ≤ regs) && decide (regs ≤ 64) && !(l.any (offB regs))) := by
  unfold regsB
  congr 1
  induction l with
  | nil => rfl
  | cons x r ih => simp [ih]
set_option maxHeartbeats 800000 in
theorem registers_calls (regs : Int) (a : Option Addr) (c : Nat) (l : List OpD) (w : World) (h : At w a l) (hl : l.length ≤ 1000000) :
    Calls Tryz.prog 183 #[.agg #[.int .i64 regs, .slice a l.length c]] w fun e w' => e = .returned (.int .i64 (if regsB regs l = true then 0 else 7)) ∧ Below w.heap.size w w' := by
  have hX := Blk.new w 200 #[.int .i64 regs, .slice a l.length c]
  have hb1 : Below w.heap.size w (w.alloc (.cells #[.int .i64 regs, .slice a l.length c] 200)) := Below.alloc (Below.refl _ _) (Nat.le_refl _) _
  obtain ⟨R, hR⟩ : ∃ R, R = regsB regs l := ⟨_, rfl⟩
  have hR2 := hR.trans (regsB_any regs l)
  rw [← hR]
  have HF := hide (fun n w => fail_calls true n w)
  have HF0 := hide (fun n w => fail_calls false n w)
  have HC := hide (fun w' (g : At w' a l) (g2 : Blk w' w.heap.size 200 #[.int .i64 regs, .slice a l.length c]) => ContRegs w.heap.size (offB regs) a c l w' g hl (fun x w2 _ hb => reg1_calls regs w.heap.size _ x w2 (g2.belowN hb)))
  obtain ⟨Y, hY⟩ : ∃ Y, Y = l.any (offB regs) := ⟨_, rfl⟩
  rw [← hY] at hR2 HC
  have HR := hide hR2
  obtain ⟨V, hV⟩ : ∃ V : Int, V = if R = true then 0 else 7 := ⟨_, rfl⟩
  rw [← hV]
  have HV := hide hV
  clear hR hR2 hY hV
  by_cases h1 : regs < 1
  · have hRf : Hid (R = false) := by show R = false; rw [HR.out]; simp; omega
    have d1 : decide (regs < 1) = true := by simp; omega
    go_enter Tryz.func183, Tryz.ntmps183
    go_wp2_with (go_at_call 124; ((with_reducible refine (HF.out _ _).mono ?_); rintro e w2 ⟨rfl, rfl⟩))
    go_ret
    exact ⟨by rw [HV.out, hRf.out] <;> rfl, hb1⟩
  have d1 : decide (regs < 1) = false := by simp; omega
  by_cases h2 : 64 < regs
  · have hRf : Hid (R = false) := by show R = false; rw [HR.out]; simp; omega
    have d2 : decide (64 < regs) = true := by simp; omega
    go_enter Tryz.func183, Tryz.ntmps183
    go_wp2_with (go_at_call 124; ((with_reducible refine (HF.out _ _).mono ?_); rintro e w2 ⟨rfl, rfl⟩))
    go_ret
    exact ⟨by rw [HV.out, hRf.out] <;> rfl, hb1⟩
  have d2 : decide (64 < regs) = false := by simp; omega
  have hRy : Hid (R = !Y) := by show R = _; rw [HR.out]; simp; omega
  have hz : (w.alloc (.cells #[.int .i64 regs, .slice a l.length c] 200)).heap.size = w.heap.size + 1 := by simp
  have HZ := hide hz
  clear hz
  cases Y
  all_goals
    go_enter Tryz.func183, Tryz.ntmps183
    go_wp2_with (first
      | (go_at_call 197; ((with_reducible refine (HC.out _ (h.belowN hb1) hX).mono ?_); rintro e w2 ⟨rfl, hb2⟩; rw [HZ.out] at hb2))
      | (go_at_call 124; first | ((with_reducible refine (HF.out _ _).mono ?_); rintro e w3 ⟨rfl, rfl⟩) | ((with_reducible refine (HF0.out _ _).mono ?_); rintro e w3 ⟨rfl, rfl⟩)))
    go_ret
    exact ⟨by rw [HV.out, hRy.out] <;> rfl, hb1.trans (hb2.mono (by omega))⟩
end Go.Proofs.YtcamcnahkdiefaaGreat

/- Chapter 10: all looks, in their order, at some programs. -/
namespace Go.Proofs.YtcamcnahkdiefaaGreat
set_option linter.unusedVariables false
set_option linter.unusedSimpArgs false
open Go.RowKit

def lookV (regs : Int) (sl : Value) (i : Nat) : Value :=
  if i = 0 then .func (.func 182) #[.agg #[.int .i64 regs, sl]] #[] else if i = 1 then .func (.func 183) #[.agg #[.int .i64 regs, sl]] #[]
  else if i = 2 then .func (.func 184) #[.agg #[.int .i64 regs, sl]] #[] else .func (.func 185) #[.agg #[.int .i64 regs, sl]] #[]
def lookA (regs : Int) (sl : Value) : Array Value := #[lookV regs sl 0, lookV regs sl 1, lookV regs sl 2, lookV regs sl 3]
theorem looks_calls (regs : Int) (sl : Value) (w : World) : Calls Tryz.prog 156 #[.agg #[.int .i64 regs, sl]] w fun e w' =>
    ∃ g, e = .returned (.slice (some ⟨g, 0, none⟩) 4 4) ∧ w.heap.size ≤ g ∧ Blk w' g 242 (lookA regs sl) ∧ Below w.heap.size w w' := by
  go_enter Tryz.func156, Tryz.ntmps156
  go_wp2
  go_ret
  exact ⟨w.heap.size + 1, rfl, by omega, by have := Blk.new (w.alloc (.cells #[.int .i64 regs, sl] 200)) 242 (lookA regs sl); simp at this; exact this, (by with_reducible repeat first | exact Below.refl _ _ | assumption | refine below_drewN ?_ _ | refine Below.drew ?_ | refine Below.alloc ?_ (by simp <;> omega) _ | refine Below.setCell ?_ (by simp <;> omega) _)⟩

structure PrD where
  regs : Int
  a : Option Addr
  c : Nat
  l : List OpD
instance : Flat PrD := ⟨2, fun x => [.int .i64 x.regs, .slice x.a x.l.length x.c], fun _ => rfl, fun x u hu => by simp at hu; rcases hu with rfl | rfl <;> rfl, by decide⟩
def PrD.sl (p : PrD) : Value := .slice p.a p.l.length p.c
def errI (i : Nat) (p : PrD) : Int := if i = 0 then (if formB p.l = true then 0 else 6) else if i = 1 then (if regsB p.regs p.l = true then 0 else 7) else if i = 2 then (if (deepS p.l).1 ≤ 8 then 0 else 8) else sizeE p.l
def rowE (i : Nat) : List PrD → Int
  | [] => 0
  | p :: r => if errI i p ≠ 0 then errI i p else rowE i r
def firstL (ps : List PrD) : List Nat → Int
  | [] => 0
  | i :: r => if rowE i ps ≠ 0 then rowE i ps else firstL ps r
def firstS (ps : List PrD) : Int := firstL ps [0, 1, 2, 3]

def LooksAt (w : World) (ao : Option Addr) (hs : List Hd) (ps : List PrD) : Prop :=
  hs.length = ps.length ∧ ∀ (j : Nat) (h : Hd) (p : PrD), hs[j]? = some h → ps[j]? = some p → ∃ g, h = ⟨some ⟨g, 0, none⟩, 4, 4⟩ ∧ Blk w g 242 (lookA p.regs p.sl) ∧ ao.map (·.block) ≠ some g
theorem LooksAt.nil (w : World) : LooksAt w none [] [] := ⟨rfl, fun j h p hh => by simp at hh⟩
theorem LooksAt.belowN {w w' : World} {ao : Option Addr} {hs : List Hd} {ps : List PrD} (h : LooksAt w ao hs ps) (hb : Below w.heap.size w w') : LooksAt w' ao hs ps :=
  ⟨h.1, fun j hd p h1 h2 => let ⟨g, e1, e2, e3⟩ := h.2 j hd p h1 h2; ⟨g, e1, e2.belowN hb, e3⟩⟩
theorem LooksAt.push {w w' : World} {ao ao' : Option Addr} {hs : List Hd} {ps : List PrD} {p : PrD} {g : Nat} (h : LooksAt w ao hs ps) (hg : Blk w g 242 (lookA p.regs p.sl)) (hne : ao.map (·.block) ≠ some g)
    (hw : w.grownBy w' (ao.map (·.block))) (hm : ao'.map (·.block) = ao.map (·.block) ∨ ∃ g', ao'.map (·.block) = some g' ∧ w.heap.size ≤ g') : LooksAt w' ao' (hs ++ [⟨some ⟨g, 0, none⟩, 4, 4⟩]) (ps ++ [p]) := by
  have far : ∀ g cs, Blk w g 242 cs → ao.map (·.block) ≠ some g → ao'.map (·.block) ≠ some g := by
    intro g cs hb hn
    rcases hm with e | ⟨g', e, hle⟩
    · rw [e]; exact hn
    · rw [e]; have := hb.lt; simp; omega
  refine ⟨by simp [h.1], fun j hd q h1 h2 => ?_⟩
  by_cases hj : j < hs.length
  · rw [List.getElem?_append_left hj] at h1
    rw [List.getElem?_append_left (by rw [← h.1]; exact hj)] at h2
    obtain ⟨g1, e1, e2, e3⟩ := h.2 j hd q h1 h2
    exact ⟨g1, e1, e2.grown hw (fun e => e3 e.symm), far _ _ e2 e3⟩
  · have hj0 : j = hs.length := by have := (List.getElem?_eq_some_iff.1 h1).1; simp at this; omega
    subst hj0
    rw [List.getElem?_append_right (Nat.le_refl _), Nat.sub_self] at h1
    rw [h.1, List.getElem?_append_right (Nat.le_refl _), Nat.sub_self] at h2
    simp at h1 h2
    subst h1 h2
    exact ⟨g, rfl, hg.grown hw (fun e => hne e.symm), far _ _ hg hne⟩

theorem take_snoc' {α : Type} {l : List α} {k : Nat} {x : α} (h : l[k]? = some x) : l.take k ++ [x] = l.take (k + 1) := by rw [List.take_add_one, h]; rfl
theorem tyLooks : Ty Tryz.prog 239 240 Hd := Ty.of (z := .slice none 0 0) (size := 1) (bytes := 24) Tryz.underlying239 (by kernel_rfl) rfl (by decide) rfl
theorem At.getPr {w wr : World} {a : Option Addr} {l : List PrD} (h : At w a l) (hb : Below w.heap.size w wr) {k : Nat} (hk : k < l.length) :
    ∃ b off x, a = some ⟨b, off, none⟩ ∧ Hid (l[k]? = some x) ∧ wr.cell? ⟨b, off + k * 2, none⟩ = some (.int .i64 x.regs) ∧ wr.cell? ⟨b, off + k * 2 + 1, none⟩ = some (.slice x.a x.l.length x.c) := by
  obtain ⟨b, off, x, e, hx, hc⟩ := (h.belowN hb).get hk
  exact ⟨b, off, x, e, hx, hc 0 _ rfl, hc 1 _ rfl⟩
theorem At.getHd {w wr : World} {a : Option Addr} {l : List Hd} (h : At w a l) (hb : Below w.heap.size w wr) {k : Nat} (hk : k < l.length) :
    ∃ b off x, a = some ⟨b, off, none⟩ ∧ Hid (l[k]? = some x) ∧ wr.cell? ⟨b, off + k, none⟩ = some (.slice x.a x.n x.c) := by
  obtain ⟨b, off, x, e, hx, hc⟩ := (h.belowN hb).get hk
  have := hc 0 _ rfl
  exact ⟨b, off, x, e, hx, by simpa [Flat.n] using this⟩

set_option maxRecDepth 100000 in
set_option maxHeartbeats 3200000 in
theorem first_calls (ap : Option Addr) (cp : Nat) (ps : List PrD) (w : World) (h : At w ap ps) (hn : ps.length ≤ 1000) (hp : ∀ p ∈ ps, At w p.a p.l ∧ p.l.length ≤ 1000000) :
    Calls Tryz.prog 123 #[.slice ap ps.length cp] w fun e w' => e = .returned (.int .i64 (firstS ps)) ∧ Below w.heap.size w w' := by
  obtain ⟨R, hR⟩ : ∃ R, R = firstS ps := ⟨_, rfl⟩
  rw [← hR]
  have HR := hide hR
  have HP := hide hp
  clear hR hp
  go_enter Tryz.func123, Tryz.ntmps123
  go_wp2
  go_loopw [3, 12] (fun al i wr => ∃ (k : Nat) (ao : Option Addr) (co : Nat) (hs : List Hd), i = .int .i64 k ∧ k ≤ ps.length ∧ al = .slice ao k co ∧ Hid (hs.length = k) ∧ Own wr w.heap.size 240 ao co hs ∧ Hid (LooksAt wr ao hs (ps.take k)) ∧ Below w.heap.size w wr) (fun _ i _ => ps.length - (intOf i).toNat)
  case atStart => exact ⟨0, none, 0, [], rfl, by omega, rfl, rfl, Own.none _ _ _, hide (LooksAt.nil _), Below.refl _ _⟩
  case round =>
    obtain ⟨k, ao, co, hs, rfl, hk, rfl, hhs, hown, hla, hbr⟩ := hrel
    have hzr := hbr.size
    by_cases hlt : k < ps.length
    · obtain ⟨b1, off1, x, rfl, hx, x0, x1⟩ := h.getPr hbr hlt
      have HT := hide (take_snoc' hx.out)
      have hown0 : Own (wr.alloc (.cells #[.int .i64 x.regs, .slice x.a x.l.length x.c] 200)) w.heap.size 240 ao co hs := hown.alloc _
      have hb0 : Below w.heap.size w (wr.alloc (.cells #[.int .i64 x.regs, .slice x.a x.l.length x.c] 200)) := hbr.alloc hzr _
      have hla0 : Hid (LooksAt (wr.alloc (.cells #[.int .i64 x.regs, .slice x.a x.l.length x.c] 200)) ao hs (ps.take k)) := hide (hla.out.belowN (Below.alloc (Below.refl _ _) (Nat.le_refl _) _))
      clear hx
      go_wp2_with (first
        | (go_at_call 156; ((with_reducible refine (looks_calls _ _ _).mono ?_); rintro e w1 ⟨g, rfl, hg, hblk, hb1⟩; have hown1 := hown0.belowN hb1; have hz1 := Nat.le_trans hb0.size hb1.size; have hla1 := hide (hla0.out.belowN hb1); have HBLK := hide hblk; clear hblk))
        | (at_builtin; refine wpList_push tyLooks hown1 (⟨some ⟨g, 0, none⟩, 4, 4⟩ : Hd) rfl rfl rfl rfl rfl rfl hhs.out.symm hz1 (by omega) ?_; intro a3 c3 w3 hown3 hg3 hm3))
      have hb2 := hb0.trans (hb1.mono hb0.size)
      go_roundw
      case rel =>
        refine ⟨k + 1, a3, c3, hs ++ [⟨some ⟨g, 0, none⟩, 4, 4⟩], by go_num, by omega, rfl, by show List.length _ = _; rw [List.length_append, hhs.out]; rfl, hown3, ?_, below_push hb2 hown1 hg3 hz1⟩
        show LooksAt _ _ _ _
        rw [← HT.out]
        exact hla1.out.push HBLK.out (fun e => by have := (hown0.blk g e).2; omega) hg3 hm3
      case measure => simp [intOf]; omega
    · obtain rfl : k = ps.length := by omega
      rw [List.take_length] at hla
      have hat := hown.at_
      clear hk hlt
      rename World => W1
      go_wp2
      go_loopw [22] (fun i w2 => ∃ k : Nat, i = .int .i64 k ∧ k ≤ 4 ∧ Hid (R = firstL ps ([0, 1, 2, 3].drop k)) ∧ Below W1.heap.size W1 w2) (fun i _ => 4 - (intOf i).toNat)
      case atStart => exact ⟨0, rfl, by omega, HR.out, Below.refl _ _⟩
      case round =>
        obtain ⟨k, rfl, hk, hRk, hb2⟩ := hrel
        have hz2 := hb2.size
        have hlp : ps.length ≤ 1000 := hn
        by_cases hlt : k < 4
        · have dk : decide ((k : Int) < 4) = true := by simp; omega
          go_wp2
          go_loopw [27] (fun i w3 => ∃ j : Nat, i = .int .i64 j ∧ j ≤ ps.length ∧ Hid (R = if rowE k (ps.drop j) ≠ 0 then rowE k (ps.drop j) else firstL ps ([0, 1, 2, 3].drop (k + 1))) ∧ Below W1.heap.size W1 w3) (fun i _ => ps.length - (intOf i).toNat)
          case atStart =>
            refine ⟨0, rfl, by omega, ?_, hb2⟩
            have h4 : k = 0 ∨ k = 1 ∨ k = 2 ∨ k = 3 := by omega
            show R = _
            rw [hRk.out]
            rcases h4 with rfl | rfl | rfl | rfl <;> rfl
          case round =>
            obtain ⟨j, rfl, hj, hRj, hb3⟩ := hrel
            have hz3 := hb3.size
            by_cases hjlt : j < ps.length
            · obtain ⟨b1, off1, hd, rfl, hhd, x0⟩ := hat.getHd hb3 (show j < hs.length by rw [hhs.out]; exact hjlt)
              have hpj := List.getElem?_eq_getElem hjlt
              obtain ⟨p, hp⟩ : ∃ p, p = ps[j] := ⟨_, rfl⟩
              rw [← hp] at hpj
              obtain ⟨g, rfl, hblk, _⟩ := hla.out.2 j hd p hhd.out hpj
              have hblk3 := hblk.belowN hb3
              obtain ⟨hpa, hpl⟩ := HP.out p (List.mem_of_getElem? hpj)
              have hpa3 := hpa.belowN (hbr.trans (hb3.mono hzr))
              have hd := drop_at hpj
              have hRj' := hRj.out
              rw [hd] at hRj'
              change R = (if (if errI k p ≠ 0 then errI k p else rowE k (ps.drop (j + 1))) ≠ 0 then (if errI k p ≠ 0 then errI k p else rowE k (ps.drop (j + 1))) else firstL ps ([0, 1, 2, 3].drop (k + 1))) at hRj'
              have HRJ := hide hRj'
              obtain ⟨E, hE⟩ : ∃ E, E = errI k p := ⟨_, rfl⟩
              have HE := hide hE
              have c0 : Hid (_ = some (lookV p.regs p.sl 0)) := hide (hblk3.cell_ (i := 0) (v := lookV p.regs p.sl 0) rfl)
              have c1 : Hid (_ = some (lookV p.regs p.sl 1)) := hide (hblk3.cell_ (i := 1) (v := lookV p.regs p.sl 1) rfl)
              have c2 : Hid (_ = some (lookV p.regs p.sl 2)) := hide (hblk3.cell_ (i := 2) (v := lookV p.regs p.sl 2) rfl)
              have c3 : Hid (_ = some (lookV p.regs p.sl 3)) := hide (hblk3.cell_ (i := 3) (v := lookV p.regs p.sl 3) rfl)
              clear hpj hp hhd hblk hblk3 hd hRj' hE hRj hRk
              have h4 : k = 0 ∨ k = 1 ∨ k = 2 ∨ k = 3 := by omega
              by_cases hE0 : E = 0
              ·
                rcases h4 with hk0 | hk0 | hk0 | hk0
                · have f0 : wr.cell? ⟨g, k, none⟩ = some (.func (.func 182) #[.agg #[.int .i64 p.regs, .slice p.a p.l.length p.c]] #[]) := by rw [hk0]; exact c0.out
                  have HF : Hid (Calls Tryz.prog 182 #[.agg #[.int .i64 p.regs, .slice p.a p.l.length p.c]] wr fun e w' => e = .returned (.int .i64 E) ∧ Below wr.heap.size wr w') := hide (by rw [HE.out, hk0]; exact form_calls p.regs p.a p.c p.l _ hpa3 hpl)
                  clear hk0
                  obtain rfl := hE0
                  go_wp2_with (go_at_call 182; ((with_reducible refine (HF.out).mono ?_); rintro e w4 ⟨rfl, hb4⟩))
                  go_roundw
                  case rel => exact ⟨j + 1, by go_num, by omega, hide (by rw [HRJ.out, ← HE.out]; simp), hb3.trans (hb4.mono hz3)⟩
                  case measure => simp [intOf]; omega
                · have f0 : wr.cell? ⟨g, k, none⟩ = some (.func (.func 183) #[.agg #[.int .i64 p.regs, .slice p.a p.l.length p.c]] #[]) := by rw [hk0]; exact c1.out
                  have HF : Hid (Calls Tryz.prog 183 #[.agg #[.int .i64 p.regs, .slice p.a p.l.length p.c]] wr fun e w' => e = .returned (.int .i64 E) ∧ Below wr.heap.size wr w') := hide (by rw [HE.out, hk0]; exact registers_calls p.regs p.a p.c p.l _ hpa3 hpl)
                  clear hk0
                  obtain rfl := hE0
                  go_wp2_with (go_at_call 183; ((with_reducible refine (HF.out).mono ?_); rintro e w4 ⟨rfl, hb4⟩))
                  go_roundw
                  case rel => exact ⟨j + 1, by go_num, by omega, hide (by rw [HRJ.out, ← HE.out]; simp), hb3.trans (hb4.mono hz3)⟩
                  case measure => simp [intOf]; omega
                · have f0 : wr.cell? ⟨g, k, none⟩ = some (.func (.func 184) #[.agg #[.int .i64 p.regs, .slice p.a p.l.length p.c]] #[]) := by rw [hk0]; exact c2.out
                  have HF : Hid (Calls Tryz.prog 184 #[.agg #[.int .i64 p.regs, .slice p.a p.l.length p.c]] wr fun e w' => e = .returned (.int .i64 E) ∧ Below wr.heap.size wr w') := hide (by rw [HE.out, hk0]; exact depth_calls p.regs p.a p.c p.l _ hpa3 hpl)
                  clear hk0
                  obtain rfl := hE0
                  go_wp2_with (go_at_call 184; ((with_reducible refine (HF.out).mono ?_); rintro e w4 ⟨rfl, hb4⟩))
                  go_roundw
                  case rel => exact ⟨j + 1, by go_num, by omega, hide (by rw [HRJ.out, ← HE.out]; simp), hb3.trans (hb4.mono hz3)⟩
                  case measure => simp [intOf]; omega
                · have f0 : wr.cell? ⟨g, k, none⟩ = some (.func (.func 185) #[.agg #[.int .i64 p.regs, .slice p.a p.l.length p.c]] #[]) := by rw [hk0]; exact c3.out
                  have HF : Hid (Calls Tryz.prog 185 #[.agg #[.int .i64 p.regs, .slice p.a p.l.length p.c]] wr fun e w' => e = .returned (.int .i64 E) ∧ Below wr.heap.size wr w') := hide (by rw [HE.out, hk0]; exact cwrites_calls p.regs p.a p.c p.l _ hpa3 hpl)
                  clear hk0
                  obtain rfl := hE0
                  go_wp2_with (go_at_call 185; ((with_reducible refine (HF.out).mono ?_); rintro e w4 ⟨rfl, hb4⟩))
                  go_roundw
                  case rel => exact ⟨j + 1, by go_num, by omega, hide (by rw [HRJ.out, ← HE.out]; simp), hb3.trans (hb4.mono hz3)⟩
                  case measure => simp [intOf]; omega
              ·
                rcases h4 with hk0 | hk0 | hk0 | hk0
                · have f0 : wr.cell? ⟨g, k, none⟩ = some (.func (.func 182) #[.agg #[.int .i64 p.regs, .slice p.a p.l.length p.c]] #[]) := by rw [hk0]; exact c0.out
                  have HF : Hid (Calls Tryz.prog 182 #[.agg #[.int .i64 p.regs, .slice p.a p.l.length p.c]] wr fun e w' => e = .returned (.int .i64 E) ∧ Below wr.heap.size wr w') := hide (by rw [HE.out, hk0]; exact form_calls p.regs p.a p.c p.l _ hpa3 hpl)
                  clear hk0
                  have hE1 : (E == 0) = false := by simpa using hE0
                  have hE2 : (E != 0) = true := by simpa using hE0
                  have HE0 := hide hE0
                  clear hE0
                  go_wp2_with (go_at_call 182; ((with_reducible refine (HF.out).mono ?_); rintro e w4 ⟨rfl, hb4⟩))
                  go_ret
                  exact ⟨by rw [HRJ.out, ← HE.out, if_pos HE0.out, if_pos HE0.out] <;> rfl, hbr.trans ((hb3.trans (hb4.mono hz3)).mono hzr)⟩
                · have f0 : wr.cell? ⟨g, k, none⟩ = some (.func (.func 183) #[.agg #[.int .i64 p.regs, .slice p.a p.l.length p.c]] #[]) := by rw [hk0]; exact c1.out
                  have HF : Hid (Calls Tryz.prog 183 #[.agg #[.int .i64 p.regs, .slice p.a p.l.length p.c]] wr fun e w' => e = .returned (.int .i64 E) ∧ Below wr.heap.size wr w') := hide (by rw [HE.out, hk0]; exact registers_calls p.regs p.a p.c p.l _ hpa3 hpl)
                  clear hk0
                  have hE1 : (E == 0) = false := by simpa using hE0
                  have hE2 : (E != 0) = true := by simpa using hE0
                  have HE0 := hide hE0
                  clear hE0
                  go_wp2_with (go_at_call 183; ((with_reducible refine (HF.out).mono ?_); rintro e w4 ⟨rfl, hb4⟩))
                  go_ret
                  exact ⟨by rw [HRJ.out, ← HE.out, if_pos HE0.out, if_pos HE0.out] <;> rfl, hbr.trans ((hb3.trans (hb4.mono hz3)).mono hzr)⟩
                · have f0 : wr.cell? ⟨g, k, none⟩ = some (.func (.func 184) #[.agg #[.int .i64 p.regs, .slice p.a p.l.length p.c]] #[]) := by rw [hk0]; exact c2.out
                  have HF : Hid (Calls Tryz.prog 184 #[.agg #[.int .i64 p.regs, .slice p.a p.l.length p.c]] wr fun e w' => e = .returned (.int .i64 E) ∧ Below wr.heap.size wr w') := hide (by rw [HE.out, hk0]; exact depth_calls p.regs p.a p.c p.l _ hpa3 hpl)
                  clear hk0
                  have hE1 : (E == 0) = false := by simpa using hE0
                  have hE2 : (E != 0) = true := by simpa using hE0
                  have HE0 := hide hE0
                  clear hE0
                  go_wp2_with (go_at_call 184; ((with_reducible refine (HF.out).mono ?_); rintro e w4 ⟨rfl, hb4⟩))
                  go_ret
                  exact ⟨by rw [HRJ.out, ← HE.out, if_pos HE0.out, if_pos HE0.out] <;> rfl, hbr.trans ((hb3.trans (hb4.mono hz3)).mono hzr)⟩
                · have f0 : wr.cell? ⟨g, k, none⟩ = some (.func (.func 185) #[.agg #[.int .i64 p.regs, .slice p.a p.l.length p.c]] #[]) := by rw [hk0]; exact c3.out
                  have HF : Hid (Calls Tryz.prog 185 #[.agg #[.int .i64 p.regs, .slice p.a p.l.length p.c]] wr fun e w' => e = .returned (.int .i64 E) ∧ Below wr.heap.size wr w') := hide (by rw [HE.out, hk0]; exact cwrites_calls p.regs p.a p.c p.l _ hpa3 hpl)
                  clear hk0
                  have hE1 : (E == 0) = false := by simpa using hE0
                  have hE2 : (E != 0) = true := by simpa using hE0
                  have HE0 := hide hE0
                  clear hE0
                  go_wp2_with (go_at_call 185; ((with_reducible refine (HF.out).mono ?_); rintro e w4 ⟨rfl, hb4⟩))
                  go_ret
                  exact ⟨by rw [HRJ.out, ← HE.out, if_pos HE0.out, if_pos HE0.out] <;> rfl, hbr.trans ((hb3.trans (hb4.mono hz3)).mono hzr)⟩
            · obtain rfl : j = ps.length := by omega
              go_wp2
              go_roundw
              case rel =>
                refine ⟨k + 1, by go_num, by omega, ?_, hb3⟩
                show R = _
                rw [hRj.out, List.drop_eq_nil_of_le (Nat.le_refl _)]
                simp [rowE]
              case measure => simp [intOf]; omega
        · obtain rfl : k = 4 := by omega
          go_wp2
          go_ret
          exact ⟨by rw [hRk.out] <;> rfl, hbr.trans (hb2.mono hzr)⟩
end Go.Proofs.YtcamcnahkdiefaaGreat

/- Chapter 10: Program. -/
namespace Go.Proofs.YtcamcnahkdiefaaGreat
set_option linter.unusedVariables false
set_option linter.unusedSimpArgs false
open Go.RowKit

theorem rowE_one (i : Nat) (p : PrD) : rowE i [p] = errI i p := by
  unfold rowE rowE
  by_cases h : errI i p = 0
  · rw [if_neg (by simpa using h), h]
  · rw [if_pos h]
theorem firstS_one' (p : PrD) : firstS [p] = if errI 0 p ≠ 0 then errI 0 p else if errI 1 p ≠ 0 then errI 1 p else if errI 2 p ≠ 0 then errI 2 p else if errI 3 p ≠ 0 then errI 3 p else 0 := by
  simp only [firstS, firstL, rowE_one]
theorem firstS_one (p : PrD) : firstS [p] = checkS p.regs p.l := by
  rw [firstS_one']
  unfold checkS
  by_cases h1 : formB p.l = true
  · have hw : well p.l = true := by unfold formB at h1; simp only [Bool.and_eq_true] at h1; exact h1.1.2
    have hd : (deepS p.l).1 = (deepL p.l : Int) := by unfold deepS; rw [if_pos hw]
    have hs : sizeE p.l = if (measL p.l).isSome = true then 0 else 9 := by unfold sizeE; rw [if_pos hw]
    have e0 : errI 0 p = 0 := by show (if formB p.l = true then (0 : Int) else 6) = 0; rw [if_pos h1]
    rw [e0, if_pos h1, if_neg (by simp)]
    by_cases h2 : regsB p.regs p.l = true
    · have e1 : errI 1 p = 0 := by show (if regsB p.regs p.l = true then (0 : Int) else 7) = 0; rw [if_pos h2]
      rw [e1, if_pos h2, if_neg (by simp)]
      by_cases h3 : deepL p.l ≤ 8
      · have e2 : errI 2 p = 0 := by show (if (deepS p.l).1 ≤ 8 then (0 : Int) else 8) = 0; rw [if_pos (by omega)]
        have e3 : errI 3 p = if (measL p.l).isSome = true then 0 else 9 := hs
        rw [e2, if_pos h3, if_neg (by simp), e3]
        split <;> simp
      · have e2 : errI 2 p = 8 := by show (if (deepS p.l).1 ≤ 8 then (0 : Int) else 8) = 8; rw [if_neg (by omega)]
        rw [e2, if_neg h3]
        simp
    · have e1 : errI 1 p = 7 := by show (if regsB p.regs p.l = true then (0 : Int) else 7) = 7; rw [if_neg h2]
      rw [e1, if_neg h2]
      simp
  · have e0 : errI 0 p = 6 := by show (if formB p.l = true then (0 : Int) else 6) = 6; rw [if_neg h1]
    rw [e0, if_neg h1]
    simp
theorem Prog_calls (regs : Int) (a : Option Addr) (c : Nat) (l : List OpD) (w : World) (h : At w a l) (hl : l.length ≤ 1000000) :
    Calls Tryz.prog 95 #[.agg #[.int .i64 regs, .slice a l.length c]] w fun e w' => e = .returned (.int .i64 (checkS regs l)) ∧ Below w.heap.size w w' := by
  have hb : Below w.heap.size w ((w.alloc (.cells #[.int .i64 regs, .slice a l.length c] 24)).alloc (.cells #[.int .i64 regs, .slice a l.length c] 200)) := Below.alloc (Below.alloc (Below.refl _ _) (Nat.le_refl _) _) (by simp) _
  have hat : At ((w.alloc (.cells #[.int .i64 regs, .slice a l.length c] 24)).alloc (.cells #[.int .i64 regs, .slice a l.length c] 200)) (some ⟨w.heap.size + 1, 0, none⟩) [(⟨regs, a, c, l⟩ : PrD)] :=
    At.ofBlk (g := w.heap.size + 1) (T := 200) (cs := #[.int .i64 regs, .slice a l.length c]) (by simpa using Blk.new (w.alloc (.cells #[.int .i64 regs, .slice a l.length c] 24)) 200 #[.int .i64 regs, .slice a l.length c]) ([⟨regs, a, c, l⟩] : List PrD) rfl
  have HF := hide (first_calls (some ⟨w.heap.size + 1, 0, none⟩) 1 [⟨regs, a, c, l⟩] _ hat (by simp) (fun p hp => (by simp at hp; subst hp; exact ⟨h.belowN hb, hl⟩ : At _ p.a p.l ∧ p.l.length ≤ 1000000)))
  rw [firstS_one] at HF
  simp only [List.length_singleton] at HF
  generalize checkS regs l = V at *
  go_enter Tryz.func95, Tryz.ntmps95
  go_wp2_with (go_at_call 123; ((with_reducible refine (HF.out).mono ?_); rintro e w1 ⟨rfl, hb1⟩))
  go_ret
  exact ⟨rfl, hb.trans (hb1.mono hb.size)⟩
end Go.Proofs.YtcamcnahkdiefaaGreat

/- Several texts of mine in one file: R10, R10b. -/
/- Chapter 10, the document's answers: whether a program may be. -/
namespace Go.Proofs.YtcamcnahkdiefaaGreat
set_option linter.unusedVariables false
set_option linter.unusedSimpArgs false
open Go.RowKit

theorem below_new (w : World) (o : Obj) : Below w.heap.size w (w.alloc o) := Below.alloc (Below.refl _ _) (Nat.le_refl _) _
set_option maxRecDepth 100000 in
set_option maxHeartbeats 1600000 in
theorem form10_calls (regs : Int) (a : Option Addr) (c : Nat) (l : List OpD) (w : World) (h : At w a l) (hl : l.length ≤ 1000000) :
    Calls Tryz.prog 150 #[.agg #[.int .i64 regs, .slice a l.length c]] w fun e w' => e = .returned (.bool (formB l)) ∧ Below w.heap.size w w' := by
  obtain ⟨R, hR⟩ : ∃ R, R = formB l := ⟨_, rfl⟩
  have hR2 : R = (decide (l.length ≤ 4096) && well l && l.all rightB) := hR
  rw [← hR]
  have HR := hide hR2
  clear hR hR2
  have h1 := h.belowN (below_new w (.cells #[.int .i64 regs, .slice a l.length c] 24))
  have hX := Blk.new w 24 #[.int .i64 regs, .slice a l.length c]
  obtain ⟨wl, hwl⟩ : ∃ b, b = well l := ⟨_, rfl⟩
  have HW := hide (Well8_calls a c l _ h1 hl)
  rw [← hwl] at HW HR
  have hb0 := below_new w (.cells #[.int .i64 regs, .slice a l.length c] 24)
  by_cases c1 : 4096 < l.length
  · have d1 : decide (4096 < (l.length : Int)) = true := by simp; omega
    have HF : Hid (R = false) := by show R = false; rw [HR.out]; simp; omega
    go_enter Tryz.func150, Tryz.ntmps150
    go_wp2
    go_ret
    exact ⟨by rw [HF.out] <;> rfl, hb0⟩
  · have d1 : decide (4096 < (l.length : Int)) = false := by simp; omega
    have c2 : Hid (decide (l.length ≤ 4096) = true) := by show _ = true; simp; omega
    clear hwl
    cases wl with
    | false =>
      have HF : Hid (R = false) := by show R = false; rw [HR.out]; simp
      go_enter Tryz.func150, Tryz.ntmps150
      go_wp2_with (go_at_call 131; ((with_reducible refine (HW.out).mono ?_); rintro e w1 ⟨rfl, rfl⟩))
      go_ret
      exact ⟨by rw [HF.out] <;> rfl, hb0⟩
    | true =>
      have HRA : Hid (R = l.all rightB) := by show R = _; rw [HR.out, c2.out]; simp
      clear HR
      go_enter Tryz.func150, Tryz.ntmps150
      go_wp2_with (go_at_call 131; ((with_reducible refine (HW.out).mono ?_); rintro e w1 ⟨rfl, rfl⟩))
      obtain ⟨W0, hW0⟩ : ∃ W0, W0 = w.alloc (.cells #[.int .i64 regs, .slice a l.length c] 24) := ⟨_, rfl⟩
      rw [← hW0] at hX h1 hb0 ⊢
      clear hW0 HW
      go_loopw [3] (fun i wr => ∃ k : Nat, i = .int .i64 k ∧ k ≤ l.length ∧ Hid (R = (l.drop k).all rightB) ∧ Below W0.heap.size W0 wr) (fun i _ => l.length - (intOf i).toNat)
      case atStart => exact ⟨0, rfl, by omega, HRA.out, Below.refl _ _⟩
      case round =>
        obtain ⟨k, rfl, hk, hRk, hbr⟩ := hrel
        obtain ⟨q0, q1, q2, q3⟩ := (hX.belowN hbr).c2
        by_cases hlt : k < l.length
        · obtain ⟨b1, off1, x, rfl, hx, x0, x1, x2, x3, x4⟩ := h1.getOp hbr hlt
          have hd := drop_at hx.out
          have hR2 := hRk.out
          rw [hd, List.all_cons] at hR2
          have HX := hide (Right7_calls x wr)
          cases hp : rightB x with
          | false =>
            rw [hp] at hR2 HX
            have HF : Hid (R = false) := by show R = false; rw [hR2]; rfl
            clear hd hR2 hx hp hRk
            go_wp2_with (go_at_call 169; ((with_reducible refine (HX.out).mono ?_); rintro e w1 ⟨rfl, hb1⟩))
            go_ret
            exact ⟨by rw [HF.out] <;> rfl, hb0.trans ((hbr.trans (hb1.mono hbr.size)).mono hb0.size)⟩
          | true =>
            rw [hp] at hR2 HX
            have HR2 := hide hR2
            clear hd hR2 hx hp hRk
            go_wp2_with (go_at_call 169; ((with_reducible refine (HX.out).mono ?_); rintro e w1 ⟨rfl, hb1⟩))
            go_roundw
            case rel => exact ⟨k + 1, by go_num, by omega, by show R = _; rw [HR2.out]; rfl, hbr.trans (hb1.mono hbr.size)⟩
            case measure => simp [intOf]; omega
        · obtain rfl : k = l.length := by omega
          have HT : Hid (R = true) := by show R = true; rw [hRk.out, List.drop_eq_nil_of_le (by omega)]; rfl
          go_wp2
          go_ret
          exact ⟨by rw [HT.out] <;> rfl, hb0.trans (hbr.mono hb0.size)⟩
theorem three (D : Bool) (P : Prop) [Decidable P] : D = false ∨ (D = true ∧ decide P = false) ∨ (D = true ∧ decide P = true) := by cases D <;> simp; by_cases h : P <;> simp [h]
set_option maxRecDepth 100000 in
set_option maxHeartbeats 3200000 in
theorem registers10_calls (regs : Int) (a : Option Addr) (c : Nat) (l : List OpD) (w : World) (h : At w a l) (hl : l.length ≤ 1000000) :
    Calls Tryz.prog 151 #[.agg #[.int .i64 regs, .slice a l.length c]] w fun e w' => e = .returned (.bool (regsB regs l)) ∧ Below w.heap.size w w' := by
  obtain ⟨R, hR⟩ : ∃ R, R = regsB regs l := ⟨_, rfl⟩
  have hR2 : R = (decide (1 ≤ regs) && decide (regs ≤ 64) && l.all (fun x => !offB regs x)) := hR
  rw [← hR]
  have HR := hide hR2
  clear hR hR2
  have h1 := h.belowN (below_new w (.cells #[.int .i64 regs, .slice a l.length c] 24))
  have hX := Blk.new w 24 #[.int .i64 regs, .slice a l.length c]
  have hb0 := below_new w (.cells #[.int .i64 regs, .slice a l.length c] 24)
  by_cases c1 : regs < 1
  · have d1 : decide (regs < 1) = true := by simp; omega
    have HF : Hid (R = false) := by show R = false; rw [HR.out]; simp; omega
    go_enter Tryz.func151, Tryz.ntmps151
    go_wp2
    go_ret
    exact ⟨by rw [HF.out] <;> rfl, hb0⟩
  have d1 : decide (regs < 1) = false := by simp; omega
  by_cases c2 : 64 < regs
  · have d2 : decide (64 < regs) = true := by simp; omega
    have HF : Hid (R = false) := by show R = false; rw [HR.out]; simp; omega
    go_enter Tryz.func151, Tryz.ntmps151
    go_wp2
    go_ret
    exact ⟨by rw [HF.out] <;> rfl, hb0⟩
  have d2 : decide (64 < regs) = false := by simp; omega
  have HRA : Hid (R = l.all (fun x => !offB regs x)) := by
    show R = _
    rw [HR.out, show decide (1 ≤ regs) = true by simp; omega, show decide (regs ≤ 64) = true by simp; omega]
    simp
  clear HR
  go_enter Tryz.func151, Tryz.ntmps151
  go_wp2
  obtain ⟨W0, hW0⟩ : ∃ W0, W0 = w.alloc (.cells #[.int .i64 regs, .slice a l.length c] 24) := ⟨_, rfl⟩
  rw [← hW0] at hX h1 hb0 ⊢
  clear hW0
  go_loopw [3] (fun i wr => ∃ k : Nat, i = .int .i64 k ∧ k ≤ l.length ∧ Hid (R = (l.drop k).all (fun x => !offB regs x)) ∧ Below W0.heap.size W0 wr) (fun i _ => l.length - (intOf i).toNat)
  case atStart => exact ⟨0, rfl, by omega, HRA.out, Below.refl _ _⟩
  case round =>
    obtain ⟨k, rfl, hk, hRk, hbr⟩ := hrel
    have hg := hX.lt
    have hXr := hX.belowN hbr
    obtain ⟨q0, q1, q2, q3⟩ := hXr.c2
    by_cases hlt : k < l.length
    · obtain ⟨b1, off1, x, rfl, hx, x0, x1, x2, x3, x4⟩ := h1.getOp hbr hlt
      have hd := drop_at hx.out
      have hR2 := hRk.out
      rw [hd, List.all_cons] at hR2
      have HA := hide (fun w => Asks_calls x.kind w)
      obtain ⟨V, hV⟩ : ∃ V, V = offB regs x := ⟨_, rfl⟩
      have hV2 : V = ((aOf x.kind && decide (regs ≤ x.a)) || (bOf x.kind && decide (regs ≤ x.b)) || (dOf x.kind && decide (regs ≤ x.d))) := hV
      rw [← hV] at hR2
      have HR2 := hide hR2
      have HV := hide hV2
      generalize dOf x.kind = D at *
      generalize aOf x.kind = A at *
      generalize bOf x.kind = B at *
      generalize vOf x.kind = vv at *
      clear hd hR2 hx hRk hV hV2
      have tail : ∀ (bb : Bool), V = bb → Hid (R = (!bb && (l.drop (k + 1)).all fun x => !offB regs x)) := fun bb e => by show R = _; rw [HR2.out, e]
      rcases three D (regs ≤ x.d) with rfl | ⟨rfl, e1⟩ | ⟨rfl, e1⟩
      · rcases three A (regs ≤ x.a) with rfl | ⟨rfl, e2⟩ | ⟨rfl, e2⟩
        · rcases three B (regs ≤ x.b) with rfl | ⟨rfl, e3⟩ | ⟨rfl, e3⟩
          · have HV2 := tail false (by rw [HV.out]; simp only [Bool.false_and, Bool.true_and, Bool.false_or, Bool.or_false, Bool.or_true, Bool.true_or])
            clear tail HV HR2
            go_wp2_with (go_at_call 143; ((with_reducible refine (HA.out _).mono ?_); rintro e w1 ⟨rfl, hb1⟩; obtain ⟨hz, hB1, hX1⟩ := box5 hb1; obtain ⟨y0, y1, y2, y3, y4, z0, z1, z2, z3, z4⟩ := hX1.c5; obtain ⟨q0', q1', q2', q3'⟩ := (hXr.belowN hB1).c2; have hg1 := (hXr.belowN hB1).lt; clear hb1))
            go_roundw
            case rel => exact ⟨k + 1, by go_num, by omega, by show R = _; rw [HV2.out]; rfl, hbr.trans ((hB1.alloc (Nat.le_of_lt hz) _).mono hbr.size)⟩
            case measure => simp [intOf]; omega
          · have HV2 := tail false (by rw [HV.out]; simp only [e3, Bool.false_and, Bool.true_and, Bool.false_or, Bool.or_false, Bool.or_true, Bool.true_or])
            clear tail HV HR2
            go_wp2_with (go_at_call 143; ((with_reducible refine (HA.out _).mono ?_); rintro e w1 ⟨rfl, hb1⟩; obtain ⟨hz, hB1, hX1⟩ := box5 hb1; obtain ⟨y0, y1, y2, y3, y4, z0, z1, z2, z3, z4⟩ := hX1.c5; obtain ⟨q0', q1', q2', q3'⟩ := (hXr.belowN hB1).c2; have hg1 := (hXr.belowN hB1).lt; clear hb1))
            go_roundw
            case rel => exact ⟨k + 1, by go_num, by omega, by show R = _; rw [HV2.out]; rfl, hbr.trans ((hB1.alloc (Nat.le_of_lt hz) _).mono hbr.size)⟩
            case measure => simp [intOf]; omega
          · have HV2 := tail true (by rw [HV.out]; simp only [e3, Bool.false_and, Bool.true_and, Bool.false_or, Bool.or_false, Bool.or_true, Bool.true_or])
            have HF : Hid (R = false) := by show R = false; rw [HV2.out]; rfl
            clear tail HV HR2 HV2
            go_wp2_with (go_at_call 143; ((with_reducible refine (HA.out _).mono ?_); rintro e w1 ⟨rfl, hb1⟩; obtain ⟨hz, hB1, hX1⟩ := box5 hb1; obtain ⟨y0, y1, y2, y3, y4, z0, z1, z2, z3, z4⟩ := hX1.c5; obtain ⟨q0', q1', q2', q3'⟩ := (hXr.belowN hB1).c2; have hg1 := (hXr.belowN hB1).lt; clear hb1))
            go_ret
            exact ⟨by rw [HF.out] <;> rfl, hb0.trans ((hbr.trans ((hB1.alloc (Nat.le_of_lt hz) _).mono hbr.size)).mono hb0.size)⟩
        · rcases three B (regs ≤ x.b) with rfl | ⟨rfl, e3⟩ | ⟨rfl, e3⟩
          · have HV2 := tail false (by rw [HV.out]; simp only [e2, Bool.false_and, Bool.true_and, Bool.false_or, Bool.or_false, Bool.or_true, Bool.true_or])
            clear tail HV HR2
            go_wp2_with (go_at_call 143; ((with_reducible refine (HA.out _).mono ?_); rintro e w1 ⟨rfl, hb1⟩; obtain ⟨hz, hB1, hX1⟩ := box5 hb1; obtain ⟨y0, y1, y2, y3, y4, z0, z1, z2, z3, z4⟩ := hX1.c5; obtain ⟨q0', q1', q2', q3'⟩ := (hXr.belowN hB1).c2; have hg1 := (hXr.belowN hB1).lt; clear hb1))
            go_roundw
            case rel => exact ⟨k + 1, by go_num, by omega, by show R = _; rw [HV2.out]; rfl, hbr.trans ((hB1.alloc (Nat.le_of_lt hz) _).mono hbr.size)⟩
            case measure => simp [intOf]; omega
          · have HV2 := tail false (by rw [HV.out]; simp only [e2, e3, Bool.false_and, Bool.true_and, Bool.false_or, Bool.or_false, Bool.or_true, Bool.true_or])
            clear tail HV HR2
            go_wp2_with (go_at_call 143; ((with_reducible refine (HA.out _).mono ?_); rintro e w1 ⟨rfl, hb1⟩; obtain ⟨hz, hB1, hX1⟩ := box5 hb1; obtain ⟨y0, y1, y2, y3, y4, z0, z1, z2, z3, z4⟩ := hX1.c5; obtain ⟨q0', q1', q2', q3'⟩ := (hXr.belowN hB1).c2; have hg1 := (hXr.belowN hB1).lt; clear hb1))
            go_roundw
            case rel => exact ⟨k + 1, by go_num, by omega, by show R = _; rw [HV2.out]; rfl, hbr.trans ((hB1.alloc (Nat.le_of_lt hz) _).mono hbr.size)⟩
            case measure => simp [intOf]; omega
          · have HV2 := tail true (by rw [HV.out]; simp only [e2, e3, Bool.false_and, Bool.true_and, Bool.false_or, Bool.or_false, Bool.or_true, Bool.true_or])
            have HF : Hid (R = false) := by show R = false; rw [HV2.out]; rfl
            clear tail HV HR2 HV2
            go_wp2_with (go_at_call 143; ((with_reducible refine (HA.out _).mono ?_); rintro e w1 ⟨rfl, hb1⟩; obtain ⟨hz, hB1, hX1⟩ := box5 hb1; obtain ⟨y0, y1, y2, y3, y4, z0, z1, z2, z3, z4⟩ := hX1.c5; obtain ⟨q0', q1', q2', q3'⟩ := (hXr.belowN hB1).c2; have hg1 := (hXr.belowN hB1).lt; clear hb1))
            go_ret
            exact ⟨by rw [HF.out] <;> rfl, hb0.trans ((hbr.trans ((hB1.alloc (Nat.le_of_lt hz) _).mono hbr.size)).mono hb0.size)⟩
        · have HV2 := tail true (by rw [HV.out]; simp only [e2, Bool.false_and, Bool.true_and, Bool.false_or, Bool.or_false, Bool.or_true, Bool.true_or])
          have HF : Hid (R = false) := by show R = false; rw [HV2.out]; rfl
          clear tail HV HR2 HV2
          go_wp2_with (go_at_call 143; ((with_reducible refine (HA.out _).mono ?_); rintro e w1 ⟨rfl, hb1⟩; obtain ⟨hz, hB1, hX1⟩ := box5 hb1; obtain ⟨y0, y1, y2, y3, y4, z0, z1, z2, z3, z4⟩ := hX1.c5; obtain ⟨q0', q1', q2', q3'⟩ := (hXr.belowN hB1).c2; have hg1 := (hXr.belowN hB1).lt; clear hb1))
          go_ret
          exact ⟨by rw [HF.out] <;> rfl, hb0.trans ((hbr.trans ((hB1.alloc (Nat.le_of_lt hz) _).mono hbr.size)).mono hb0.size)⟩
      · rcases three A (regs ≤ x.a) with rfl | ⟨rfl, e2⟩ | ⟨rfl, e2⟩
        · rcases three B (regs ≤ x.b) with rfl | ⟨rfl, e3⟩ | ⟨rfl, e3⟩
          · have HV2 := tail false (by rw [HV.out]; simp only [e1, Bool.false_and, Bool.true_and, Bool.false_or, Bool.or_false, Bool.or_true, Bool.true_or])
            clear tail HV HR2
            go_wp2_with (go_at_call 143; ((with_reducible refine (HA.out _).mono ?_); rintro e w1 ⟨rfl, hb1⟩; obtain ⟨hz, hB1, hX1⟩ := box5 hb1; obtain ⟨y0, y1, y2, y3, y4, z0, z1, z2, z3, z4⟩ := hX1.c5; obtain ⟨q0', q1', q2', q3'⟩ := (hXr.belowN hB1).c2; have hg1 := (hXr.belowN hB1).lt; clear hb1))
            go_roundw
            case rel => exact ⟨k + 1, by go_num, by omega, by show R = _; rw [HV2.out]; rfl, hbr.trans ((hB1.alloc (Nat.le_of_lt hz) _).mono hbr.size)⟩
            case measure => simp [intOf]; omega
          · have HV2 := tail false (by rw [HV.out]; simp only [e1, e3, Bool.false_and, Bool.true_and, Bool.false_or, Bool.or_false, Bool.or_true, Bool.true_or])
            clear tail HV HR2
            go_wp2_with (go_at_call 143; ((with_reducible refine (HA.out _).mono ?_); rintro e w1 ⟨rfl, hb1⟩; obtain ⟨hz, hB1, hX1⟩ := box5 hb1; obtain ⟨y0, y1, y2, y3, y4, z0, z1, z2, z3, z4⟩ := hX1.c5; obtain ⟨q0', q1', q2', q3'⟩ := (hXr.belowN hB1).c2; have hg1 := (hXr.belowN hB1).lt; clear hb1))
            go_roundw
            case rel => exact ⟨k + 1, by go_num, by omega, by show R = _; rw [HV2.out]; rfl, hbr.trans ((hB1.alloc (Nat.le_of_lt hz) _).mono hbr.size)⟩
            case measure => simp [intOf]; omega
          · have HV2 := tail true (by rw [HV.out]; simp only [e1, e3, Bool.false_and, Bool.true_and, Bool.false_or, Bool.or_false, Bool.or_true, Bool.true_or])
            have HF : Hid (R = false) := by show R = false; rw [HV2.out]; rfl
            clear tail HV HR2 HV2
            go_wp2_with (go_at_call 143; ((with_reducible refine (HA.out _).mono ?_); rintro e w1 ⟨rfl, hb1⟩; obtain ⟨hz, hB1, hX1⟩ := box5 hb1; obtain ⟨y0, y1, y2, y3, y4, z0, z1, z2, z3, z4⟩ := hX1.c5; obtain ⟨q0', q1', q2', q3'⟩ := (hXr.belowN hB1).c2; have hg1 := (hXr.belowN hB1).lt; clear hb1))
            go_ret
            exact ⟨by rw [HF.out] <;> rfl, hb0.trans ((hbr.trans ((hB1.alloc (Nat.le_of_lt hz) _).mono hbr.size)).mono hb0.size)⟩
        · rcases three B (regs ≤ x.b) with rfl | ⟨rfl, e3⟩ | ⟨rfl, e3⟩
          · have HV2 := tail false (by rw [HV.out]; simp only [e1, e2, Bool.false_and, Bool.true_and, Bool.false_or, Bool.or_false, Bool.or_true, Bool.true_or])
            clear tail HV HR2
            go_wp2_with (go_at_call 143; ((with_reducible refine (HA.out _).mono ?_); rintro e w1 ⟨rfl, hb1⟩; obtain ⟨hz, hB1, hX1⟩ := box5 hb1; obtain ⟨y0, y1, y2, y3, y4, z0, z1, z2, z3, z4⟩ := hX1.c5; obtain ⟨q0', q1', q2', q3'⟩ := (hXr.belowN hB1).c2; have hg1 := (hXr.belowN hB1).lt; clear hb1))
            go_roundw
            case rel => exact ⟨k + 1, by go_num, by omega, by show R = _; rw [HV2.out]; rfl, hbr.trans ((hB1.alloc (Nat.le_of_lt hz) _).mono hbr.size)⟩
            case measure => simp [intOf]; omega
          · have HV2 := tail false (by rw [HV.out]; simp only [e1, e2, e3, Bool.false_and, Bool.true_and, Bool.false_or, Bool.or_false, Bool.or_true, Bool.true_or])
            clear tail HV HR2
            go_wp2_with (go_at_call 143; ((with_reducible refine (HA.out _).mono ?_); rintro e w1 ⟨rfl, hb1⟩; obtain ⟨hz, hB1, hX1⟩ := box5 hb1; obtain ⟨y0, y1, y2, y3, y4, z0, z1, z2, z3, z4⟩ := hX1.c5; obtain ⟨q0', q1', q2', q3'⟩ := (hXr.belowN hB1).c2; have hg1 := (hXr.belowN hB1).lt; clear hb1))
            go_roundw
            case rel => exact ⟨k + 1, by go_num, by omega, by show R = _; rw [HV2.out]; rfl, hbr.trans ((hB1.alloc (Nat.le_of_lt hz) _).mono hbr.size)⟩
            case measure => simp [intOf]; omega
          · have HV2 := tail true (by rw [HV.out]; simp only [e1, e2, e3, Bool.false_and, Bool.true_and, Bool.false_or, Bool.or_false, Bool.or_true, Bool.true_or])
            have HF : Hid (R = false) := by show R = false; rw [HV2.out]; rfl
            clear tail HV HR2 HV2
            go_wp2_with (go_at_call 143; ((with_reducible refine (HA.out _).mono ?_); rintro e w1 ⟨rfl, hb1⟩; obtain ⟨hz, hB1, hX1⟩ := box5 hb1; obtain ⟨y0, y1, y2, y3, y4, z0, z1, z2, z3, z4⟩ := hX1.c5; obtain ⟨q0', q1', q2', q3'⟩ := (hXr.belowN hB1).c2; have hg1 := (hXr.belowN hB1).lt; clear hb1))
            go_ret
            exact ⟨by rw [HF.out] <;> rfl, hb0.trans ((hbr.trans ((hB1.alloc (Nat.le_of_lt hz) _).mono hbr.size)).mono hb0.size)⟩
        · have HV2 := tail true (by rw [HV.out]; simp only [e1, e2, Bool.false_and, Bool.true_and, Bool.false_or, Bool.or_false, Bool.or_true, Bool.true_or])
          have HF : Hid (R = false) := by show R = false; rw [HV2.out]; rfl
          clear tail HV HR2 HV2
          go_wp2_with (go_at_call 143; ((with_reducible refine (HA.out _).mono ?_); rintro e w1 ⟨rfl, hb1⟩; obtain ⟨hz, hB1, hX1⟩ := box5 hb1; obtain ⟨y0, y1, y2, y3, y4, z0, z1, z2, z3, z4⟩ := hX1.c5; obtain ⟨q0', q1', q2', q3'⟩ := (hXr.belowN hB1).c2; have hg1 := (hXr.belowN hB1).lt; clear hb1))
          go_ret
          exact ⟨by rw [HF.out] <;> rfl, hb0.trans ((hbr.trans ((hB1.alloc (Nat.le_of_lt hz) _).mono hbr.size)).mono hb0.size)⟩
      · have HV2 := tail true (by rw [HV.out]; simp only [e1, Bool.false_and, Bool.true_and, Bool.false_or, Bool.or_false, Bool.or_true, Bool.true_or])
        have HF : Hid (R = false) := by show R = false; rw [HV2.out]; rfl
        clear tail HV HR2 HV2
        go_wp2_with (go_at_call 143; ((with_reducible refine (HA.out _).mono ?_); rintro e w1 ⟨rfl, hb1⟩; obtain ⟨hz, hB1, hX1⟩ := box5 hb1; obtain ⟨y0, y1, y2, y3, y4, z0, z1, z2, z3, z4⟩ := hX1.c5; obtain ⟨q0', q1', q2', q3'⟩ := (hXr.belowN hB1).c2; have hg1 := (hXr.belowN hB1).lt; clear hb1))
        go_ret
        exact ⟨by rw [HF.out] <;> rfl, hb0.trans ((hbr.trans ((hB1.alloc (Nat.le_of_lt hz) _).mono hbr.size)).mono hb0.size)⟩
    · obtain rfl : k = l.length := by omega
      have HT : Hid (R = true) := by show R = true; rw [hRk.out, List.drop_eq_nil_of_le (by omega)]; rfl
      go_wp2
      go_ret
      exact ⟨by rw [HT.out] <;> rfl, hb0.trans (hbr.mono hb0.size)⟩
end Go.Proofs.YtcamcnahkdiefaaGreat

/- Chapter 10, the document's answers: the looks, and Program. -/
namespace Go.Proofs.YtcamcnahkdiefaaGreat
set_option linter.unusedVariables false
set_option linter.unusedSimpArgs false
open Go.RowKit

set_option maxHeartbeats 1600000 in
theorem Look_calls (k : Nat) (hk : k < 4) (regs : Int) (a : Option Addr) (c : Nat) (l : List OpD) (w : World) (h : At w a l) (hl : l.length ≤ 1000000) :
    Calls Tryz.prog 112 #[.agg #[.int .i64 regs, .slice a l.length c], .int .i64 (k : Int)] w fun e w' => e = .returned (.int .i64 (errI k ⟨regs, a, c, l⟩)) ∧ Below w.heap.size w w' := by
  have h1 := h.belowN (below_new w (.cells #[.int .i64 regs, .slice a l.length c] 24))
  have hb0 := below_new w (.cells #[.int .i64 regs, .slice a l.length c] 24)
  have HF := hide (form10_calls regs a c l _ h1 hl)
  have HG := hide (registers10_calls regs a c l _ h1 hl)
  have HD := hide (Deep8_calls a c l _ h1 hl)
  have HW := hide (Writes9_calls a c l _ h1 hl)
  obtain ⟨E, hE⟩ : ∃ E, E = errI k ⟨regs, a, c, l⟩ := ⟨_, rfl⟩
  rw [← hE]
  have h4 : k = 0 ∨ k = 1 ∨ k = 2 ∨ k = 3 := by omega
  rcases h4 with rfl | rfl | rfl | rfl
  · have hE2 : E = if formB l = true then 0 else 6 := hE
    generalize formB l = F at *
    have HE := hide hE2
    clear hE hE2
    cases F
    all_goals
      go_enter Tryz.func112, Tryz.ntmps112
      go_wp2_with (go_at_call 150; ((with_reducible refine (HF.out).mono ?_); rintro e w1 ⟨rfl, hb1⟩))
      go_ret
      exact ⟨by rw [HE.out] <;> rfl, hb0.trans (hb1.mono hb0.size)⟩
  · have hE2 : E = if regsB regs l = true then 0 else 7 := hE
    generalize regsB regs l = F at *
    have HE := hide hE2
    clear hE hE2
    cases F
    all_goals
      go_enter Tryz.func112, Tryz.ntmps112
      go_wp2_with (go_at_call 151; ((with_reducible refine (HG.out).mono ?_); rintro e w1 ⟨rfl, hb1⟩))
      go_ret
      exact ⟨by rw [HE.out] <;> rfl, hb0.trans (hb1.mono hb0.size)⟩
  · have hE2 : E = if (deepS l).1 ≤ 8 then 0 else 8 := hE
    generalize (deepS l).1 = D at *
    generalize (deepS l).2 = D2 at *
    have HE := hide hE2
    clear hE hE2
    by_cases hd : D ≤ 8
    · have HE2 : Hid (E = 0) := by show E = 0; rw [HE.out, if_pos hd]
      clear HE
      go_enter Tryz.func112, Tryz.ntmps112
      go_wp2_with (go_at_call 152; ((with_reducible refine (HD.out).mono ?_); rintro e w1 ⟨rfl, rfl⟩))
      go_ret
      exact ⟨by rw [HE2.out] <;> rfl, hb0⟩
    · have HE2 : Hid (E = 8) := by show E = 8; rw [HE.out, if_neg hd]
      clear HE
      go_enter Tryz.func112, Tryz.ntmps112
      go_wp2_with (go_at_call 152; ((with_reducible refine (HD.out).mono ?_); rintro e w1 ⟨rfl, rfl⟩))
      go_ret
      exact ⟨by rw [HE2.out] <;> rfl, hb0⟩
  · have hE2 : E = sizeE l := hE
    rw [← hE2] at HW
    clear hE hE2
    go_enter Tryz.func112, Tryz.ntmps112
    go_wp2_with (go_at_call 51; ((with_reducible refine (HW.out).mono ?_); rintro e w1 ⟨rfl, hb1⟩))
    go_ret
    exact ⟨rfl, hb0.trans (hb1.mono hb0.size)⟩

set_option maxHeartbeats 1600000 in
theorem Prog10_calls (regs : Int) (a : Option Addr) (c : Nat) (l : List OpD) (w : World) (h : At w a l) (hl : l.length ≤ 1000000) :
    Calls Tryz.prog 87 #[.agg #[.int .i64 regs, .slice a l.length c]] w fun e w' => e = .returned (.int .i64 (checkS regs l)) ∧ Below w.heap.size w w' := by
  have h1 := h.belowN (below_new w (.cells #[.int .i64 regs, .slice a l.length c] 24))
  have hb0 := below_new w (.cells #[.int .i64 regs, .slice a l.length c] 24)
  have hX := Blk.new w 24 #[.int .i64 regs, .slice a l.length c]
  have HL := hide (fun k hk w' (g : At w' a l) => Look_calls k hk regs a c l w' g hl)
  obtain ⟨R, hR⟩ : ∃ R, R = checkS regs l := ⟨_, rfl⟩
  have hR2 : R = firstL [⟨regs, a, c, l⟩] [0, 1, 2, 3] := hR.trans (firstS_one ⟨regs, a, c, l⟩).symm
  rw [← hR]
  have HR := hide hR2
  clear hR hR2
  go_enter Tryz.func87, Tryz.ntmps87
  go_wp2
  obtain ⟨W0, hW0⟩ : ∃ W0, W0 = w.alloc (.cells #[.int .i64 regs, .slice a l.length c] 24) := ⟨_, rfl⟩
  rw [← hW0] at hX h1 hb0 ⊢
  clear hW0
  go_loopw [3] (fun i wr => ∃ k : Nat, i = .int .i64 k ∧ k ≤ 4 ∧ Hid (R = firstL [⟨regs, a, c, l⟩] ([0, 1, 2, 3].drop k)) ∧ Below W0.heap.size W0 wr) (fun i _ => 4 - (intOf i).toNat)
  case atStart => exact ⟨0, rfl, by omega, HR.out, Below.refl _ _⟩
  case round =>
    obtain ⟨k, rfl, hk, hRk, hbr⟩ := hrel
    obtain ⟨q0, q1, q2, q3⟩ := (hX.belowN hbr).c2
    by_cases hlt : k < 4
    · have hR2 : R = if rowE k [⟨regs, a, c, l⟩] ≠ 0 then rowE k [⟨regs, a, c, l⟩] else firstL [⟨regs, a, c, l⟩] ([0, 1, 2, 3].drop (k + 1)) := by
        rw [hRk.out]
        have h4 : k = 0 ∨ k = 1 ∨ k = 2 ∨ k = 3 := by omega
        rcases h4 with rfl | rfl | rfl | rfl <;> rfl
      rw [rowE_one] at hR2
      have HC := hide (HL.out k hlt wr (h1.belowN hbr))
      obtain ⟨E, hE⟩ : ∃ E, E = errI k ⟨regs, a, c, l⟩ := ⟨_, rfl⟩
      rw [← hE] at HC hR2
      have HR2 := hide hR2
      clear hE hR2 hRk
      by_cases hE0 : E = 0
      · obtain rfl := hE0
        go_wp2_with (go_at_call 112; ((with_reducible refine (HC.out).mono ?_); rintro e w1 ⟨rfl, hb1⟩))
        go_roundw
        case rel => exact ⟨k + 1, by go_num, by omega, by show R = _; rw [HR2.out]; rfl, hbr.trans (hb1.mono hbr.size)⟩
        case measure => simp [intOf]; omega
      · have hE1 : (E == 0) = false := by simpa using hE0
        have hE2 : (E != 0) = true := by simpa using hE0
        have HE0 := hide hE0
        clear hE0
        go_wp2_with (go_at_call 112; ((with_reducible refine (HC.out).mono ?_); rintro e w1 ⟨rfl, hb1⟩))
        go_ret
        exact ⟨by rw [HR2.out, if_pos HE0.out] <;> rfl, hb0.trans ((hbr.trans (hb1.mono hbr.size)).mono hb0.size)⟩
    · obtain rfl : k = 4 := by omega
      go_wp2
      go_ret
      exact ⟨by rw [hRk.out] <;> rfl, hb0.trans (hbr.mono hb0.size)⟩
end Go.Proofs.YtcamcnahkdiefaaGreat
