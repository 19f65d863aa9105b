/- Several texts of mine in one file. -/
import Derived.Test.YtcamcnahkdiefaaGreatYMFad
import Derived.Laws.EntriesVeiled
import Derived.Deep.LoopGhost
import Derived.Test.YtcamcnahkdiefaaGreatYMFac
/- Several texts of mine in one file: C10a, C10b, C10c. -/
/- Chapter 10: whether a program may be: the looks, one by one. -/
namespace Go.Proofs.YtcamcnahkdiefaaGreat
set_option linter.unusedVariables false
set_option linter.unusedSimpArgs false
open Go.RowKit

theorem fail_calls (b : Bool) (n : Int) (w : World) : Calls Tryz.prog 124 #[.bool b, .int .i64 n] w fun e w' => e = .returned (.int .i64 (if b = true then n else 0)) ∧ w = w' := by
  cases b
  all_goals
    go_enter Tryz.func124, Tryz.ntmps124
    go_wp2
    go_ret
    exact ⟨rfl, rfl⟩

set_option maxRecDepth 100000 in
set_option maxHeartbeats 800000 in
theorem IndexForm  (p : OpD → Bool) (a : Option Addr) (c : Nat) (l : List OpD) (w : World) (h : At w a l) (hl : l.length ≤ 1000000)
    (hcall : ∀ (x : OpD) (w' : World), x ∈ l → Below w.heap.size w w' → Calls Tryz.prog 195 #[.agg #[.int .i64 x.kind, .int .i64 x.d, .int .i64 x.a, .int .i64 x.b, .int .u64 (x.v.toNat : Int)]] w' fun e w'' => e = .returned (.bool (p x)) ∧ Below w'.heap.size w' w'') :
    Calls Tryz.prog 206 #[.slice a l.length c, .func (.func 195) #[] #[]] w fun e w' => ((l.any p = true → ∃ j : Nat, e = .returned (.int .i64 (j : Int))) ∧ (l.any p = false → e = .returned (.int .i64 (-1)))) ∧ Below w.heap.size w w' := by
  have HC := hide hcall
  obtain ⟨R, hR⟩ : ∃ R, R = l.any p := ⟨_, rfl⟩
  rw [← hR]
  have HR := hide hR
  clear hcall hR
  go_enter Tryz.func206, Tryz.ntmps206
  go_wp2
  go_loopw [8] (fun i wr => ∃ k : Nat, i = .int .i64 k ∧ k ≤ l.length ∧ Hid (R = (l.drop k).any p) ∧ Below w.heap.size w wr) (fun i _ => l.length - (intOf i).toNat)
  case atStart => exact ⟨0, rfl, by omega, HR.out, Below.refl _ _⟩
  case round =>
    obtain ⟨k, rfl, hk, hRk, hbr⟩ := hrel
    by_cases hlt : k < l.length
    · obtain ⟨b1, off1, x, rfl, hx, x0, x1, x2, x3, x4⟩ := h.getOp hbr hlt
      have hd := drop_at hx.out
      have hR2 := hRk.out
      rw [hd, List.any_cons] at hR2
      have hcx := fun w' hb => HC.out x w' (List.mem_of_getElem? hx.out) hb
      have HCX := hide hcx
      cases hp : p x with
      | true =>
        rw [hp] at hR2 HCX
        have HRT : Hid (R = true) := by show R = true; rw [hR2]; rfl
        clear hd hR2 hcx hx hp hRk
        go_wp2_with (go_at_call 195; ((with_reducible refine (HCX.out _ hbr).mono ?_); rintro e w1 ⟨rfl, hb1⟩))
        go_ret
        exact ⟨⟨fun _ => ⟨k, rfl⟩, fun h => by rw [HRT.out] at h; cases h⟩, hbr.trans (hb1.mono hbr.size)⟩
      | false =>
        rw [hp] at hR2 HCX
        have HR2 := hide hR2
        clear hd hR2 hcx hx hp hRk
        go_wp2_with (go_at_call 195; ((with_reducible refine (HCX.out _ hbr).mono ?_); rintro e w1 ⟨rfl, hb1⟩))
        go_roundw
        case rel => exact ⟨k + 1, by go_num, by omega, by show R = _; rw [HR2.out]; rfl, hbr.trans (hb1.mono hbr.size)⟩
        case measure => simp [intOf]; omega
    · obtain rfl : k = l.length := by omega
      have HRF : Hid (R = false) := by show R = false; rw [hRk.out, List.drop_eq_nil_of_le (by omega)]; rfl
      go_wp2
      go_ret
      exact ⟨⟨fun h => (by rw [HRF.out] at h; cases h), fun _ => rfl⟩, hbr⟩
theorem ContForm  (p : OpD → Bool) (a : Option Addr) (c : Nat) (l : List OpD) (w : World) (h : At w a l) (hl : l.length ≤ 1000000)
    (hcall : ∀ (x : OpD) (w' : World), x ∈ l → Below w.heap.size w w' → Calls Tryz.prog 195 #[.agg #[.int .i64 x.kind, .int .i64 x.d, .int .i64 x.a, .int .i64 x.b, .int .u64 (x.v.toNat : Int)]] w' fun e w'' => e = .returned (.bool (p x)) ∧ Below w'.heap.size w' w'') :
    Calls Tryz.prog 197 #[.slice a l.length c, .func (.func 195) #[] #[]] w fun e w' => e = .returned (.bool (l.any p)) ∧ Below w.heap.size w w' := by
  have HI := hide (IndexForm  p a c l w h hl hcall)
  clear hcall
  cases hp : l.any p with
  | true =>
    rw [hp] at HI
    clear hp
    go_enter Tryz.func197, Tryz.ntmps197
    go_wp2_with (go_at_call 206; ((with_reducible refine (HI.out).mono ?_); rintro e w1 ⟨⟨h1, h2⟩, hb1⟩; obtain ⟨j, rfl⟩ := h1 rfl; clear h1 h2))
    go_ret
    exact ⟨by simp, hb1⟩
  | false =>
    rw [hp] at HI
    clear hp
    go_enter Tryz.func197, Tryz.ntmps197
    go_wp2_with (go_at_call 206; ((with_reducible refine (HI.out).mono ?_); rintro e w1 ⟨⟨h1, h2⟩, hb1⟩; obtain rfl := h2 rfl; clear h1 h2))
    go_ret
    exact ⟨by simp, hb1⟩

theorem form1_calls (x : OpD) (w : World) : Calls Tryz.prog 195 #[.agg #[.int .i64 x.kind, .int .i64 x.d, .int .i64 x.a, .int .i64 x.b, .int .u64 (x.v.toNat : Int)]] w fun e w' => e = .returned (.bool (!rightB x)) ∧ Below w.heap.size w w' := by
  obtain ⟨k, rd, ra, rb, v⟩ := x
  have HR := hide (fun w => Right_calls ⟨k, rd, ra, rb, v⟩ w)
  generalize rightB ⟨k, rd, ra, rb, v⟩ = R at *
  simp only at *
  go_enter Tryz.func195, Tryz.ntmps195
  go_wp2_with (go_at_call 196; ((with_reducible refine (HR.out _).mono ?_); rintro e w1 ⟨rfl, hb1⟩))
  go_ret
  exact ⟨rfl, (Below.alloc (Below.refl _ _) (Nat.le_refl _) _).trans (hb1.mono (by simp))⟩
theorem formB_any (l : List OpD) : formB l = (decide (l.length ≤ 4096) && well l && !(l.any fun x => !rightB x)) := by
  unfold formB
  congr 1
  induction l with
  | nil => rfl
  | cons x r ih => simp [ih]

set_option maxHeartbeats 800000 in
theorem form_calls (regs : Int) (a : Option Addr) (c : Nat) (l : List OpD) (w : World) (h : At w a l) (hl : l.length ≤ 1000000) :
    Calls Tryz.prog 182 #[.agg #[.int .i64 regs, .slice a l.length c]] w fun e w' => e = .returned (.int .i64 (if formB l = true then 0 else 6)) ∧ Below w.heap.size w w' := by
  have hX := Blk.new w 200 #[.int .i64 regs, .slice a l.length c]
  obtain ⟨R, hR⟩ : ∃ R, R = formB l := ⟨_, rfl⟩
  have hR2 := hR.trans (formB_any l)
  rw [← hR]
  have HF := hide (fun n w => fail_calls true n w)
  have HF0 := hide (fun n w => fail_calls false n w)
  have HC := hide (fun w' (g : At w' a l) => ContForm (fun x => !rightB x) a c l w' g hl (fun x w2 _ _ => form1_calls x w2))
  obtain ⟨Y, hY⟩ : ∃ Y, Y = l.any (fun x => !rightB x) := ⟨_, rfl⟩
  rw [← hY] at hR2 HC
  have HR := hide hR2
  obtain ⟨V, hV⟩ : ∃ V : Int, V = if R = true then 0 else 6 := ⟨_, rfl⟩
  rw [← hV]
  have HV := hide hV
  clear hR hR2 hY hV
  cases hw : well l with
  | false =>
    rw [hw] at HR
    have HM := hide (fun w' (g : At w' a l) => MatchN a c l w' g hl hw)
    have hRf : Hid (R = false) := by show R = false; rw [HR.out]; simp
    clear hw
    by_cases h1 : 4096 < l.length
    all_goals
      go_enter Tryz.func182, Tryz.ntmps182
      go_wp2_with (first
        | (go_at_call 96; ((with_reducible refine (HM.out _ (h.belowN (Below.alloc (Below.refl _ _) (Nat.le_refl _) _))).mono ?_); rintro e w1 ⟨a1, c1, rfl, hb1⟩; obtain ⟨q0, q1, q2, q3⟩ := (hX.belowN hb1).c2))
        | (go_at_call 124; ((with_reducible refine (HF.out _ _).mono ?_); rintro e w2 ⟨rfl, rfl⟩)))
      go_ret
      exact ⟨by rw [HV.out, hRf.out] <;> rfl, (Below.alloc (Below.refl _ _) (Nat.le_refl _) _).trans (hb1.mono (by simp))⟩
  | true =>
    rw [hw] at HR
    have HM := hide (fun w' (g : At w' a l) => MatchW a c l w' g hl hw)
    clear hw
    by_cases h1 : 4096 < l.length
    · have hRf : Hid (R = false) := by show R = false; rw [HR.out]; simp; omega
      go_enter Tryz.func182, Tryz.ntmps182
      go_wp2_with (first
        | (go_at_call 96; ((with_reducible refine (HM.out _ (h.belowN (Below.alloc (Below.refl _ _) (Nat.le_refl _) _))).mono ?_); rintro e w1 ⟨a1, c1, rfl, hom, hb1⟩; obtain ⟨q0, q1, q2, q3⟩ := (hX.belowN hb1).c2))
        | (go_at_call 124; ((with_reducible refine (HF.out _ _).mono ?_); rintro e w2 ⟨rfl, rfl⟩)))
      go_ret
      exact ⟨by rw [HV.out, hRf.out] <;> rfl, (Below.alloc (Below.refl _ _) (Nat.le_refl _) _).trans (hb1.mono (by simp))⟩
    · have hRy : Hid (R = !Y) := by show R = _; rw [HR.out]; simp; omega
      have d1 : decide (4096 < (l.length : Int)) = false := by simp; omega
      cases Y
      all_goals
        go_enter Tryz.func182, Tryz.ntmps182
        go_wp2_with (first
          | (go_at_call 96; ((with_reducible refine (HM.out _ (h.belowN (Below.alloc (Below.refl _ _) (Nat.le_refl _) _))).mono ?_); rintro e w1 ⟨a1, c1, rfl, hom, hb1⟩; obtain ⟨q0, q1, q2, q3⟩ := (hX.belowN hb1).c2))
          | (go_at_call 197; ((with_reducible refine (HC.out _ ((h.belowN (Below.alloc (Below.refl _ _) (Nat.le_refl _) _)).belowN hb1)).mono ?_); rintro e w2 ⟨rfl, hb2⟩))
          | (go_at_call 124; first | ((with_reducible refine (HF.out _ _).mono ?_); rintro e w3 ⟨rfl, rfl⟩) | ((with_reducible refine (HF0.out _ _).mono ?_); rintro e w3 ⟨rfl, rfl⟩)))
        go_ret
        exact ⟨by rw [HV.out, hRy.out] <;> rfl, (Below.alloc (Below.refl _ _) (Nat.le_refl _) _).trans ((hb1.trans (hb2.mono hb1.size)).mono (by simp))⟩

theorem depth_calls (regs : Int) (a : Option Addr) (c : Nat) (l : List OpD) (w : World) (h : At w a l) (hl : l.length ≤ 1000000) :
    Calls Tryz.prog 184 #[.agg #[.int .i64 regs, .slice a l.length c]] w fun e w' => e = .returned (.int .i64 (if (deepS l).1 ≤ 8 then 0 else 8)) ∧ Below w.heap.size w w' := by
  have HF := hide (fun n w => fail_calls true n w)
  have HF0 := hide (fun n w => fail_calls false n w)
  have HD := hide (fun w' (g : At w' a l) => Deep_calls a c l w' g hl)
  generalize (deepS l).1 = D at *
  generalize (deepS l).2 = E at *
  by_cases h1 : D ≤ 8
  · have e : (if D ≤ 8 then (0 : Int) else 8) = 0 := if_pos h1
    have d1 : decide (8 < D) = false := by simp; omega
    rw [e]
    clear e
    go_enter Tryz.func184, Tryz.ntmps184
    go_wp2_with (first
      | (go_at_call 201; ((with_reducible refine (HD.out _ (h.belowN (Below.alloc (Below.refl _ _) (Nat.le_refl _) _))).mono ?_); rintro e w1 ⟨rfl, hb1⟩))
      | (go_at_call 124; ((with_reducible refine (HF0.out _ _).mono ?_); rintro e w2 ⟨rfl, rfl⟩)))
    go_ret
    exact ⟨rfl, (Below.alloc (Below.refl _ _) (Nat.le_refl _) _).trans (hb1.mono (by simp))⟩
  · have e : (if D ≤ 8 then (0 : Int) else 8) = 8 := if_neg h1
    have d1 : decide (8 < D) = true := by simp; omega
    rw [e]
    clear e
    go_enter Tryz.func184, Tryz.ntmps184
    go_wp2_with (first
      | (go_at_call 201; ((with_reducible refine (HD.out _ (h.belowN (Below.alloc (Below.refl _ _) (Nat.le_refl _) _))).mono ?_); rintro e w1 ⟨rfl, hb1⟩))
      | (go_at_call 124; ((with_reducible refine (HF.out _ _).mono ?_); rintro e w2 ⟨rfl, rfl⟩)))
    go_ret
    exact ⟨rfl, (Below.alloc (Below.refl _ _) (Nat.le_refl _) _).trans (hb1.mono (by simp))⟩
theorem cwrites_calls (regs : Int) (a : Option Addr) (c : Nat) (l : List OpD) (w : World) (h : At w a l) (hl : l.length ≤ 1000000) :
    Calls Tryz.prog 185 #[.agg #[.int .i64 regs, .slice a l.length c]] w fun e w' => e = .returned (.int .i64 (sizeE l)) ∧ Below w.heap.size w w' := by
  have HD := hide (fun w' (g : At w' a l) => SizeW_calls a c l w' g hl)
  generalize sizeW l = W at *
  generalize sizeE l = E at *
  go_enter Tryz.func185, Tryz.ntmps185
  go_wp2_with (go_at_call 58; ((with_reducible refine (HD.out _ (h.belowN (Below.alloc (Below.refl _ _) (Nat.le_refl _) _))).mono ?_); rintro e w1 ⟨rfl, hb1⟩))
  go_ret
  exact ⟨rfl, (Below.alloc (Below.refl _ _) (Nat.le_refl _) _).trans (hb1.mono (by simp))⟩

/-! ### registers -/
set_option maxRecDepth 100000 in
set_option maxHeartbeats 800000 in
theorem IndexReg (g : Nat) (p : Int → Bool) (a : Option Addr) (c : Nat) (l : List Int) (w : World) (h : At w a l) (hl : l.length ≤ 1000000)
    (hcall : ∀ (x : Int) (w' : World), x ∈ l → Below w.heap.size w w' → Calls Tryz.prog 200 #[.int .i64 x, .pointer (some ⟨g, 0, none⟩)] w' fun e w'' => e = .returned (.bool (p x)) ∧ Below w'.heap.size w' w'') :
    Calls Tryz.prog 165 #[.slice a l.length c, .func (.func 200) #[] #[.pointer (some ⟨g, 0, none⟩)]] w fun e w' => ((l.any p = true → ∃ j : Nat, e = .returned (.int .i64 (j : Int))) ∧ (l.any p = false → e = .returned (.int .i64 (-1)))) ∧ Below w.heap.size w w' := by
  have HC := hide hcall
  obtain ⟨R, hR⟩ : ∃ R, R = l.any p := ⟨_, rfl⟩
  rw [← hR]
  have HR := hide hR
  clear hcall hR
  go_enter Tryz.func165, Tryz.ntmps165
  go_wp2
  go_loopw [8] (fun i wr => ∃ k : Nat, i = .int .i64 k ∧ k ≤ l.length ∧ Hid (R = (l.drop k).any p) ∧ Below w.heap.size w wr) (fun i _ => l.length - (intOf i).toNat)
  case atStart => exact ⟨0, rfl, by omega, HR.out, Below.refl _ _⟩
  case round =>
    obtain ⟨k, rfl, hk, hRk, hbr⟩ := hrel
    by_cases hlt : k < l.length
    · obtain ⟨b1, off1, x, rfl, hx, x0⟩ := h.getI hbr hlt
      have hd := drop_at hx.out
      have hR2 := hRk.out
      rw [hd, List.any_cons] at hR2
      have hcx := fun w' hb => HC.out x w' (List.mem_of_getElem? hx.out) hb
      have HCX := hide hcx
      cases hp : p x with
      | true =>
        rw [hp] at hR2 HCX
        have HRT : Hid (R = true) := by show R = true; rw [hR2]; rfl
        clear hd hR2 hcx hx hp hRk
        go_wp2_with (go_at_call 200; ((with_reducible refine (HCX.out _ hbr).mono ?_); rintro e w1 ⟨rfl, hb1⟩))
        go_ret
        exact ⟨⟨fun _ => ⟨k, rfl⟩, fun h => by rw [HRT.out] at h; cases h⟩, hbr.trans (hb1.mono hbr.size)⟩
      | false =>
        rw [hp] at hR2 HCX
        have HR2 := hide hR2
        clear hd hR2 hcx hx hp hRk
        go_wp2_with (go_at_call 200; ((with_reducible refine (HCX.out _ hbr).mono ?_); rintro e w1 ⟨rfl, hb1⟩))
        go_roundw
        case rel => exact ⟨k + 1, by go_num, by omega, by show R = _; rw [HR2.out]; rfl, hbr.trans (hb1.mono hbr.size)⟩
        case measure => simp [intOf]; omega
    · obtain rfl : k = l.length := by omega
      have HRF : Hid (R = false) := by show R = false; rw [hRk.out, List.drop_eq_nil_of_le (by omega)]; rfl
      go_wp2
      go_ret
      exact ⟨⟨fun h => (by rw [HRF.out] at h; cases h), fun _ => rfl⟩, hbr⟩
theorem ContReg (g : Nat) (p : Int → Bool) (a : Option Addr) (c : Nat) (l : List Int) (w : World) (h : At w a l) (hl : l.length ≤ 1000000)
    (hcall : ∀ (x : Int) (w' : World), x ∈ l → Below w.heap.size w w' → Calls Tryz.prog 200 #[.int .i64 x, .pointer (some ⟨g, 0, none⟩)] w' fun e w'' => e = .returned (.bool (p x)) ∧ Below w'.heap.size w' w'') :
    Calls Tryz.prog 140 #[.slice a l.length c, .func (.func 200) #[] #[.pointer (some ⟨g, 0, none⟩)]] w fun e w' => e = .returned (.bool (l.any p)) ∧ Below w.heap.size w w' := by
  have HI := hide (IndexReg g p a c l w h hl hcall)
  clear hcall
  cases hp : l.any p with
  | true =>
    rw [hp] at HI
    clear hp
    go_enter Tryz.func140, Tryz.ntmps140
    go_wp2_with (go_at_call 165; ((with_reducible refine (HI.out).mono ?_); rintro e w1 ⟨⟨h1, h2⟩, hb1⟩; obtain ⟨j, rfl⟩ := h1 rfl; clear h1 h2))
    go_ret
    exact ⟨by simp, hb1⟩
  | false =>
    rw [hp] at HI
    clear hp
    go_enter Tryz.func140, Tryz.ntmps140
    go_wp2_with (go_at_call 165; ((with_reducible refine (HI.out).mono ?_); rintro e w1 ⟨⟨h1, h2⟩, hb1⟩; obtain rfl := h2 rfl; clear h1 h2))
    go_ret
    exact ⟨by simp, hb1⟩

theorem reg11_calls (regs n : Int) (g : Nat) (sl : Value) (w : World) (h : Blk w g 200 #[.int .i64 regs, sl]) : Calls Tryz.prog 200 #[.int .i64 n, .pointer (some ⟨g, 0, none⟩)] w fun e w' => e = .returned (.bool (decide (regs ≤ n))) ∧ Below w.heap.size w w' := by
  obtain ⟨q0, q1, q2, q3⟩ := h.c2
  go_enter Tryz.func200, Tryz.ntmps200
  go_wp2
  go_ret
  exact ⟨rfl, Below.refl _ _⟩
theorem off_any (regs : Int) (x : OpD) : offB regs x = ((if dOf x.kind = true then readsL x ++ [x.d] else readsL x).any fun n => decide (regs ≤ n)) := by
  have hb : bOf x.kind = true → aOf x.kind = true := by unfold bOf aOf; simp; omega
  unfold offB readsL
  cases hA : aOf x.kind <;> cases hB : bOf x.kind <;> cases hD : dOf x.kind <;> simp [hA, hB] at hb ⊢
  all_goals simp [Bool.or_assoc]
theorem reads_len (x : OpD) : (readsL x).length ≤ 2 := by unfold readsL; split <;> (try split) <;> simp

set_option maxHeartbeats 1600000 in
theorem reg1_calls (regs : Int) (g : Nat) (sl : Value) (x : OpD) (w : World) (h : Blk w g 200 #[.int .i64 regs, sl]) : Calls Tryz.prog 198 #[.agg #[.int .i64 x.kind, .int .i64 x.d, .int .i64 x.a, .int .i64 x.b, .int .u64 (x.v.toNat : Int)], .pointer (some ⟨g, 0, none⟩)] w fun e w' => e = .returned (.bool (offB regs x)) ∧ Below w.heap.size w w' := by
  have hoff := off_any regs x
  have HR := hide (fun w => Reads_calls x w)
  have HW := hide (fun w => Writes7_calls x w)
  have hlen := reads_len x
  unfold ReadsPost at HR
  obtain ⟨V, hV⟩ : ∃ V, V = offB regs x := ⟨_, rfl⟩
  rw [← hV] at hoff ⊢
  obtain ⟨k, rd, ra, rb, v⟩ := x
  simp only at *
  generalize readsL ⟨k, rd, ra, rb, v⟩ = L at *
  have HV := hide hoff
  clear hoff hV
  have hg := h.lt
  cases hD : dOf k with
  | false =>
    rw [hD] at HW HV
    simp only [Bool.false_eq_true, if_false] at HW HV
    have HC := hide (fun w' a c (g1 : At w' a L) (g2 : Blk w' g 200 #[.int .i64 regs, sl]) => ContReg g (fun n => decide (regs ≤ n)) a c L w' g1 (by omega) (fun x w2 _ hb => reg11_calls regs x g sl w2 (g2.belowN hb)))
    rw [← HV.out] at HC
    clear hD
    go_enter Tryz.func198, Tryz.ntmps198
    go_wp2_with (first
      | (go_at_call 199; ((with_reducible refine (HR.out _).mono ?_); rintro e w1 ⟨a1, c1, rfl, own1, hb1⟩; obtain ⟨hz, hB1, hX⟩ := box5 hb1; obtain ⟨x0, x1, x2, x3, x4, y0, y1, y2, y3, y4⟩ := hX.c5))
      | (go_at_call 149; ((with_reducible refine (HW.out _).mono ?_); rintro e w2 ⟨rfl, hb2⟩))
      | (go_at_call 140; ((with_reducible refine (HC.out _ _ _ (own1.belowN hb2).at_ ((h.belowN hB1).belowN hb2)).mono ?_); rintro e w3 ⟨rfl, hb3⟩)))
    go_ret
    exact ⟨rfl, hB1.trans ((hb2.trans (hb3.mono hb2.size)).mono hB1.size)⟩
  | true =>
    rw [hD] at HW HV
    simp only [if_true] at HW HV
    have HC := hide (fun w' a c (g1 : At w' a (L ++ [rd])) (g2 : Blk w' g 200 #[.int .i64 regs, sl]) => ContReg g (fun n => decide (regs ≤ n)) a c (L ++ [rd]) w' g1 (by simp; omega) (fun x w2 _ hb => reg11_calls regs x g sl w2 (g2.belowN hb)))
    rw [← HV.out] at HC
    rw [List.length_append, List.length_singleton] at HC
    clear hD
    go_enter Tryz.func198, Tryz.ntmps198
    go_wp2_with (first
      | (go_at_call 199; ((with_reducible refine (HR.out _).mono ?_); rintro e w1 ⟨a1, c1, rfl, own1, hb1⟩; obtain ⟨hz, hB1, hX⟩ := box5 hb1; obtain ⟨x0, x1, x2, x3, x4, y0, y1, y2, y3, y4⟩ := hX.c5; clear hb1))
      | (go_at_call 149; ((with_reducible refine (HW.out _).mono ?_); rintro e w2 ⟨rfl, hb2⟩; have own2 := own1.belowN hb2; have hB2 := hB1.trans (hb2.mono hB1.size); have hz2 := hb2.size; clear own1))
      | (at_builtin; refine wpList_push tyI own2 rd rfl rfl rfl rfl rfl rfl rfl (by simp; omega) (by omega) ?_; intro a3 c3 w3 hown3 hg3 _)
      | (go_at_call 140; ((with_reducible refine (HC.out _ _ _ hown3.at_ ?_).mono ?_); (focus (skip; exact ((h.belowN hB2).grown hg3 (fun e => by have := (own2.blk g e.symm).1; simp at this; omega)))); rintro e w4 ⟨rfl, hb4⟩)))
    go_ret
    have hB3 := below_push hB2 (own2.mono (by simp)) hg3 hB2.size
    exact ⟨rfl, hB3.trans (hb4.mono hB3.size)⟩

set_option maxRecDepth 100000 in
set_option maxHeartbeats 800000 in
theorem IndexRegs (g : Nat) (p : OpD → Bool) (a : Option Addr) (c : Nat) (l : List OpD) (w : World) (h : At w a l) (hl : l.length ≤ 1000000)
    (hcall : ∀ (x : OpD) (w' : World), x ∈ l → Below w.heap.size w w' → Calls Tryz.prog 198 #[.agg #[.int .i64 x.kind, .int .i64 x.d, .int .i64 x.a, .int .i64 x.b, .int .u64 (x.v.toNat : Int)], .pointer (some ⟨g, 0, none⟩)] w' fun e w'' => e = .returned (.bool (p x)) ∧ Below w'.heap.size w' w'') :
    Calls Tryz.prog 206 #[.slice a l.length c, .func (.func 198) #[] #[.pointer (some ⟨g, 0, none⟩)]] w fun e w' => ((l.any p = true → ∃ j : Nat, e = .returned (.int .i64 (j : Int))) ∧ (l.any p = false → e = .returned (.int .i64 (-1)))) ∧ Below w.heap.size w w' := by
  have HC := hide hcall
  obtain ⟨R, hR⟩ : ∃ R, R = l.any p := ⟨_, rfl⟩
  rw [← hR]
  have HR := hide hR
  clear hcall hR
  go_enter Tryz.func206, Tryz.ntmps206
  go_wp2
  go_loopw [8] (fun i wr => ∃ k : Nat, i = .int .i64 k ∧ k ≤ l.length ∧ Hid (R = (l.drop k).any p) ∧ Below w.heap.size w wr) (fun i _ => l.length - (intOf i).toNat)
  case atStart => exact ⟨0, rfl, by omega, HR.out, Below.refl _ _⟩
  case round =>
    obtain ⟨k, rfl, hk, hRk, hbr⟩ := hrel
    by_cases hlt : k < l.length
    · obtain ⟨b1, off1, x, rfl, hx, x0, x1, x2, x3, x4⟩ := h.getOp hbr hlt
      have hd := drop_at hx.out
      have hR2 := hRk.out
      rw [hd, List.any_cons] at hR2
      have hcx := fun w' hb => HC.out x w' (List.mem_of_getElem? hx.out) hb
      have HCX := hide hcx
      cases hp : p x with
      | true =>
        rw [hp] at hR2 HCX
        have HRT : Hid (R = true) := by show R = true; rw [hR2]; rfl
        clear hd hR2 hcx hx hp hRk
        go_wp2_with (go_at_call 198; ((with_reducible refine (HCX.out _ hbr).mono ?_); rintro e w1 ⟨rfl, hb1⟩))
        go_ret
        exact ⟨⟨fun _ => ⟨k, rfl⟩, fun h => by rw [HRT.out] at h; cases h⟩, hbr.trans (hb1.mono hbr.size)⟩
      | false =>
        rw [hp] at hR2 HCX
        have HR2 := hide hR2
        clear hd hR2 hcx hx hp hRk
        go_wp2_with (go_at_call 198; ((with_reducible refine (HCX.out _ hbr).mono ?_); rintro e w1 ⟨rfl, hb1⟩))
        go_roundw
        case rel => exact ⟨k + 1, by go_num, by omega, by show R = _; rw [HR2.out]; rfl, hbr.trans (hb1.mono hbr.size)⟩
        case measure => simp [intOf]; omega
    · obtain rfl : k = l.length := by omega
      have HRF : Hid (R = false) := by show R = false; rw [hRk.out, List.drop_eq_nil_of_le (by omega)]; rfl
      go_wp2
      go_ret
      exact ⟨⟨fun h => (by rw [HRF.out] at h; cases h), fun _ => rfl⟩, hbr⟩
theorem ContRegs (g : Nat) (p : OpD → Bool) (a : Option Addr) (c : Nat) (l : List OpD) (w : World) (h : At w a l) (hl : l.length ≤ 1000000)
    (hcall : ∀ (x : OpD) (w' : World), x ∈ l → Below w.heap.size w w' → Calls Tryz.prog 198 #[.agg #[.int .i64 x.kind, .int .i64 x.d, .int .i64 x.a, .int .i64 x.b, .int .u64 (x.v.toNat : Int)], .pointer (some ⟨g, 0, none⟩)] w' fun e w'' => e = .returned (.bool (p x)) ∧ Below w'.heap.size w' w'') :
    Calls Tryz.prog 197 #[.slice a l.length c, .func (.func 198) #[] #[.pointer (some ⟨g, 0, none⟩)]] w fun e w' => e = .returned (.bool (l.any p)) ∧ Below w.heap.size w w' := by
  have HI := hide (IndexRegs g p a c l w h hl hcall)
  clear hcall
  cases hp : l.any p with
  | true =>
    rw [hp] at HI
    clear hp
    go_enter Tryz.func197, Tryz.ntmps197
    go_wp2_with (go_at_call 206; ((with_reducible refine (HI.out).mono ?_); rintro e w1 ⟨⟨h1, h2⟩, hb1⟩; obtain ⟨j, rfl⟩ := h1 rfl; clear h1 h2))
    go_ret
    exact ⟨by simp, hb1⟩
  | false =>
    rw [hp] at HI
    clear hp
    go_enter Tryz.func197, Tryz.ntmps197
    go_wp2_with (go_at_call 206; ((with_reducible refine (HI.out).mono ?_); rintro e w1 ⟨⟨h1, h2⟩, hb1⟩; obtain rfl := h2 rfl; clear h1 h2))
    go_ret
    exact ⟨by simp, hb1⟩
theorem regsB_any (regs : Int) (l : List OpD) : regsB regs l = (decide (1 ≤ regs) && decide (regs ≤ 64) && !(l.any (offB regs))) := by
  unfold regsB
  congr 1
  induction l with
  | nil => rfl
  | cons x r ih => simp [ih]
set_option maxHeartbeats 800000 in
theorem registers_calls (regs : Int) (a : Option Addr) (c : Nat) (l : List OpD) (w : World) (h : At w a l) (hl : l.length ≤ 1000000) :
    Calls Tryz.prog 183 #[.agg #[.int .i64 regs, .slice a l.length c]] w fun e w' => e = .returned (.int .i64 (if regsB regs l = true then 0 else 7)) ∧ Below w.heap.size w w' := by
  have hX := Blk.new w 200 #[.int .i64 regs, .slice a l.length c]
  have hb1 : Below w.heap.size w (w.alloc (.cells #[.int .i64 regs, .slice a l.length c] 200)) := Below.alloc (Below.refl _ _) (Nat.le_refl _) _
  obtain ⟨R, hR⟩ : ∃ R, R = regsB regs l := ⟨_, rfl⟩
  have hR2 := hR.trans (regsB_any regs l)
  rw [← hR]
  have HF := hide (fun n w => fail_calls true n w)
  have HF0 := hide (fun n w => fail_calls false n w)
  have HC := hide (fun w' (g : At w' a l) (g2 : Blk w' w.heap.size 200 #[.int .i64 regs, .slice a l.length c]) => ContRegs w.heap.size (offB regs) a c l w' g hl (fun x w2 _ hb => reg1_calls regs w.heap.size _ x w2 (g2.belowN hb)))
  obtain ⟨Y, hY⟩ : ∃ Y, Y = l.any (offB regs) := ⟨_, rfl⟩
  rw [← hY] at hR2 HC
  have HR := hide hR2
  obtain ⟨V, hV⟩ : ∃ V : Int, V = if R = true then 0 else 7 := ⟨_, rfl⟩
  rw [← hV]
  have HV := hide hV
  clear hR hR2 hY hV
  by_cases h1 : regs < 1
  · have hRf : Hid (R = false) := by show R = false; rw [HR.out]; simp; omega
    have d1 : decide (regs < 1) = true := by simp; omega
    go_enter Tryz.func183, Tryz.ntmps183
    go_wp2_with (go_at_call 124; ((with_reducible refine (HF.out _ _).mono ?_); rintro e w2 ⟨rfl, rfl⟩))
    go_ret
    exact ⟨by rw [HV.out, hRf.out] <;> rfl, hb1⟩
  have d1 : decide (regs < 1) = false := by simp; omega
  by_cases h2 : 64 < regs
  · have hRf : Hid (R = false) := by show R = false; rw [HR.out]; simp; omega
    have d2 : decide (64 < regs) = true := by simp; omega
    go_enter Tryz.func183, Tryz.ntmps183
    go_wp2_with (go_at_call 124; ((with_reducible refine (HF.out _ _).mono ?_); rintro e w2 ⟨rfl, rfl⟩))
    go_ret
    exact ⟨by rw [HV.out, hRf.out] <;> rfl, hb1⟩
  have d2 : decide (64 < regs) = false := by simp; omega
  have hRy : Hid (R = !Y) := by show R = _; rw [HR.out]; simp; omega
  have hz : (w.alloc (.cells #[.int .i64 regs, .slice a l.length c] 200)).heap.size = w.heap.size + 1 := by simp
  have HZ := hide hz
  clear hz
  cases Y
  all_goals
    go_enter Tryz.func183, Tryz.ntmps183
    go_wp2_with (first
      | (go_at_call 197; ((with_reducible refine (HC.out _ (h.belowN hb1) hX).mono ?_); rintro e w2 ⟨rfl, hb2⟩; rw [HZ.out] at hb2))
      | (go_at_call 124; first | ((with_reducible refine (HF.out _ _).mono ?_); rintro e w3 ⟨rfl, rfl⟩) | ((with_reducible refine (HF0.out _ _).mono ?_); rintro e w3 ⟨rfl, rfl⟩)))
    go_ret
    exact ⟨by rw [HV.out, hRy.out] <;> rfl, hb1.trans (hb2.mono (by omega))⟩
end Go.Proofs.YtcamcnahkdiefaaGreat

/- Chapter 10: all looks, in their order, at some programs. -/
namespace Go.Proofs.YtcamcnahkdiefaaGreat
set_option linter.unusedVariables false
set_option linter.unusedSimpArgs false
open Go.RowKit

def lookV (regs : Int) (sl : Value) (i : Nat) : Value :=
  if i = 0 then .func (.func 182) #[.agg #[.int .i64 regs, sl]] #[] else if i = 1 then .func (.func 183) #[.agg #[.int .i64 regs, sl]] #[]
  else if i = 2 then .func (.func 184) #[.agg #[.int .i64 regs, sl]] #[] else .func (.func 185) #[.agg #[.int .i64 regs, sl]] #[]
def lookA (regs : Int) (sl : Value) : Array Value := #[lookV regs sl 0, lookV regs sl 1, lookV regs sl 2, lookV regs sl 3]
theorem looks_calls (regs : Int) (sl : Value) (w : World) : Calls Tryz.prog 156 #[.agg #[.int .i64 regs, sl]] w fun e w' =>
    ∃ g, e = .returned (.slice (some ⟨g, 0, none⟩) 4 4) ∧ w.heap.size ≤ g ∧ Blk w' g 242 (lookA regs sl) ∧ Below w.heap.size w w' := by
  go_enter Tryz.func156, Tryz.ntmps156
  go_wp2
  go_ret
  exact ⟨w.heap.size + 1, rfl, by omega, by have := Blk.new (w.alloc (.cells #[.int .i64 regs, sl] 200)) 242 (lookA regs sl); simp at this; exact this, (by with_reducible repeat first | exact Below.refl _ _ | assumption | refine below_drewN ?_ _ | refine Below.drew ?_ | refine Below.alloc ?_ (by simp <;> omega) _ | refine Below.setCell ?_ (by simp <;> omega) _)⟩

structure PrD where
  regs : Int
  a : Option Addr
  c : Nat
  l : List OpD
instance : Flat PrD := ⟨2, fun x => [.int .i64 x.regs, .slice x.a x.l.length x.c], fun _ => rfl, fun x u hu => by simp at hu; rcases hu with rfl | rfl <;> rfl, by decide⟩
def PrD.sl (p : PrD) : Value := .slice p.a p.l.length p.c
def errI (i : Nat) (p : PrD) : Int := if i = 0 then (if formB p.l = true then 0 else 6) else if i = 1 then (if regsB p.regs p.l = true then 0 else 7) else if i = 2 then (if (deepS p.l).1 ≤ 8 then 0 else 8) else sizeE p.l
def rowE (i : Nat) : List PrD → Int
  | [] => 0
  | p :: r => if errI i p ≠ 0 then errI i p else rowE i r
def firstL (ps : List PrD) : List Nat → Int
  | [] => 0
  | i :: r => if rowE i ps ≠ 0 then rowE i ps else firstL ps r
def firstS (ps : List PrD) : Int := firstL ps [0, 1, 2, 3]

def LooksAt (w : World) (ao : Option Addr) (hs : List Hd) (ps : List PrD) : Prop :=
  hs.length = ps.length ∧ ∀ (j : Nat) (h : Hd) (p : PrD), hs[j]? = some h → ps[j]? = some p → ∃ g, h = ⟨some ⟨g, 0, none⟩, 4, 4⟩ ∧ Blk w g 242 (lookA p.regs p.sl) ∧ ao.map (·.block) ≠ some g
theorem LooksAt.nil (w : World) : LooksAt w none [] [] := ⟨rfl, fun j h p hh => by simp at hh⟩
theorem LooksAt.belowN {w w' : World} {ao : Option Addr} {hs : List Hd} {ps : List PrD} (h : LooksAt w ao hs ps) (hb : Below w.heap.size w w') : LooksAt w' ao hs ps :=
  ⟨h.1, fun j hd p h1 h2 => let ⟨g, e1, e2, e3⟩ := h.2 j hd p h1 h2; ⟨g, e1, e2.belowN hb, e3⟩⟩
theorem LooksAt.push {w w' : World} {ao ao' : Option Addr} {hs : List Hd} {ps : List PrD} {p : PrD} {g : Nat} (h : LooksAt w ao hs ps) (hg : Blk w g 242 (lookA p.regs p.sl)) (hne : ao.map (·.block) ≠ some g)
    (hw : w.grownBy w' (ao.map (·.block))) (hm : ao'.map (·.block) = ao.map (·.block) ∨ ∃ g', ao'.map (·.block) = some g' ∧ w.heap.size ≤ g') : LooksAt w' ao' (hs ++ [⟨some ⟨g, 0, none⟩, 4, 4⟩]) (ps ++ [p]) := by
  have far : ∀ g cs, Blk w g 242 cs → ao.map (·.block) ≠ some g → ao'.map (·.block) ≠ some g := by
    intro g cs hb hn
    rcases hm with e | ⟨g', e, hle⟩
    · rw [e]; exact hn
    · rw [e]; have := hb.lt; simp; omega
  refine ⟨by simp [h.1], fun j hd q h1 h2 => ?_⟩
  by_cases hj : j < hs.length
  · rw [List.getElem?_append_left hj] at h1
    rw [List.getElem?_append_left (by rw [← h.1]; exact hj)] at h2
    obtain ⟨g1, e1, e2, e3⟩ := h.2 j hd q h1 h2
    exact ⟨g1, e1, e2.grown hw (fun e => e3 e.symm), far _ _ e2 e3⟩
  · have hj0 : j = hs.length := by have := (List.getElem?_eq_some_iff.1 h1).1; simp at this; omega
    subst hj0
    rw [List.getElem?_append_right (Nat.le_refl _), Nat.sub_self] at h1
    rw [h.1, List.getElem?_append_right (Nat.le_refl _), Nat.sub_self] at h2
    simp at h1 h2
    subst h1 h2
    exact ⟨g, rfl, hg.grown hw (fun e => hne e.symm), far _ _ hg hne⟩

theorem take_snoc' {α : Type} {l : List α} {k : Nat} {x : α} (h : l[k]? = some x) : l.take k ++ [x] = l.take (k + 1) := by rw [List.take_add_one, h]; rfl
theorem tyLooks : Ty Tryz.prog 239 240 Hd := Ty.of (z := .slice none 0 0) (size := 1) (bytes := 24) Tryz.underlying239 (by kernel_rfl) rfl (by decide) rfl
theorem At.getPr {w wr : World} {a : Option Addr} {l : List PrD} (h : At w a l) (hb : Below w.heap.size w wr) {k : Nat} (hk : k < l.length) :
    ∃ b off x, a = some ⟨b, off, none⟩ ∧ Hid (l[k]? = some x) ∧ wr.cell? ⟨b, off + k * 2, none⟩ = some (.int .i64 x.regs) ∧ wr.cell? ⟨b, off + k * 2 + 1, none⟩ = some (.slice x.a x.l.length x.c) := by
  obtain ⟨b, off, x, e, hx, hc⟩ := (h.belowN hb).get hk
  exact ⟨b, off, x, e, hx, hc 0 _ rfl, hc 1 _ rfl⟩
theorem At.getHd {w wr : World} {a : Option Addr} {l : List Hd} (h : At w a l) (hb : Below w.heap.size w wr) {k : Nat} (hk : k < l.length) :
    ∃ b off x, a = some ⟨b, off, none⟩ ∧ Hid (l[k]? = some x) ∧ wr.cell? ⟨b, off + k, none⟩ = some (.slice x.a x.n x.c) := by
  obtain ⟨b, off, x, e, hx, hc⟩ := (h.belowN hb).get hk
  have := hc 0 _ rfl
  exact ⟨b, off, x, e, hx, by simpa [Flat.n] using this⟩

set_option maxRecDepth 100000 in
set_option maxHeartbeats 3200000 in
theorem first_calls (ap : Option Addr) (cp : Nat) (ps : List PrD) (w : World) (h : At w ap ps) (hn : ps.length ≤ 1000) (hp : ∀ p ∈ ps, At w p.a p.l ∧ p.l.length ≤ 1000000) :
    Calls Tryz.prog 123 #[.slice ap ps.length cp] w fun e w' => e = .returned (.int .i64 (firstS ps)) ∧ Below w.heap.size w w' := by
  obtain ⟨R, hR⟩ : ∃ R, R = firstS ps := ⟨_, rfl⟩
  rw [← hR]
  have HR := hide hR
  have HP := hide hp
  clear hR hp
  go_enter Tryz.func123, Tryz.ntmps123
  go_wp2
  go_loopw [3, 12] (fun al i wr => ∃ (k : Nat) (ao : Option Addr) (co : Nat) (hs : List Hd), i = .int .i64 k ∧ k ≤ ps.length ∧ al = .slice ao k co ∧ Hid (hs.length = k) ∧ Own wr w.heap.size 240 ao co hs ∧ Hid (LooksAt wr ao hs (ps.take k)) ∧ Below w.heap.size w wr) (fun _ i _ => ps.length - (intOf i).toNat)
  case atStart => exact ⟨0, none, 0, [], rfl, by omega, rfl, rfl, Own.none _ _ _, hide (LooksAt.nil _), Below.refl _ _⟩
  case round =>
    obtain ⟨k, ao, co, hs, rfl, hk, rfl, hhs, hown, hla, hbr⟩ := hrel
    have hzr := hbr.size
    by_cases hlt : k < ps.length
    · obtain ⟨b1, off1, x, rfl, hx, x0, x1⟩ := h.getPr hbr hlt
      have HT := hide (take_snoc' hx.out)
      have hown0 : Own (wr.alloc (.cells #[.int .i64 x.regs, .slice x.a x.l.length x.c] 200)) w.heap.size 240 ao co hs := hown.alloc _
      have hb0 : Below w.heap.size w (wr.alloc (.cells #[.int .i64 x.regs, .slice x.a x.l.length x.c] 200)) := hbr.alloc hzr _
      have hla0 : Hid (LooksAt (wr.alloc (.cells #[.int .i64 x.regs, .slice x.a x.l.length x.c] 200)) ao hs (ps.take k)) := hide (hla.out.belowN (Below.alloc (Below.refl _ _) (Nat.le_refl _) _))
      clear hx
      go_wp2_with (first
        | (go_at_call 156; ((with_reducible refine (looks_calls _ _ _).mono ?_); rintro e w1 ⟨g, rfl, hg, hblk, hb1⟩; have hown1 := hown0.belowN hb1; have hz1 := Nat.le_trans hb0.size hb1.size; have hla1 := hide (hla0.out.belowN hb1); have HBLK := hide hblk; clear hblk))
        | (at_builtin; refine wpList_push tyLooks hown1 (⟨some ⟨g, 0, none⟩, 4, 4⟩ : Hd) rfl rfl rfl rfl rfl rfl hhs.out.symm hz1 (by omega) ?_; intro a3 c3 w3 hown3 hg3 hm3))
      have hb2 := hb0.trans (hb1.mono hb0.size)
      go_roundw
      case rel =>
        refine ⟨k + 1, a3, c3, hs ++ [⟨some ⟨g, 0, none⟩, 4, 4⟩], by go_num, by omega, rfl, by show List.length _ = _; rw [List.length_append, hhs.out]; rfl, hown3, ?_, below_push hb2 hown1 hg3 hz1⟩
        show LooksAt _ _ _ _
        rw [← HT.out]
        exact hla1.out.push HBLK.out (fun e => by have := (hown0.blk g e).2; omega) hg3 hm3
      case measure => simp [intOf]; omega
    · obtain rfl : k = ps.length := by omega
      rw [List.take_length] at hla
      have hat := hown.at_
      clear hk hlt
      rename World => W1
      go_wp2
      go_loopw [22] (fun i w2 => ∃ k : Nat, i = .int .i64 k ∧ k ≤ 4 ∧ Hid (R = firstL ps ([0, 1, 2, 3].drop k)) ∧ Below W1.heap.size W1 w2) (fun i _ => 4 - (intOf i).toNat)
      case atStart => exact ⟨0, rfl, by omega, HR.out, Below.refl _ _⟩
      case round =>
        obtain ⟨k, rfl, hk, hRk, hb2⟩ := hrel
        have hz2 := hb2.size
        have hlp : ps.length ≤ 1000 := hn
        by_cases hlt : k < 4
        · have dk : decide ((k : Int) < 4) = true := by simp; omega
          go_wp2
          go_loopw [27] (fun i w3 => ∃ j : Nat, i = .int .i64 j ∧ j ≤ ps.length ∧ Hid (R = if rowE k (ps.drop j) ≠ 0 then rowE k (ps.drop j) else firstL ps ([0, 1, 2, 3].drop (k + 1))) ∧ Below W1.heap.size W1 w3) (fun i _ => ps.length - (intOf i).toNat)
          case atStart =>
            refine ⟨0, rfl, by omega, ?_, hb2⟩
            have h4 : k = 0 ∨ k = 1 ∨ k = 2 ∨ k = 3 := by omega
            show R = _
            rw [hRk.out]
            rcases h4 with rfl | rfl | rfl | rfl <;> rfl
          case round =>
            obtain ⟨j, rfl, hj, hRj, hb3⟩ := hrel
            have hz3 := hb3.size
            by_cases hjlt : j < ps.length
            · obtain ⟨b1, off1, hd, rfl, hhd, x0⟩ := hat.getHd hb3 (show j < hs.length by rw [hhs.out]; exact hjlt)
              have hpj := List.getElem?_eq_getElem hjlt
              obtain ⟨p, hp⟩ : ∃ p, p = ps[j] := ⟨_, rfl⟩
              rw [← hp] at hpj
              obtain ⟨g, rfl, hblk, _⟩ := hla.out.2 j hd p hhd.out hpj
              have hblk3 := hblk.belowN hb3
              obtain ⟨hpa, hpl⟩ := HP.out p (List.mem_of_getElem? hpj)
              have hpa3 := hpa.belowN (hbr.trans (hb3.mono hzr))
              have hd := drop_at hpj
              have hRj' := hRj.out
              rw [hd] at hRj'
              change R = (if (if errI k p ≠ 0 then errI k p else rowE k (ps.drop (j + 1))) ≠ 0 then (if errI k p ≠ 0 then errI k p else rowE k (ps.drop (j + 1))) else firstL ps ([0, 1, 2, 3].drop (k + 1))) at hRj'
              have HRJ := hide hRj'
              obtain ⟨E, hE⟩ : ∃ E, E = errI k p := ⟨_, rfl⟩
              have HE := hide hE
              have c0 : Hid (_ = some (lookV p.regs p.sl 0)) := hide (hblk3.cell_ (i := 0) (v := lookV p.regs p.sl 0) rfl)
              have c1 : Hid (_ = some (lookV p.regs p.sl 1)) := hide (hblk3.cell_ (i := 1) (v := lookV p.regs p.sl 1) rfl)
              have c2 : Hid (_ = some (lookV p.regs p.sl 2)) := hide (hblk3.cell_ (i := 2) (v := lookV p.regs p.sl 2) rfl)
              have c3 : Hid (_ = some (lookV p.regs p.sl 3)) := hide (hblk3.cell_ (i := 3) (v := lookV p.regs p.sl 3) rfl)
              clear hpj hp hhd hblk hblk3 hd hRj' hE hRj hRk
              have h4 : k = 0 ∨ k = 1 ∨ k = 2 ∨ k = 3 := by omega
              by_cases hE0 : E = 0
              ·
                rcases h4 with hk0 | hk0 | hk0 | hk0
                · have f0 : wr.cell? ⟨g, k, none⟩ = some (.func (.func 182) #[.agg #[.int .i64 p.regs, .slice p.a p.l.length p.c]] #[]) := by rw [hk0]; exact c0.out
                  have HF : Hid (Calls Tryz.prog 182 #[.agg #[.int .i64 p.regs, .slice p.a p.l.length p.c]] wr fun e w' => e = .returned (.int .i64 E) ∧ Below wr.heap.size wr w') := hide (by rw [HE.out, hk0]; exact form_calls p.regs p.a p.c p.l _ hpa3 hpl)
                  clear hk0
                  obtain rfl := hE0
                  go_wp2_with (go_at_call 182; ((with_reducible refine (HF.out).mono ?_); rintro e w4 ⟨rfl, hb4⟩))
                  go_roundw
                  case rel => exact ⟨j + 1, by go_num, by omega, hide (by rw [HRJ.out, ← HE.out]; simp), hb3.trans (hb4.mono hz3)⟩
                  case measure => simp [intOf]; omega
                · have f0 : wr.cell? ⟨g, k, none⟩ = some (.func (.func 183) #[.agg #[.int .i64 p.regs, .slice p.a p.l.length p.c]] #[]) := by rw [hk0]; exact c1.out
                  have HF : Hid (Calls Tryz.prog 183 #[.agg #[.int .i64 p.regs, .slice p.a p.l.length p.c]] wr fun e w' => e = .returned (.int .i64 E) ∧ Below wr.heap.size wr w') := hide (by rw [HE.out, hk0]; exact registers_calls p.regs p.a p.c p.l _ hpa3 hpl)
                  clear hk0
                  obtain rfl := hE0
                  go_wp2_with (go_at_call 183; ((with_reducible refine (HF.out).mono ?_); rintro e w4 ⟨rfl, hb4⟩))
                  go_roundw
                  case rel => exact ⟨j + 1, by go_num, by omega, hide (by rw [HRJ.out, ← HE.out]; simp), hb3.trans (hb4.mono hz3)⟩
                  case measure => simp [intOf]; omega
                · have f0 : wr.cell? ⟨g, k, none⟩ = some (.func (.func 184) #[.agg #[.int .i64 p.regs, .slice p.a p.l.length p.c]] #[]) := by rw [hk0]; exact c2.out
                  have HF : Hid (Calls Tryz.prog 184 #[.agg #[.int .i64 p.regs, .slice p.a p.l.length p.c]] wr fun e w' => e = .returned (.int .i64 E) ∧ Below wr.heap.size wr w') := hide (by rw [HE.out, hk0]; exact depth_calls p.regs p.a p.c p.l _ hpa3 hpl)
                  clear hk0
                  obtain rfl := hE0
                  go_wp2_with (go_at_call 184; ((with_reducible refine (HF.out).mono ?_); rintro e w4 ⟨rfl, hb4⟩))
                  go_roundw
                  case rel => exact ⟨j + 1, by go_num, by omega, hide (by rw [HRJ.out, ← HE.out]; simp), hb3.trans (hb4.mono hz3)⟩
                  case measure => simp [intOf]; omega
                · have f0 : wr.cell? ⟨g, k, none⟩ = some (.func (.func 185) #[.agg #[.int .i64 p.regs, .slice p.a p.l.length p.c]] #[]) := by rw [hk0]; exact c3.out
                  have HF : Hid (Calls Tryz.prog 185 #[.agg #[.int .i64 p.regs, .slice p.a p.l.length p.c]] wr fun e w' => e = .returned (.int .i64 E) ∧ Below wr.heap.size wr w') := hide (by rw [HE.out, hk0]; exact cwrites_calls p.regs p.a p.c p.l _ hpa3 hpl)
                  clear hk0
                  obtain rfl := hE0
                  go_wp2_with (go_at_call 185; ((with_reducible refine (HF.out).mono ?_); rintro e w4 ⟨rfl, hb4⟩))
                  go_roundw
                  case rel => exact ⟨j + 1, by go_num, by omega, hide (by rw [HRJ.out, ← HE.out]; simp), hb3.trans (hb4.mono hz3)⟩
                  case measure => simp [intOf]; omega
              ·
                rcases h4 with hk0 | hk0 | hk0 | hk0
                · have f0 : wr.cell? ⟨g, k, none⟩ = some (.func (.func 182) #[.agg #[.int .i64 p.regs, .slice p.a p.l.length p.c]] #[]) := by rw [hk0]; exact c0.out
                  have HF : Hid (Calls Tryz.prog 182 #[.agg #[.int .i64 p.regs, .slice p.a p.l.length p.c]] wr fun e w' => e = .returned (.int .i64 E) ∧ Below wr.heap.size wr w') := hide (by rw [HE.out, hk0]; exact form_calls p.regs p.a p.c p.l _ hpa3 hpl)
                  clear hk0
                  have hE1 : (E == 0) = false := by simpa using hE0
                  have hE2 : (E != 0) = true := by simpa using hE0
                  have HE0 := hide hE0
                  clear hE0
                  go_wp2_with (go_at_call 182; ((with_reducible refine (HF.out).mono ?_); rintro e w4 ⟨rfl, hb4⟩))
                  go_ret
                  exact ⟨by rw [HRJ.out, ← HE.out, if_pos HE0.out, if_pos HE0.out] <;> rfl, hbr.trans ((hb3.trans (hb4.mono hz3)).mono hzr)⟩
                · have f0 : wr.cell? ⟨g, k, none⟩ = some (.func (.func 183) #[.agg #[.int .i64 p.regs, .slice p.a p.l.length p.c]] #[]) := by rw [hk0]; exact c1.out
                  have HF : Hid (Calls Tryz.prog 183 #[.agg #[.int .i64 p.regs, .slice p.a p.l.length p.c]] wr fun e w' => e = .returned (.int .i64 E) ∧ Below wr.heap.size wr w') := hide (by rw [HE.out, hk0]; exact registers_calls p.regs p.a p.c p.l _ hpa3 hpl)
                  clear hk0
                  have hE1 : (E == 0) = false := by simpa using hE0
                  have hE2 : (E != 0) = true := by simpa using hE0
                  have HE0 := hide hE0
                  clear hE0
                  go_wp2_with (go_at_call 183; ((with_reducible refine (HF.out).mono ?_); rintro e w4 ⟨rfl, hb4⟩))
                  go_ret
                  exact ⟨by rw [HRJ.out, ← HE.out, if_pos HE0.out, if_pos HE0.out] <;> rfl, hbr.trans ((hb3.trans (hb4.mono hz3)).mono hzr)⟩
                · have f0 : wr.cell? ⟨g, k, none⟩ = some (.func (.func 184) #[.agg #[.int .i64 p.regs, .slice p.a p.l.length p.c]] #[]) := by rw [hk0]; exact c2.out
                  have HF : Hid (Calls Tryz.prog 184 #[.agg #[.int .i64 p.regs, .slice p.a p.l.length p.c]] wr fun e w' => e = .returned (.int .i64 E) ∧ Below wr.heap.size wr w') := hide (by rw [HE.out, hk0]; exact depth_calls p.regs p.a p.c p.l _ hpa3 hpl)
                  clear hk0
                  have hE1 : (E == 0) = false := by simpa using hE0
                  have hE2 : (E != 0) = true := by simpa using hE0
                  have HE0 := hide hE0
                  clear hE0
                  go_wp2_with (go_at_call 184; ((with_reducible refine (HF.out).mono ?_); rintro e w4 ⟨rfl, hb4⟩))
                  go_ret
                  exact ⟨by rw [HRJ.out, ← HE.out, if_pos HE0.out, if_pos HE0.out] <;> rfl, hbr.trans ((hb3.trans (hb4.mono hz3)).mono hzr)⟩
                · have f0 : wr.cell? ⟨g, k, none⟩ = some (.func (.func 185) #[.agg #[.int .i64 p.regs, .slice p.a p.l.length p.c]] #[]) := by rw [hk0]; exact c3.out
                  have HF : Hid (Calls Tryz.prog 185 #[.agg #[.int .i64 p.regs, .slice p.a p.l.length p.c]] wr fun e w' => e = .returned (.int .i64 E) ∧ Below wr.heap.size wr w') := hide (by rw [HE.out, hk0]; exact cwrites_calls p.regs p.a p.c p.l _ hpa3 hpl)
                  clear hk0
                  have hE1 : (E == 0) = false := by simpa using hE0
                  have hE2 : (E != 0) = true := by simpa using hE0
                  have HE0 := hide hE0
                  clear hE0
                  go_wp2_with (go_at_call 185; ((with_reducible refine (HF.out).mono ?_); rintro e w4 ⟨rfl, hb4⟩))
                  go_ret
                  exact ⟨by rw [HRJ.out, ← HE.out, if_pos HE0.out, if_pos HE0.out] <;> rfl, hbr.trans ((hb3.trans (hb4.mono hz3)).mono hzr)⟩
            · obtain rfl : j = ps.length := by omega
              go_wp2
              go_roundw
              case rel =>
                refine ⟨k + 1, by go_num, by omega, ?_, hb3⟩
                show R = _
                rw [hRj.out, List.drop_eq_nil_of_le (Nat.le_refl _)]
                simp [rowE]
              case measure => simp [intOf]; omega
        · obtain rfl : k = 4 := by omega
          go_wp2
          go_ret
          exact ⟨by rw [hRk.out] <;> rfl, hbr.trans (hb2.mono hzr)⟩
end Go.Proofs.YtcamcnahkdiefaaGreat

/- Chapter 10: Program. -/
namespace Go.Proofs.YtcamcnahkdiefaaGreat
set_option linter.unusedVariables false
set_option linter.unusedSimpArgs false
open Go.RowKit

theorem rowE_one (i : Nat) (p : PrD) : rowE i [p] = errI i p := by
  unfold rowE rowE
  by_cases h : errI i p = 0
  · rw [if_neg (by simpa using h), h]
  · rw [if_pos h]
theorem firstS_one' (p : PrD) : firstS [p] = if errI 0 p ≠ 0 then errI 0 p else if errI 1 p ≠ 0 then errI 1 p else if errI 2 p ≠ 0 then errI 2 p else if errI 3 p ≠ 0 then errI 3 p else 0 := by
  simp only [firstS, firstL, rowE_one]
theorem firstS_one (p : PrD) : firstS [p] = checkS p.regs p.l := by
  rw [firstS_one']
  unfold checkS
  by_cases h1 : formB p.l = true
  · have hw : well p.l = true := by unfold formB at h1; simp only [Bool.and_eq_true] at h1; exact h1.1.2
    have hd : (deepS p.l).1 = (deepL p.l : Int) := by unfold deepS; rw [if_pos hw]
    have hs : sizeE p.l = if (measL p.l).isSome = true then 0 else 9 := by unfold sizeE; rw [if_pos hw]
    have e0 : errI 0 p = 0 := by show (if formB p.l = true then (0 : Int) else 6) = 0; rw [if_pos h1]
    rw [e0, if_pos h1, if_neg (by simp)]
    by_cases h2 : regsB p.regs p.l = true
    · have e1 : errI 1 p = 0 := by show (if regsB p.regs p.l = true then (0 : Int) else 7) = 0; rw [if_pos h2]
      rw [e1, if_pos h2, if_neg (by simp)]
      by_cases h3 : deepL p.l ≤ 8
      · have e2 : errI 2 p = 0 := by show (if (deepS p.l).1 ≤ 8 then (0 : Int) else 8) = 0; rw [if_pos (by omega)]
        have e3 : errI 3 p = if (measL p.l).isSome = true then 0 else 9 := hs
        rw [e2, if_pos h3, if_neg (by simp), e3]
        split <;> simp
      · have e2 : errI 2 p = 8 := by show (if (deepS p.l).1 ≤ 8 then (0 : Int) else 8) = 8; rw [if_neg (by omega)]
        rw [e2, if_neg h3]
        simp
    · have e1 : errI 1 p = 7 := by show (if regsB p.regs p.l = true then (0 : Int) else 7) = 7; rw [if_neg h2]
      rw [e1, if_neg h2]
      simp
  · have e0 : errI 0 p = 6 := by show (if formB p.l = true then (0 : Int) else 6) = 6; rw [if_neg h1]
    rw [e0, if_neg h1]
    simp
theorem Prog_calls (regs : Int) (a : Option Addr) (c : Nat) (l : List OpD) (w : World) (h : At w a l) (hl : l.length ≤ 1000000) :
    Calls Tryz.prog 95 #[.agg #[.int .i64 regs, .slice a l.length c]] w fun e w' => e = .returned (.int .i64 (checkS regs l)) ∧ Below w.heap.size w w' := by
  have hb : Below w.heap.size w ((w.alloc (.cells #[.int .i64 regs, .slice a l.length c] 24)).alloc (.cells #[.int .i64 regs, .slice a l.length c] 200)) := Below.alloc (Below.alloc (Below.refl _ _) (Nat.le_refl _) _) (by simp) _
  have hat : At ((w.alloc (.cells #[.int .i64 regs, .slice a l.length c] 24)).alloc (.cells #[.int .i64 regs, .slice a l.length c] 200)) (some ⟨w.heap.size + 1, 0, none⟩) [(⟨regs, a, c, l⟩ : PrD)] :=
    At.ofBlk (g := w.heap.size + 1) (T := 200) (cs := #[.int .i64 regs, .slice a l.length c]) (by simpa using Blk.new (w.alloc (.cells #[.int .i64 regs, .slice a l.length c] 24)) 200 #[.int .i64 regs, .slice a l.length c]) ([⟨regs, a, c, l⟩] : List PrD) rfl
  have HF := hide (first_calls (some ⟨w.heap.size + 1, 0, none⟩) 1 [⟨regs, a, c, l⟩] _ hat (by simp) (fun p hp => (by simp at hp; subst hp; exact ⟨h.belowN hb, hl⟩ : At _ p.a p.l ∧ p.l.length ≤ 1000000)))
  rw [firstS_one] at HF
  simp only [List.length_singleton] at HF
  generalize checkS regs l = V at *
  go_enter Tryz.func95, Tryz.ntmps95
  go_wp2_with (go_at_call 123; ((with_reducible refine (HF.out).mono ?_); rintro e w1 ⟨rfl, hb1⟩))
  go_ret
  exact ⟨rfl, hb.trans (hb1.mono hb.size)⟩
end Go.Proofs.YtcamcnahkdiefaaGreat

/- Several texts of mine in one file: R10, R10b. -/
/- Chapter 10, the document's answers: whether a program may be. -/
namespace Go.Proofs.YtcamcnahkdiefaaGreat
set_option linter.unusedVariables false
set_option linter.unusedSimpArgs false
open Go.RowKit

theorem below_new (w : World) (o : Obj) : Below w.heap.size w (w.alloc o) := Below.alloc (Below.refl _ _) (Nat.le_refl _) _
end Go.Proofs.YtcamcnahkdiefaaGreat

/- Chapter 10, the document's answers: the looks, and Program. -/
namespace Go.Proofs.YtcamcnahkdiefaaGreat
set_option linter.unusedVariables false
set_option linter.unusedSimpArgs false
open Go.RowKit

end Go.Proofs.YtcamcnahkdiefaaGreat

/- Several texts of mine in one file: Cd, F12a, F12b, F12c. -/
/- Plain facts on how code is laid, operation by operation. No program is named here. -/
namespace Go.Proofs.YtcamcnahkdiefaaGreat
set_option linter.unusedVariables false
set_option linter.unusedSimpArgs false
open Go.RowKit

instance : Flat (OpD × Int) := ⟨6, fun x => [.int .i64 x.1.kind, .int .i64 x.1.d, .int .i64 x.1.a, .int .i64 x.1.b, .int .u64 (x.1.v.toNat : Int), .int .i64 x.2], fun _ => rfl,
  fun x u hu => by simp at hu; rcases hu with rfl | rfl | rfl | rfl | rfl | rfl <;> rfl, by decide⟩

structure Cf where
  bg : Nat
  op : OpD
  fin : OpD
  r : Fo
def opn (st : List Cf) : List Int := (st.map fun x => (x.bg : Int)).reverse
def CdK (l : List OpD) (m : List Int) (R : List (OpD × Int)) : Nat → List (OpD × Int) → List Cf → Prop
  | j, X, [] => j = l.length ∧ R = X
  | j, X, s :: st => l[j]? = some s.fin ∧ s.fin.kind = 0 ∧ X[s.bg]? = some (s.op, 0) ∧ Stands l m (j + 1) s.r ∧
      CdK l m R (j + 1 + s.r.size) (X.set s.bg (s.op, ((X.length + 1 : Nat) : Int)) ++ (s.fin, ((s.bg + 1 : Nat) : Int)) :: s.r.bare.code (X.length + 1)) st
def CdOk (l : List OpD) (m : List Int) (R : List (OpD × Int)) (i : Nat) (out : List (OpD × Int)) (g : Fo) (st : List Cf) : Prop :=
  Stands l m i g ∧ CdK l m R (i + g.size) (out ++ g.bare.code out.length) st
section
variable {l : List OpD} {m : List Int} {R out : List (OpD × Int)} {i : Nat} {st : List Cf}
theorem CdOk.start {f : Fo} (hf : f.ok) : CdOk f.flat (matchL f.flat) (f.bare.code 0) 0 [] f [] :=
  ⟨Stands.whole hf, by simp [Fo.size], by simp⟩
theorem CdOk.done (h : CdOk l m R i out .nil []) : i = l.length ∧ R = out := by
  obtain ⟨_, h1, h2⟩ := h
  exact ⟨by simpa [Fo.size, Fo.flat] using h1, by simpa [Fo.bare, Fo.code] using h2⟩
theorem CdOk.leaf {op : OpD} {r : Fo} (h : CdOk l m R i out (.leaf op r) st) : l[i]? = some op ∧ 1 ≤ op.kind ∧ op.kind ≤ 6 ∧ CdOk l m R (i + 1) (out ++ [(op, 0)]) r st := by
  obtain ⟨hs, hk⟩ := h
  obtain ⟨e1, k1, k2, e2, hr⟩ := hs.leaf
  refine ⟨e1, k1, k2, hr, ?_⟩
  have e : i + 1 + r.size = i + (Fo.leaf op r).size := by rw [Fo.size_leaf]; omega
  rw [e]
  simpa [Fo.bare, Fo.code] using hk
theorem CdOk.skip {op fin : OpD} {b r : Fo} (h : CdOk l m R i out (.rep op b fin r) st) (h0 : b.wr * op.v.toNat = 0) : CdOk l m R (i + b.size + 2) out r st := by
  obtain ⟨hs, hk⟩ := h
  refine ⟨hs.rep.2.2.2.2.2.2.2, ?_⟩
  have e : i + b.size + 2 + r.size = i + (Fo.rep op b fin r).size := by rw [Fo.size_rep]; omega
  have e2 : (Fo.rep op b fin r).bare = r.bare := by rw [Fo.bare, if_pos h0]
  rw [e]
  rwa [e2] at hk
theorem CdOk.open_ {op fin : OpD} {b r : Fo} (h : CdOk l m R i out (.rep op b fin r) st) (h0 : b.wr * op.v.toNat ≠ 0) : CdOk l m R (i + 1) (out ++ [(op, 0)]) b (⟨out.length, op, fin, r⟩ :: st) := by
  obtain ⟨hs, hk⟩ := h
  obtain ⟨e1, k7, e3, e4, k0, e6, hb, hr⟩ := hs.rep
  have e2 : (Fo.rep op b fin r).bare = .rep op b.bare fin r.bare := by rw [Fo.bare, if_neg h0]
  rw [e2] at hk
  have hlen : (out ++ [(op, (0 : Int))]).length = out.length + 1 := by simp
  refine ⟨hb, by rw [show i + 1 + b.size = i + b.size + 1 by omega]; exact e4, k0, ?_, by rw [show i + 1 + b.size + 1 = i + b.size + 2 by omega]; exact hr, ?_⟩
  · simp
  · have e : i + 1 + b.size + 1 + r.size = i + (Fo.rep op b fin r).size := by rw [Fo.size_rep]; omega
    simp only
    rw [e]
    have hx : (out ++ [(op, (0 : Int))] ++ b.bare.code (out.length + 1)).length = out.length + 1 + b.bare.size := by simp [Fo.code_length]; omega
    rw [hlen, hx]
    have hset : (out ++ [(op, (0 : Int))] ++ b.bare.code (out.length + 1)).set out.length (op, ((out.length + 1 + b.bare.size + 1 : Nat) : Int)) = out ++ (op, ((out.length + 1 + b.bare.size + 1 : Nat) : Int)) :: b.bare.code (out.length + 1) := by simp
    rw [hset]
    have e5 : out.length + 1 + b.bare.size + 1 = out.length + b.bare.size + 2 := by omega
    rw [e5]
    simpa [Fo.code] using hk
theorem CdOk.end_ {s : Cf} (h : CdOk l m R i out .nil (s :: st)) : l[i]? = some s.fin ∧ s.fin.kind = 0 ∧ out[s.bg]? = some (s.op, 0) ∧ CdOk l m R (i + 1) (out.set s.bg (s.op, ((out.length + 1 : Nat) : Int)) ++ [(s.fin, ((s.bg + 1 : Nat) : Int))]) s.r st := by
  obtain ⟨hs, h1, h2, h3, h4, h5⟩ := h
  simp only [Fo.size, Fo.flat, Fo.bare, Fo.code, List.length_nil, Nat.add_zero, List.append_nil] at h1 h3 h4 h5
  refine ⟨h1, h2, h3, h4, ?_⟩
  have e : (out.set s.bg (s.op, ((out.length + 1 : Nat) : Int)) ++ [(s.fin, ((s.bg + 1 : Nat) : Int))]).length = out.length + 1 := by simp
  rw [e]
  simpa [Fo.size] using h5
theorem CdOk.last {g : Fo} (h : CdOk l m R i out g st) : i ≤ l.length ∧ (i = l.length → g = .nil ∧ st = []) := by
  have hl := h.1.lt.1
  refine ⟨by omega, fun e => ?_⟩
  cases g with
  | leaf op r => rw [Fo.size_leaf] at hl; omega
  | rep op b fin r => rw [Fo.size_rep] at hl; omega
  | nil =>
    refine ⟨rfl, ?_⟩
    cases st with
    | nil => rfl
    | cons s st => have := (List.getElem?_eq_some_iff.1 h.end_.1).1; omega
end
theorem opn_cons (s : Cf) (st : List Cf) : opn (s :: st) = opn st ++ [(s.bg : Int)] := by simp [opn]
theorem opn_length (st : List Cf) : (opn st).length = st.length := by simp [opn]
end Go.Proofs.YtcamcnahkdiefaaGreat

/- Chapter 12: Code. -/
namespace Go.Proofs.YtcamcnahkdiefaaGreat
set_option linter.unusedVariables false
set_option linter.unusedSimpArgs false
open Go.RowKit

theorem below_new12 (w : World) (o : Obj) : Below w.heap.size w (w.alloc o) := Below.alloc (Below.refl _ _) (Nat.le_refl _) _
theorem tyIns : Ty Tryz.prog 100 176 (OpD × Int) := Ty.of (z := .agg #[.int .i64 0, .int .i64 0, .int .i64 0, .int .i64 0, .int .u64 0, .int .i64 0]) (size := 6) (bytes := 48) Tryz.underlying100 (by kernel_rfl) rfl (by decide) rfl
theorem Own.far_E {α β : Type} [Flat α] [Flat β] {w : World} {B B' : Nat} {E E' : TypeId} {a a' : Option Addr} {c c' : Nat} {l : List α} {l' : List β} (h : Own w B E a c l) (h' : Own w B' E' a' c' l') (hE : E ≠ E') : a.map (·.block) = Option.none ∨ a.map (·.block) ≠ a'.map (·.block) := by
  rcases h.form with ⟨rfl, _⟩ | ⟨g, rfl, _⟩
  · exact .inl rfl
  · rcases h'.form with ⟨rfl, _⟩ | ⟨g', rfl, _⟩
    · exact .inr (by simp)
    · exact .inr (by have := h.ne_E h' hE; simpa using this)
theorem sizes_at {f : Fo} (hf : f.ok) {i : Nat} {op fin : OpD} {b r : Fo} (h : Stands f.flat (matchL f.flat) i (.rep op b fin r)) : f.sizes[i]? = some ((b.wr * op.v.toNat : Nat) : Int) := by
  obtain ⟨e1, k7, e3, e4, k0, e6, hb, hr⟩ := h.rep
  rcases place9 hf e1 with ⟨h7, b', fin', r', hs, g1, g2, g3⟩ | ⟨h0, _⟩ | ⟨h1, h2, _⟩
  · obtain ⟨_, rfl⟩ := h.one hs
    exact g1
  · omega
  · omega
noncomputable def codeS (regs : Int) (l : List OpD) : List (OpD × Int) := if checkS regs l = 0 then (fo l).bare.code 0 else []
theorem codeS_good {regs : Int} {f : Fo} (g : Good regs f) : codeS regs f.flat = f.bare.code 0 := by unfold codeS; rw [if_pos g.check, fo_flat g.ok]
theorem codeS_bad {regs : Int} {l : List OpD} (h : checkS regs l ≠ 0) : codeS regs l = [] := by unfold codeS; rw [if_neg h]
def CodePost (regs : Int) (l : List OpD) (w : World) (e : Ending) (w' : World) : Prop :=
  ∃ a c, e = .returned (.tuple #[.slice a (codeS regs l).length c, .int .i64 (checkS regs l)]) ∧ Own w' w.heap.size 176 a c (codeS regs l) ∧ Below w.heap.size w w'
theorem cd_bad (regs : Int) (a : Option Addr) (c : Nat) (l : List OpD) (w : World) (h : At w a l) (hl : l.length ≤ 1000000) (hc : checkS regs l ≠ 0) :
    Calls Tryz.prog 47 #[.agg #[.int .i64 regs, .slice a l.length c]] w (CodePost regs l w) := by
  have h1 := h.belowN (below_new12 w (.cells #[.int .i64 regs, .slice a l.length c] 24))
  have hb0 := below_new12 w (.cells #[.int .i64 regs, .slice a l.length c] 24)
  have HP := hide (Prog_calls regs a c l _ h1 hl)
  have HC := hide (codeS_bad hc)
  obtain ⟨E, hE⟩ : ∃ E, E = checkS regs l := ⟨_, rfl⟩
  rw [← hE] at HP hc
  have HE := hide hE
  have e1 : (E == 0) = false := by simpa using hc
  have e2 : (E != 0) = true := by simpa using hc
  clear hE hc
  go_enter Tryz.func47, Tryz.ntmps47
  go_wp2_with (go_at_call 95; ((with_reducible refine (HP.out).mono ?_); rintro e w1 ⟨rfl, hb1⟩))
  go_ret2
  unfold CodePost
  rw [HC.out, ← HE.out]
  exact ⟨none, 0, rfl, Own.none _ _ _, hb0.trans (hb1.mono hb0.size)⟩
theorem getOp_eq {w wr : World} {a : Option Addr} {l : List OpD} (h : At w a l) (hb : Below w.heap.size w wr) {k : Nat} {x : OpD} (hk : l[k]? = some x) :
    ∃ b off, a = some ⟨b, off, none⟩ ∧ wr.cell? ⟨b, off + k * 5, none⟩ = some (.int .i64 x.kind) ∧ wr.cell? ⟨b, off + k * 5 + 1, none⟩ = some (.int .i64 x.d) ∧
      wr.cell? ⟨b, off + k * 5 + 2, none⟩ = some (.int .i64 x.a) ∧ wr.cell? ⟨b, off + k * 5 + 3, none⟩ = some (.int .i64 x.b) ∧ wr.cell? ⟨b, off + k * 5 + 4, none⟩ = some (.int .u64 (x.v.toNat : Int)) := by
  obtain ⟨b, off, y, e, hy, h0⟩ := h.getOp hb (List.getElem?_eq_some_iff.1 hk).1
  obtain rfl : x = y := by have := hk.symm.trans hy.out; simpa using this
  exact ⟨b, off, e, h0⟩
theorem getI_eq {w wr : World} {a : Option Addr} {l : List Int} (h : At w a l) (hb : Below w.heap.size w wr) {k : Nat} {x : Int} (hk : l[k]? = some x) :
    ∃ b off, a = some ⟨b, off, none⟩ ∧ wr.cell? ⟨b, off + k, none⟩ = some (.int .i64 x) := by
  obtain ⟨b, off, y, e, hy, h0⟩ := h.getI hb (List.getElem?_eq_some_iff.1 hk).1
  obtain rfl : x = y := by have := hk.symm.trans hy.out; simpa using this
  exact ⟨b, off, e, h0⟩

set_option maxRecDepth 100000 in
set_option maxHeartbeats 6400000 in
theorem cd_good (regs : Int) (a : Option Addr) (c : Nat) (f : Fo) (w : World) (h : At w a f.flat) (g : Good regs f) :
    Calls Tryz.prog 47 #[.agg #[.int .i64 regs, .slice a f.flat.length c]] w (CodePost regs f.flat w) := by
  have hl : f.flat.length ≤ 4096 := g.len
  have h1 := h.belowN (below_new12 w (.cells #[.int .i64 regs, .slice a f.flat.length c] 24))
  have hb0 := below_new12 w (.cells #[.int .i64 regs, .slice a f.flat.length c] 24)
  have hX := Blk.new w 24 #[.int .i64 regs, .slice a f.flat.length c]
  have HP := hide (Prog_calls regs a c f.flat _ h1 (by omega))
  have HM := hide (fun w' (g1 : At w' a f.flat) => MatchW a c f.flat w' g1 (by omega) (well_of_flat f g.ok))
  have HZ := hide (fun w' (g1 : At w' a f.flat) => SizeZ_calls a c f.flat w' g1 (by omega))
  obtain ⟨z1, z2, z3, z4⟩ := W9_ok g.ok ⟨g.may, g.few⟩
  rw [z1, z3, f.sizes_length] at HZ
  have HC := hide (codeS_good g)
  have HK := hide g.check
  have HG := hide g
  rw [g.check] at HP
  change Hid (∀ w', At w' a f.flat → Calls Tryz.prog 97 #[.slice a f.flat.length c] w' fun e w'' => ∃ a' c', e = .returned (.tuple #[.slice a' f.flat.length c', .int .i64 0]) ∧ Own w'' w'.heap.size 3 a' c' f.sizes ∧ Below w'.heap.size w' w'') at HZ
  clear z1 z2 z3 z4 g
  go_enter Tryz.func47, Tryz.ntmps47
  go_wp2_with (first
    | (go_at_call 95; ((with_reducible refine (HP.out).mono ?_); rintro e w1 ⟨rfl, hb1⟩; have hB1 := hb0.trans (hb1.mono hb0.size); obtain ⟨q0, q1, q2, q3⟩ := (hX.belowN hb1).c2))
    | (go_at_call 96; ((with_reducible refine (HM.out _ (h.belowN hB1)).mono ?_); rintro e w2 ⟨am, cm, rfl, hom, hb2⟩; have hB2 := hB1.trans (hb2.mono hB1.size); obtain ⟨q0', q1', q2', q3'⟩ := ((hX.belowN hb1).belowN hb2).c2))
    | (go_at_call 97; ((with_reducible refine (HZ.out _ (h.belowN hB2)).mono ?_); rintro e w3 ⟨az, cz, rfl, hoz, hb3⟩; have hB3 := hB2.trans (hb3.mono hB2.size); have hX3 := ((hX.belowN hb1).belowN hb2).belowN hb3)))
  have hm3 : At w3 am (matchL f.flat) := (hom.belowN hb3).at_
  have hz3 : At w3 az f.sizes := hoz.at_
  have hl3 : At w3 a f.flat := h.belowN hB3
  have hs3 := hB3.size
  have hxl := hX3.lt
  clear hom hoz hb1 hb2 hb3 hB1 hB2 q0 q1 q2 q3 q0' q1' q2' q3' h1 hX HP HM HZ
  go_loopw [9, 10, 11] (fun ov sv iv wr => ∃ (i : Nat) (ao as' : Option Addr) (co cs n s : Nat) (out : List (OpD × Int)) (gf : Fo) (st : List Cf), iv = .int .i64 i ∧ i ≤ f.flat.length ∧ ov = .slice ao n co ∧ sv = .slice as' s cs ∧ Hid (n = out.length) ∧ Hid (s = st.length) ∧ n ≤ i ∧ s ≤ i ∧
      Hid (CdOk f.flat (matchL f.flat) (f.bare.code 0) i out gf st) ∧ Own wr w3.heap.size 176 ao co out ∧ Own wr w3.heap.size 3 as' cs (opn st) ∧ Below w3.heap.size w3 wr) (fun _ _ iv _ => f.flat.length - (intOf iv).toNat)
  case atStart => exact ⟨0, none, none, 0, 0, 0, 0, [], f, [], rfl, by omega, rfl, rfl, rfl, rfl, by omega, by omega, hide (CdOk.start HG.out.ok), Own.none _ _ _, Own.none _ _ _, Below.refl _ _⟩
  case round =>
    obtain ⟨i, ao, as', co, cs, n, s, out, gf, st, rfl, hi, rfl, rfl, hn, hs, hni, hsi, hcd, hoo, hos, hbr⟩ := hrel
    have hzr := hbr.size
    obtain ⟨q0, q1, q2, q3⟩ := (hX3.belowN hbr).c2
    by_cases hlt : i < f.flat.length
    · cases gf with
      | nil =>
        cases st with
        | nil => exact absurd (hcd.out.done).1 (by omega)
        | cons s0 st =>
          obtain ⟨e1, ek, eo, hcd2⟩ := hcd.out.end_
          obtain ⟨b1, off1, rfl, x0, x1, x2, x3, x4⟩ := getOp_eq hl3 hbr e1
          have k7 : (s0.fin.kind == 7) = false := by simp; omega
          have k0 : (s0.fin.kind == 0) = true := by simp; omega
          have hone : out ≠ [] := by intro e; subst e; simp at eo
          have hsne : opn (s0 :: st) ≠ [] := by rw [opn_cons]; simp
          obtain ⟨go, rfl, hgo1, hgo2⟩ := hoo.some_ hone
          obtain ⟨gs, rfl, hgs1, hgs2⟩ := hos.some_ hsne
          obtain ⟨s', rfl⟩ : ∃ s', s = s' + 1 := ⟨s - 1, by have := hs.out; simp at this; omega⟩
          have hs' : s' = st.length := by have := hs.out; simp at this; omega
          have hlast : (opn (s0 :: st))[s']? = some (s0.bg : Int) := by rw [opn_cons, List.getElem?_append_right (by rw [opn_length]; omega), opn_length, hs', Nat.sub_self]; rfl
          have t0 : wr.cell? ⟨gs, s', none⟩ = some (.int .i64 (s0.bg : Int)) := by simpa [Flat.n] using hos.cellAt hlast (f := 0) rfl
          have hcap : s' + 1 ≤ cs := by have := hos.cap.1; rw [opn_length] at this; simp at this; omega
          have hbg : s0.bg < n := by rw [hn.out]; exact (List.getElem?_eq_some_iff.1 eo).1
          have tc : wr.cell? ⟨go, s0.bg * 6 + 5, none⟩ = some (.int .i64 0) := by simpa [Flat.n] using hoo.cellAt eo (f := 5) rfl
          have tf := hoo.frozen (s0.bg * 6 + 5)
          have hpop : Own wr w3.heap.size 3 (some ⟨gs, 0, none⟩) cs (opn st) := by have := hos.pop hsne; rwa [opn_cons, List.dropLast_concat] at this
          have hgn : go ≠ wr.heap.size := by omega
          have hgg : go ≠ gs := hoo.ne_E hos (by decide)
          have hnn : ((n : Int) + 1) = ((out.length + 1 : Nat) : Int) := by rw [hn.out]; rfl
          have hoo1 : Own ((wr.setCell ⟨go, s0.bg * 6 + 5, none⟩ (.int .i64 ((n : Int) + 1))).alloc (.cells #[.int .i64 s0.fin.kind, .int .i64 s0.fin.d, .int .i64 s0.fin.a, .int .i64 s0.fin.b, .int .u64 (s0.fin.v.toNat : Int)] 89)) w3.heap.size 176 (some ⟨go, 0, none⟩) co (out.set s0.bg (s0.op, ((out.length + 1 : Nat) : Int))) :=
            (hoo.setAt s0.bg 5 (s0.op, ((out.length + 1 : Nat) : Int)) (s0.op, 0) (.int .i64 ((n : Int) + 1)) eo (by decide) (by rw [hnn]; rfl)).alloc _
          have hps1 : Own ((wr.setCell ⟨go, s0.bg * 6 + 5, none⟩ (.int .i64 ((n : Int) + 1))).alloc (.cells #[.int .i64 s0.fin.kind, .int .i64 s0.fin.d, .int .i64 s0.fin.a, .int .i64 s0.fin.b, .int .u64 (s0.fin.v.toNat : Int)] 89)) w3.heap.size 3 (some ⟨gs, 0, none⟩) cs (opn st) := (hpop.far (by simpa using hgg.symm) _).alloc _
          have hb1 := (hbr.setCell (p := ⟨go, s0.bg * 6 + 5, none⟩) hgo1 (.int .i64 ((n : Int) + 1))).alloc (by simpa using hzr) (.cells #[.int .i64 s0.fin.kind, .int .i64 s0.fin.d, .int .i64 s0.fin.a, .int .i64 s0.fin.b, .int .u64 (s0.fin.v.toNat : Int)] 89)
          have HOL : Hid (n = (out.set s0.bg (s0.op, ((out.length + 1 : Nat) : Int))).length) := by show n = _; rw [List.length_set]; exact hn.out
          have hz1 := hb1.size
          have HCD := hide hcd2
          have HS' := hide hs'
          clear e1 ek eo hcd2 hlast hone hsne hnn hs'
          go_wp2_with (at_builtin; go_loud (refine wpList_push tyIns hoo1 (s0.fin, ((s0.bg + 1 : Nat) : Int)) rfl rfl rfl rfl rfl (by simp) HOL.out hz1 (by omega) ?_); intro a4 c4 w4 hown4 hg4 hm4)
          go_roundw
          case rel =>
            refine ⟨i + 1, a4, some ⟨gs, 0, none⟩, c4, cs, n + 1, s', _, s0.r, st, by go_num, by omega, rfl, rfl, ?_, HS'.out, by omega, by omega, HCD, hown4, hps1.grown hg4 (hps1.far_E hoo1 (by decide)), below_push hb1 hoo1 hg4 hz1⟩
            show n + 1 = _
            rw [List.length_append, ← HOL.out]
            rfl
          case measure => simp [intOf]; omega
      | leaf op r =>
        obtain ⟨e1, k1, k2, hcd2⟩ := hcd.out.leaf
        obtain ⟨b1, off1, rfl, x0, x1, x2, x3, x4⟩ := getOp_eq hl3 hbr e1
        have k7 : (op.kind == 7) = false := by simp; omega
        have k0 : (op.kind == 0) = false := by simp; omega
        have hoo1 : Own (wr.alloc (.cells #[.int .i64 op.kind, .int .i64 op.d, .int .i64 op.a, .int .i64 op.b, .int .u64 (op.v.toNat : Int)] 89)) w3.heap.size 176 ao co out := hoo.alloc _
        have HCD := hide hcd2
        clear e1 k1 k2 hcd2
        go_wp2_with (at_builtin; refine wpList_push tyIns hoo1 (op, (0 : Int)) rfl rfl rfl rfl rfl (by simp) hn.out (by simp; omega) (by omega) ?_; intro a4 c4 w4 hown4 hg4 hm4)
        go_roundw
        case rel =>
          refine ⟨i + 1, a4, as', c4, cs, n + 1, s, out ++ [(op, 0)], r, st, by go_num, by omega, rfl, rfl, by show n + 1 = _; rw [hn.out]; simp, hs, by omega, by omega, HCD, hown4, (hos.alloc _).grown hg4 ((hos.alloc _).far_E hoo1 (by decide)), below_push (hbr.alloc hzr _) hoo1 hg4 (by simp; omega)⟩
        case measure => simp [intOf]; omega
      | rep op b fin r =>
        have hst := hcd.out.1
        obtain ⟨e1, k7, e3, _⟩ := hst.rep
        have es := sizes_at HG.out.ok hst
        obtain ⟨b1, off1, rfl, x0, x1, x2, x3, x4⟩ := getOp_eq hl3 hbr e1
        obtain ⟨b2, off2, rfl, y0⟩ := getI_eq hz3 hbr es
        obtain ⟨b3, off3, rfl, m0⟩ := getI_eq hm3 hbr e3
        have k7b : (op.kind == 7) = true := by simp; omega
        have hyl := World.block_lt_of_cell? _ _ y0
        have hml := World.block_lt_of_cell? _ _ m0
        have k0 : (op.kind == 0) = false := by simp; omega
        have hle := hst.lt.1
        rw [Fo.size_rep] at hle
        have hle2 : i + b.size + 1 < f.flat.length := by omega
        obtain ⟨Z, hZ⟩ : ∃ Z : Nat, Z = i + b.size + 1 := ⟨_, rfl⟩
        rw [← hZ] at m0 hle2
        have HZ := hide hZ
        have hZi : i < Z := by omega
        by_cases hq : b.wr * op.v.toNat = 0
        · have hcd2 := hcd.out.skip hq
          rw [show i + b.size + 2 = Z + 1 by omega] at hcd2
          rw [hq] at y0
          have HCD := hide hcd2
          clear e1 k7 e3 es hst hle hZ hq hcd2
          go_wp2
          go_roundw
          case rel => exact ⟨Z + 1, ao, as', co, cs, n, s, out, r, st, by go_num, by omega, rfl, rfl, hn, hs, by omega, by omega, HCD, hoo.alloc _, hos.alloc _, hbr.alloc hzr _⟩
          case measure => simp [intOf]; omega
        · have hcd2 := hcd.out.open_ hq
          obtain ⟨q, hqq⟩ : ∃ q : Nat, q = b.wr * op.v.toNat := ⟨_, rfl⟩
          rw [← hqq] at y0 hq
          have hqb : ((q : Int) == 0) = false := by simpa using hq
          have HCD := hide hcd2
          have hoo1 : Own (wr.alloc (.cells #[.int .i64 op.kind, .int .i64 op.d, .int .i64 op.a, .int .i64 op.b, .int .u64 (op.v.toNat : Int)] 89)) w3.heap.size 176 ao co out := hoo.alloc _
          have hos1 : Own (wr.alloc (.cells #[.int .i64 op.kind, .int .i64 op.d, .int .i64 op.a, .int .i64 op.b, .int .u64 (op.v.toNat : Int)] 89)) w3.heap.size 3 as' cs (opn st) := hos.alloc _
          have hX1 := Blk.new wr 89 #[.int .i64 op.kind, .int .i64 op.d, .int .i64 op.a, .int .i64 op.b, .int .u64 (op.v.toNat : Int)]
          have hb1 := hbr.alloc hzr (.cells #[.int .i64 op.kind, .int .i64 op.d, .int .i64 op.a, .int .i64 op.b, .int .u64 (op.v.toNat : Int)] 89)
          have HOL : Hid (s = (opn st).length) := by show s = _; rw [opn_length]; exact hs.out
          clear e1 k7 e3 es hst hle hZ hqq hq hcd2
          go_wp2_with (first
            | (at_builtin; refine wpList_push tyI hos1 (n : Int) rfl rfl rfl rfl rfl (by simp) HOL.out (by simp; omega) (by omega) ?_; intro a4 c4 w4 hown4 hg4 hm4; have hoo2 := hoo1.grown hg4 (hoo1.far_E hos1 (by decide)); have hX2 := hX1.grown hg4 (by intro e; have := (hos.blk _ e.symm).2; omega); obtain ⟨v0, v1, v2, v3, v4, f0, f1, f2, f3, f4⟩ := hX2.c5; have hb2 := below_push hb1 hos1 hg4 (by simp; omega); have hz4 := hb2.size; clear hoo1 hX1)
            | (at_builtin; refine wpList_push tyIns hoo2 (op, (0 : Int)) rfl rfl rfl rfl rfl rfl hn.out hz4 (by omega) ?_; intro a5 c5 w5 hown5 hg5 hm5))
          go_roundw
          case rel =>
            refine ⟨i + 1, a5, a4, c5, c4, n + 1, s + 1, out ++ [(op, 0)], b, ⟨out.length, op, fin, r⟩ :: st, by go_num, by omega, rfl, rfl, by show n + 1 = _; rw [hn.out]; simp, by show s + 1 = _; rw [hs.out]; rfl, by omega, by omega, HCD, hown5, ?_, below_push hb2 hoo2 hg5 hz4⟩
            rw [opn_cons]
            have := hown4.grown hg5 (hown4.far_E hoo2 (by decide))
            rw [hn.out] at this
            exact this
          case measure => simp [intOf]; omega
    · obtain rfl : i = f.flat.length := by omega
      obtain ⟨rfl, rfl⟩ := hcd.out.last.2 rfl
      have HD := hide (hcd.out.done.2)
      go_wp2
      go_ret2
      unfold CodePost
      rw [HC.out, HK.out, HD.out]
      exact ⟨ao, co, by rw [hn.out]; rfl, hoo.mono hs3, hB3.trans (hbr.mono hs3)⟩
theorem Code_calls (regs : Int) (a : Option Addr) (c : Nat) (l : List OpD) (w : World) (h : At w a l) (hl : l.length ≤ 1000000) :
    Calls Tryz.prog 47 #[.agg #[.int .i64 regs, .slice a l.length c]] w (CodePost regs l w) := by
  by_cases hc : checkS regs l = 0
  · obtain ⟨f, rfl, g⟩ := good_of_check hc
    exact cd_good regs a c f w h g
  · exact cd_bad regs a c l w h hl hc
end Go.Proofs.YtcamcnahkdiefaaGreat

/- Chapter 12: the steps, as an iterator. -/
namespace Go.Proofs.YtcamcnahkdiefaaGreat
set_option linter.unusedVariables false
set_option linter.unusedSimpArgs false
open Go.RowKit Go.Shelf

theorem At.getIns {w wr : World} {a : Option Addr} {l : List (OpD × Int)} (h : At w a l) (hb : Below w.heap.size w wr) {k : Nat} {x : OpD × Int} (hk : l[k]? = some x) :
    ∃ b off, a = some ⟨b, off, none⟩ ∧ wr.cell? ⟨b, off + k * 6, none⟩ = some (.int .i64 x.1.kind) ∧ wr.cell? ⟨b, off + k * 6 + 1, none⟩ = some (.int .i64 x.1.d) ∧
      wr.cell? ⟨b, off + k * 6 + 2, none⟩ = some (.int .i64 x.1.a) ∧ wr.cell? ⟨b, off + k * 6 + 3, none⟩ = some (.int .i64 x.1.b) ∧ wr.cell? ⟨b, off + k * 6 + 4, none⟩ = some (.int .u64 (x.1.v.toNat : Int)) ∧
      wr.cell? ⟨b, off + k * 6 + 5, none⟩ = some (.int .i64 x.2) := by
  obtain ⟨b, off, y, e, hy, hc⟩ := (h.belowN hb).get (List.getElem?_eq_some_iff.1 hk).1
  obtain rfl : x = y := by have := hk.symm.trans hy.out; simpa using this
  exact ⟨b, off, e, hc 0 _ rfl, hc 1 _ rfl, hc 2 _ rfl, hc 3 _ rfl, hc 4 _ rfl, hc 5 _ rfl⟩

def StI (code : List (OpD × Int)) (steps : List Tk) (J : List OpD → List Nat → World → Prop) (F0 : List Nat) (W : World) (N : Nat) (lv av : Value) (wr : World) : Prop :=
  ∃ (pre rest : List Tk) (p : Nat) (st : List UInt64) (al : Option Addr) (cl k : Nat) (G : List Nat), rest.length = N ∧ av = .int .i64 p ∧ lv = .slice al k cl ∧ k = st.length ∧ p ≤ code.length ∧ k ≤ 8 ∧ Chn code (p, st) rest (code.length, []) ∧ steps = pre ++ rest ∧
    Own wr W.heap.size 50 al cl st ∧ J (pre.map (·.op)) G wr ∧ (∀ g, al.map (·.block) = some g → g ∉ G) ∧ (∀ g ∈ G, g ∈ F0 ∨ W.heap.size ≤ g) ∧ Turned F0 W wr

theorem StI.measure {code : List (OpD × Int)} {steps : List Tk} {J : List OpD → List Nat → World → Prop} {F0 : List Nat} {W : World} {N : Nat} {lv av : Value} {wr : World} {lv' av' : Value} {wr' : World}
    (hN : N + 1 = leastOf (fun N => StI code steps J F0 W N lv av wr)) (h : StI code steps J F0 W N lv' av' wr') : leastOf (fun N => StI code steps J F0 W N lv' av' wr') < leastOf (fun N => StI code steps J F0 W N lv av wr) := by
  have := (leastOf_spec (p := fun N => StI code steps J F0 W N lv' av' wr') ⟨N, h⟩).2 N h
  omega
set_option maxRecDepth 100000 in
set_option maxHeartbeats 6400000 in
theorem steps1_seq (n : Nat) (hn : 1 ≤ n) (Bs : Nat) (ac : Option Addr) (cc : Nat) (regs : Int) (f : Fo) (g : Good regs f) (w : World) (z : Nat) (hBs : Blk w Bs 100 #[.slice ac (f.bare.code 0).length cc]) (hc : At w ac (f.bare.code 0)) (hz : f.bare.code 0 ≠ [] → ∀ g, ac.map (·.block) = some g → g < z) :
    SeqAll Fence.wide n Tryz.prog 98 #[.pointer (some ⟨Bs, 0, none⟩)] (fun x : OpD => #[.agg #[.int .i64 x.kind, .int .i64 x.d, .int .i64 x.a, .int .i64 x.b, .int .u64 (x.v.toNat : Int)]]) (f.steps.map (·.op)) (fun b => z ≤ b ∧ b ≠ Bs) w := fun l J F0 W hW hJ hF0 hY h0 => by
  have hlen := g.code_length
  have HTK := hide g.tk
  have HPOS := hide g.tk_pos
  have hchn := hide g.chn
  generalize f.bare.code 0 = code at *
  generalize f.steps = steps at *
  have HY := hide hY
  have HJ := hide hJ
  have HF0 := hide hF0
  have H0 := hide h0
  have HZ := hide hz
  have hBW := hBs.belowN hW
  have hcW := hc.belowN hW
  have hws := hW.size
  have hbl := hBW.lt
  have hB0 := hBs.lt
  clear hY hJ hF0 h0 hBs hz
  refine callsIn_of_wp Tryz.func98 rfl trivial ?_ rfl
  simp only [Tryz.ntmps98, List.size_toArray, List.length_cons, List.length_nil, Nat.reduceAdd, Nat.reduceSub, Array.replicate_succ, Array.replicate_zero, List.push_toArray, List.append_toArray, List.nil_append, List.cons_append]
  gi_wp2
  gi_loopw [3, 4] (fun lv av wr => ∃ N, StI code steps J F0 W N lv av wr) (fun lv av wr => leastOf fun N => StI code steps J F0 W N lv av wr)
  case atStart => exact ⟨_, [], steps, 0, [], none, 0, 0, F0, rfl, rfl, rfl, rfl, by omega, by omega, hchn.out, rfl, Own.none _ _ _, H0.out, fun g hg => by simp at hg, fun g hg => .inl hg, Turned.refl _ _⟩
  case round =>
    obtain ⟨N0, hN0⟩ : ∃ N0, N0 = leastOf (fun N => StI code steps J F0 W N u3 u4 wr) := ⟨_, rfl⟩
    have hs := (leastOf_spec hrel).1
    rw [← hN0] at hs
    obtain ⟨pre, rest, p, st, al, cl, k, G, hrN, hav, hlv, hk, hp, hk8, hch, hst, hown, hj, hdis, hG, hT⟩ := hs
    have HN0 := hide hN0
    have hXr : At wr ac code := hcW.turned hT (fun hne g hg e => by have h1 := HZ.out hne g e; have h2 := (HF0.out g hg).1; omega)
    obtain ⟨b0, b0f⟩ := (hBW.belowN (Below.refl _ _)).c1
    have hBr : Blk wr Bs 100 #[.slice ac code.length cc] := (hT.block Bs hbl (fun hm => (HF0.out _ hm).2 rfl)).trans hBW
    obtain ⟨q0, q1⟩ := hBr.c1
    clear b0 b0f
    have HCH := hide hch
    have HST := hide hst
    have HJ0 := hide hj
    have HDIS := hide hdis
    have HGG := hide hG
    have HK := hide hk
    clear hch hst hj hdis hG hk hrel hN0
    subst hav hlv
    cases rest with
    | nil =>
      have e := HCH.out
      change (p, st) = (code.length, []) at e
      injection e with e1 e2
      subst e1
      have e3 : steps = pre := by rw [HST.out]; simp
      have HE := hide e3
      clear e2 e3
      gi_wp2
      go_end0
      exact ⟨⟨_, rfl⟩, G, by rw [HE.out]; exact HJ0.out, hT, HGG.out⟩
    | cons x rest =>
      obtain ⟨e1, e2, e3⟩ := HCH.out
      injection e1 with e1a e1b
      subst e1a e1b
      have hmem : x ∈ steps := by rw [HST.out]; simp
      obtain ⟨t1, t2, t3, t4, t5, t6, t7, t8, t9⟩ := HTK.out x hmem
      obtain ⟨b1, off1, hac, x0, x1, x2, x3, x4, x5⟩ := hXr.getIns (Below.refl _ _) e2
      subst hac
      simp only at x0 x1 x2 x3 x4 x5
      have hlt := HJ.out.lt _ _ _ HJ0.out
      have hj1 : J (pre.map (·.op)) G (wr.alloc (.cells #[.int .i64 x.op.kind, .int .i64 x.op.d, .int .i64 x.op.a, .int .i64 x.op.b, .int .u64 (x.op.v.toNat : Int), .int .i64 x.to] 176)) := HJ.out.keep _ _ _ _ HJ0.out (by simp) (fun b hb => Below.heap_alloc _ _ _ (hlt b hb))
      have hT1 : Turned F0 W (wr.alloc (.cells #[.int .i64 x.op.kind, .int .i64 x.op.d, .int .i64 x.op.a, .int .i64 x.op.b, .int .u64 (x.op.v.toNat : Int), .int .i64 x.to] 176)) := hT.trans (Turned.ofBelow (F := F0) (Below.alloc (Below.refl _ _) (Nat.le_refl _) _)) (fun b hb => .inl hb)
      obtain ⟨fn, tmps, assign, body, hy, hR⟩ := HY.out (pre.map (·.op)) x.op G _ hj1 hT1 ⟨rest.map (·.op), by rw [HST.out]; simp⟩
      have hX := Blk.new wr 176 #[.int .i64 x.op.kind, .int .i64 x.op.d, .int .i64 x.op.a, .int .i64 x.op.b, .int .u64 (x.op.v.toNat : Int), .int .i64 x.to]
      have HLT := hide hlt
      have HE3 := hide e3
      have HPX := hide (HPOS.out x hmem)
      have hown1 := hown.alloc (.cells #[.int .i64 x.op.kind, .int .i64 x.op.d, .int .i64 x.op.a, .int .i64 x.op.b, .int .u64 (x.op.v.toNat : Int), .int .i64 x.to] 176)
      clear hj1 e2 e3 hmem t5 hlt HY
      try dsimp only at hy
      gi_wp2
      refine hR.mono ?_
      rintro e W3 ⟨rfl, G', hj3, hT3, hG3⟩
      have hz3 := hT3.size
      simp only [World.size_alloc] at hz3
      have hX3 : Blk W3 wr.heap.size 176 #[.int .i64 x.op.kind, .int .i64 x.op.d, .int .i64 x.op.a, .int .i64 x.op.b, .int .u64 (x.op.v.toNat : Int), .int .i64 x.to] := (hT3.block _ hX.lt (fun hm => by have := HLT.out _ hm; omega)).trans hX
      obtain ⟨v0, v1, v2, v3, v4, v5, f0, f1, f2, f3, f4, f5⟩ := hX3.c6
      have hown3 := hown1.turned hT3 HDIS.out
      have HJ3 := hide hj3
      have hsz := hT.size
      have hT13 : Turned F0 W W3 := hT1.trans hT3 (fun b hb => HGG.out b hb)
      have hG3' : ∀ b ∈ G', b ∈ F0 ∨ W.heap.size ≤ b := fun b hb => (hG3 b hb).elim (HGG.out b) (fun h => .inr (by simp at h; omega))
      have hdis3 : ∀ g, al.map (·.block) = some g → g ∉ G' := fun g hg hm => (hG3 g hm).elim (HDIS.out g hg) (fun h => by have := (hown.blk g hg).2; simp at h; omega)
      have HG3 := hide hG3'
      have HD3 := hide hdis3
      have hst2 : steps = (pre ++ [x]) ++ rest := by rw [HST.out]; simp
      have HST2 := hide hst2
      have hmap : (pre ++ [x]).map (·.op) = pre.map (·.op) ++ [x.op] := by simp
      rw [← hmap] at HJ3
      have HOBL := hide (fun q (hq : al.map (·.block) = some q) => (hown.blk q hq).2)
      clear hj3 hG3 hG3' hdis3 hst2 hmap hR x0 x1 x2 x3 x4 x5 hown hown1 hX hX3 hT1 hT3 hy
      rcases kind_cases x.op with ⟨k7, b7, b0⟩ | ⟨k0, b7, b0⟩ | ⟨k7, k0, b7, b0⟩
      · have hnx : x.next = (x.at' + 1, x.st ++ [x.op.v]) := by unfold Tk.next; rw [if_pos k7]
        have hch2 := HE3.out
        rw [hnx] at hch2
        have HCH2 := hide hch2
        have hk7 := t3 k7
        rw [← HK.out] at hk7
        clear hnx hch2 k7 t3 t4
        gi_wp2_with (gi_at_builtin; refine wpListIn_push tyU hown3 x.op.v rfl rfl rfl rfl rfl rfl HK.out (by omega) (by omega) ?_; intro a4 c4 w4 hown4 hg4 hm4)
        have hlt3 := HJ.out.lt _ _ _ HJ3.out
        have hne4 : ∀ g, a4.map (·.block) = some g → g ∉ G' := by
          intro g hg hm
          rcases hm4 with e | ⟨g', e, hle⟩
          · exact HD3.out g (by rw [← e]; exact hg) hm
          · have := hlt3 g hm; rw [e] at hg; injection hg with hg; omega
        have hnew : StI code steps J F0 W rest.length (.slice a4 (k + 1) c4) (.int .i64 ((x.at' : Int) + 1)) w4 :=
          ⟨pre ++ [x], rest, x.at' + 1, x.st ++ [x.op.v], a4, c4, k + 1, G', rfl, by go_num, rfl, by rw [HK.out]; simp, by omega, by omega, HCH2.out, HST2.out, hown4,
            HJ.out.keep _ _ _ _ HJ3.out hg4.size (fun b hb => hg4.block b (hlt3 b hb) (fun e => HD3.out b e.symm hb)), hne4, HG3.out,
            hT13.trans (Turned.ofGrown (F := (al.map (·.block)).toList) hg4 (fun b hb => .inl (by rw [hb]; simp))) (fun b hb => .inr (hown3.blk b (by simpa using hb)).1)⟩
        go_roundw
        case rel => exact ⟨_, hnew⟩
        case measure => exact StI.measure (by have := HN0.out; rw [← this, ← hrN]; rfl) hnew
      ·
        have hst0 := t4 k0
        obtain ⟨gs, hgs, hgs1, hgs2⟩ := hown3.some_ hst0
        subst hgs
        obtain ⟨st', last, hst'⟩ : ∃ st' last, x.st = st' ++ [last] := ⟨x.st.dropLast, x.st.getLast hst0, (List.dropLast_concat_getLast hst0).symm⟩
        have hpos := HPX.out k0
        have hk' : k = st'.length + 1 := by rw [HK.out, hst']; simp
        obtain ⟨k', rfl⟩ : ∃ k', k = k' + 1 := ⟨k - 1, by omega⟩
        have hk2 : k' = st'.length := by omega
        have hlast : x.st[k']? = some last := by rw [hst', hk2]; simp
        have hgl : x.st.getLast?.getD 0 = last := by rw [hst']; simp
        rw [hgl] at hpos
        have hub := last.toNat_lt
        have tl : W3.cell? ⟨gs, k', none⟩ = some (.int .u64 (last.toNat : Int)) := by simpa [Flat.n] using hown3.cellAt hlast (f := 0) rfl
        have tlf := hown3.frozen k'
        have hcap : k' + 1 ≤ cl := by have := hown3.cap.1; rw [hst'] at this; simp at this; omega
        have hlt3 := HJ.out.lt _ _ _ HJ3.out
        have hsub : ((last.toNat : Int) - 1) = ((last - 1).toNat : Int) := by rw [UInt64.toNat_sub]; simp; omega
        have hset : Own (W3.setCell ⟨gs, k', none⟩ (.int .u64 ((last.toNat : Int) - 1))) W.heap.size 50 (some ⟨gs, 0, none⟩) cl (x.st.set k' (last - 1)) := hown3.set1 k' (last - 1) _ (by rw [hsub]; rfl)
        have hsetl : x.st.set k' (last - 1) = st' ++ [last - 1] := by rw [hst', hk2]; simp
        rw [hsetl] at hset
        have hJ4 : J ((pre ++ [x]).map (·.op)) G' (W3.setCell ⟨gs, k', none⟩ (.int .u64 ((last.toNat : Int) - 1))) := HJ.out.keep _ _ _ _ HJ3.out (by simp) (fun b hb => Below.heap_setCell _ _ _ _ (fun e => HD3.out gs rfl (by have e' : b = gs := e; rw [← e']; exact hb)))
        have hT4 : Turned F0 W (W3.setCell ⟨gs, k', none⟩ (.int .u64 ((last.toNat : Int) - 1))) := hT13.trans (Turned.ofGrown (F := [gs]) (grown_setCell W3 gs k' _) (fun b hb => .inl (by injection hb with hb; simp [hb]))) (fun b hb => .inr (by simp at hb; omega))
        have HJ4 := hide hJ4
        have HS' := hide hst'
        have HK2 := hide hk2
        have hgn : gs ≠ wr.heap.size := by have := HOBL.out gs rfl; omega
        by_cases hq : 1 < last.toNat
        · have hnx : x.next = (x.to.toNat, st' ++ [last - 1]) := by unfold Tk.next; rw [if_neg (by omega), if_pos k0, hgl, if_pos hq, HS'.out]; simp
          have hch2 := HE3.out
          rw [hnx] at hch2
          have HCH2 := hide hch2
          have hdq : decide (0 < (last.toNat : Int) - 1) = true := by simp; omega
          clear hnx hch2 k0 t3 t4 hlast hgl hsub hsetl hJ4 hst0 hst' hk2 hk' HPX
          gi_wp2
          have hnew : StI code steps J F0 W rest.length (.slice (some ⟨gs, 0, none⟩) (k' + 1) cl) (.int .i64 x.to) (W3.setCell ⟨gs, k', none⟩ (.int .u64 ((last.toNat : Int) - 1))) :=
            ⟨pre ++ [x], rest, x.to.toNat, st' ++ [last - 1], some ⟨gs, 0, none⟩, cl, k' + 1, G', rfl, by congr 1; omega, rfl, by rw [HK2.out]; simp, by omega, by omega, HCH2.out, HST2.out, hset, HJ4.out, HD3.out, HG3.out, hT4⟩
          go_roundw
          case rel => exact ⟨_, hnew⟩
          case measure => exact StI.measure (by have := HN0.out; rw [← this, ← hrN]; rfl) hnew
        · have hnx : x.next = (x.at' + 1, st') := by unfold Tk.next; rw [if_neg (by omega), if_pos k0, hgl, if_neg hq, HS'.out]; simp
          have hch2 := HE3.out
          rw [hnx] at hch2
          have HCH2 := hide hch2
          have hdq : decide (0 < (last.toNat : Int) - 1) = false := by simp; omega
          have hpop := hset.pop (by simp)
          rw [List.dropLast_concat] at hpop
          clear hnx hch2 k0 t3 t4 hlast hgl hsub hsetl hJ4 hst0 hst' hk2 hk' HPX
          gi_wp2
          have hnew : StI code steps J F0 W rest.length (.slice (some ⟨gs, 0, none⟩) k' cl) (.int .i64 ((x.at' : Int) + 1)) (W3.setCell ⟨gs, k', none⟩ (.int .u64 ((last.toNat : Int) - 1))) :=
            ⟨pre ++ [x], rest, x.at' + 1, st', some ⟨gs, 0, none⟩, cl, k', G', rfl, by go_num, rfl, HK2.out, by omega, by omega, HCH2.out, HST2.out, hpop, HJ4.out, HD3.out, HG3.out, hT4⟩
          go_roundw
          case rel => exact ⟨_, hnew⟩
          case measure => exact StI.measure (by have := HN0.out; rw [← this, ← hrN]; rfl) hnew
      ·
        have hnx : x.next = (x.at' + 1, x.st) := by unfold Tk.next; rw [if_neg k7, if_neg k0]
        have hch2 := HE3.out
        rw [hnx] at hch2
        have HCH2 := hide hch2
        clear hnx hch2 k7 k0 t3 t4
        gi_wp2
        have hnew : StI code steps J F0 W rest.length (.slice al k cl) (.int .i64 ((x.at' : Int) + 1)) W3 :=
          ⟨pre ++ [x], rest, x.at' + 1, x.st, al, cl, k, G', rfl, by go_num, rfl, HK.out, by omega, by omega, HCH2.out, HST2.out, hown3, HJ3.out, HD3.out, HG3.out, hT13⟩
        go_roundw
        case rel => exact ⟨_, hnew⟩
        case measure => exact StI.measure (by have := HN0.out; rw [← this, ← hrN]; rfl) hnew
end Go.Proofs.YtcamcnahkdiefaaGreat

/- Chapter 12: Unroll, Steps. -/
namespace Go.Proofs.YtcamcnahkdiefaaGreat
set_option linter.unusedVariables false
set_option linter.unusedSimpArgs false
open Go.RowKit Go.Shelf
attribute [local go_sem] Oper.semAt_some

noncomputable def unrS (regs : Int) (l : List OpD) : List OpD := if checkS regs l = 0 then (fo l).unroll else []
theorem unrS_good {regs : Int} {f : Fo} (g : Good regs f) : unrS regs f.flat = f.unroll := by unfold unrS; rw [if_pos g.check, fo_flat g.ok]
theorem unrS_bad {regs : Int} {l : List OpD} (h : checkS regs l ≠ 0) : unrS regs l = [] := by unfold unrS; rw [if_neg h]
def UnrPost (regs : Int) (l : List OpD) (w : World) (e : Ending) (w' : World) : Prop :=
  ∃ a c, e = .returned (.tuple #[.slice a (unrS regs l).length c, .int .i64 (checkS regs l)]) ∧ Own w' w.heap.size 89 a c (unrS regs l) ∧ Below w.heap.size w w'

theorem steps_calls (ac : Option Addr) (n cc : Nat) (w : World) : Calls Tryz.prog 48 #[.slice ac n cc] w fun e w' => e = .returned (.func (.func 98) #[] #[.pointer (some ⟨w.heap.size, 0, none⟩)]) ∧ w' = w.alloc (.cells #[.slice ac n cc] 100) := by
  go_enter Tryz.func48, Tryz.ntmps48
  go_wp2
  go_ret
  exact ⟨rfl, rfl⟩

set_option maxHeartbeats 800000 in
theorem unr_bad (regs : Int) (a : Option Addr) (c : Nat) (l : List OpD) (w : World) (h : At w a l) (hl : l.length ≤ 1000000) (hc : checkS regs l ≠ 0) :
    Calls Tryz.prog 17 #[.agg #[.int .i64 regs, .slice a l.length c]] w (UnrPost regs l w) := by
  have h1 := h.belowN (below_new12 w (.cells #[.int .i64 regs, .slice a l.length c] 24))
  have hb0 := below_new12 w (.cells #[.int .i64 regs, .slice a l.length c] 24)
  have HP := hide (Code_calls regs a c l _ h1 hl)
  have HU := hide (unrS_bad hc)
  obtain ⟨E, hE⟩ : ∃ E, E = checkS regs l := ⟨_, rfl⟩
  unfold CodePost at HP
  rw [← hE] at HP hc
  have HE := hide hE
  have e1 : (E == 0) = false := by simpa using hc
  have e2 : (E != 0) = true := by simpa using hc
  clear hE hc
  go_enter Tryz.func17, Tryz.ntmps17
  go_wp2_with (go_at_call 47; ((with_reducible refine (HP.out).mono ?_); rintro e w1 ⟨a1, c1, rfl, hown1, hb1⟩))
  go_ret2
  unfold UnrPost
  rw [HU.out, ← HE.out]
  exact ⟨none, 0, rfl, Own.none _ _ _, hb0.trans (hb1.mono hb0.size)⟩
def UnI (Bo B0 : Nat) (pre : List OpD) (G : List Nat) (W : World) : Prop :=
  ∃ (a : Option Addr) (n c : Nat), Blk W Bo 22 #[.slice a n c] ∧ Hid (n = (wrs pre).length) ∧ Own W B0 89 a c (wrs pre) ∧ G = Bo :: (a.map (·.block)).toList ∧ a.map (·.block) ≠ some Bo
theorem UnI.foot (Bo B0 : Nat) : Foot (UnI Bo B0) where
  keep := by
    rintro pre G W W' ⟨a, n, c, h1, h2, h3, rfl, h5⟩ hs hk
    exact ⟨a, n, c, (hk _ (by simp)).trans h1, h2, h3.keep (fun k hk' _ => hk k (by rw [hk']; simp)), rfl, h5⟩
  lt := by
    rintro pre G W ⟨a, n, c, h1, h2, h3, rfl, h5⟩ b hb
    simp only [List.mem_cons, Option.mem_toList] at hb
    rcases hb with rfl | hb
    · exact h1.lt
    · exact (h3.blk b hb).2
theorem wrs_snoc (l : List OpD) (x : OpD) : wrs (l ++ [x]) = if x.kind ≠ 7 ∧ x.kind ≠ 0 then wrs l ++ [x] else wrs l := by
  rw [wrs_append]
  by_cases h : x.kind ≠ 7 ∧ x.kind ≠ 0
  · rw [if_pos h]; unfold wrs; rw [List.filter_cons, if_pos (by simp [h.1, h.2])]; rfl
  · rw [if_neg h]; have : wrs [x] = [] := by unfold wrs; rw [List.filter_cons, if_neg (by simp; intro h1; exact Classical.byContradiction fun h2 => h ⟨h1, h2⟩)]; rfl
    rw [this, List.append_nil]
theorem wrs_length (l : List OpD) : (wrs l).length ≤ l.length := List.length_filter_le _ _

set_option maxRecDepth 100000 in
set_option maxHeartbeats 3200000 in
theorem unr_good (regs : Int) (a : Option Addr) (c : Nat) (f : Fo) (w : World) (h : At w a f.flat) (g : Good regs f) :
    Calls Tryz.prog 17 #[.agg #[.int .i64 regs, .slice a f.flat.length c]] w (UnrPost regs f.flat w) := by
  have hl : f.flat.length ≤ 4096 := g.len
  have h1 := h.belowN (below_new12 w (.cells #[.int .i64 regs, .slice a f.flat.length c] 24))
  have hb0 := below_new12 w (.cells #[.int .i64 regs, .slice a f.flat.length c] 24)
  have HP := hide (Code_calls regs a c f.flat _ h1 (by omega))
  have HU := hide (unrS_good g)
  have HK := hide g.check
  have HG := hide g
  have hcl := g.code_length
  have hgl := g.gone_le
  rw [← steps_length] at hgl
  unfold CodePost at HP
  rw [g.check, codeS_good g] at HP
  clear g
  refine (callsIn_wide (n := 5)).1 ?_
  refine callsIn_of_wp_marks Tryz.func17 rfl trivial ?_ rfl
  simp only [Tryz.ntmps17, List.size_toArray, List.length_cons, List.length_nil, Nat.reduceAdd, Nat.reduceSub, Array.replicate_succ, Array.replicate_zero, List.push_toArray, List.append_toArray, List.nil_append, List.cons_append]
  gi_wp2_with (first
    | (refine ⟨trivial, ?_⟩; gi_at_call 47; ((with_reducible refine (callsIn_wide.2 HP.out).mono ?_); rintro e w1 ⟨a1, c1, rfl, hown1, hb1⟩))
    | (refine ⟨trivial, ?_⟩; gi_at_call 48; ((with_reducible refine (callsIn_wide.2 (steps_calls _ _ _ _)).mono ?_); rintro e w2 ⟨rfl, rfl⟩)))
  have hs1 := hb1.size
  simp only [World.size_alloc] at hs1
  have hc1 := ((hown1.at_.belowN (below_new12 w1 (.cells #[.slice none 0 0] 22))).belowN (below_new12 _ (.cells #[.slice a1 (f.bare.code 0).length c1] 100)))
  have hBs := Blk.new (w1.alloc (.cells #[.slice none 0 0] 22)) 100 #[.slice a1 (f.bare.code 0).length c1]
  have hBo := (Blk.new w1 22 #[.slice none 0 0]).alloc (.cells #[.slice a1 (f.bare.code 0).length c1] 100)
  have hBB : Below w.heap.size w ((w1.alloc (.cells #[.slice none 0 0] 22)).alloc (.cells #[.slice a1 (f.bare.code 0).length c1] 100)) := ((hb0.trans (hb1.mono hb0.size)).alloc (by omega) _).alloc (by simp; omega) _
  have hz1 : ∀ g, a1.map (·.block) = some g → g < w1.heap.size := fun g hg => (hown1.blk g hg).2
  obtain ⟨Wb, hWb⟩ : ∃ Wb, Wb = (w1.alloc (.cells #[.slice none 0 0] 22)).alloc (.cells #[.slice a1 (f.bare.code 0).length c1] 100) := ⟨_, rfl⟩
  have hsz : Wb.heap.size = w1.heap.size + 2 := by rw [hWb]; simp
  simp only [World.size_alloc] at hBs
  rw [← hWb] at hc1 hBs hBo hBB ⊢
  have HZ1 := hide hz1
  have HSZ := hide hsz
  have hsz1 : w1.heap.size + 2 ≤ Wb.heap.size := by omega
  have hsz2 : Wb.heap.size ≤ w1.heap.size + 2 := by omega
  have hseq := steps1_seq 4 (by omega) (w1.heap.size + 1) a1 c1 regs f HG.out Wb w1.heap.size hBs hc1 (fun _ => hz1)
  generalize hxs : f.steps.map (·.op) = xs at hseq
  have hxl : xs.length ≤ 65536 * 17 := by rw [← hxs]; simpa using hgl
  have HXS := hide hxs
  generalize hn1 : (f.bare.code 0).length = n1 at *
  clear hxs hWb hown1 hb1 h1 hc1 hz1 hsz hgl hcl hn1
  refine wpIn_rangeFunc_all (F := Fence.wide) rfl (by omega) (gf := 98) (lb := #[.pointer (some ⟨w1.heap.size + 1, 0, none⟩)]) rfl trivial (enters_of Tryz.func98 (by kernel_rfl) rfl) hseq (fun b hb => ⟨by omega, by omega⟩) (Below.refl _ _) (fun _ => rfl)
    (UnI w1.heap.size Wb.heap.size) (UnI.foot _ _) [w1.heap.size] (fun b hb => by simp at hb; subst hb; omega) ⟨none, 0, 0, hBo, rfl, Own.none _ _ _, rfl, by simp⟩
    (fun x a' W => ∃ b, Wb.heap.size + 1 < b ∧ Blk W b 89 #[.int .i64 x.kind, .int .i64 x.d, .int .i64 x.a, .int .i64 x.b, .int .u64 (x.v.toNat : Int)] ∧ a' = { defers := [], tmps := #[.agg #[.int .i64 regs, .slice a f.flat.length c],
          .pointer (some ⟨w.heap.size, 0, none⟩), .slice none 0 0, .int .i64 0,
          .slice a1 n1 c1, .int .i64 0,
          .pointer (some ⟨w1.heap.size, 0, none⟩), .pointer (some ⟨b, 0, none⟩),
          .tuple #[.slice a1 n1 c1, .int .i64 0],
          .agg #[.int .i64 regs, .slice a f.flat.length c],
          .tuple #[.slice a1 n1 c1, .int .i64 0],
          .slice a1 n1 c1, .int .i64 0, .int .i64 0,
          .bool false, undef, .slice a1 n1 c1,
          .func (.func 98) #[] #[.pointer (some ⟨w1.heap.size + 1, 0, none⟩)], .agg #[.int .i64 x.kind, .int .i64 x.d, .int .i64 x.a, .int .i64 x.b, .int .u64 (x.v.toNat : Int)], undef,
          undef, undef, undef, undef, undef, undef, undef, undef, undef, undef, undef, undef] })
    (fun x a' W W' ⟨b, h1, h2, h3⟩ _ hk => ⟨b, h1, (hk b (by omega)).trans h2, h3⟩) ?assign ?body ?done
  case assign =>
    intro l pre x G W K hi hx hlt hG hK
    gi_wp2
    exact hK _ _ ⟨W.heap.size, hlt, Blk.new W _ _, rfl⟩ (below_new12 W _)
  case body =>
    rintro l pre x G W a' ⟨ao, no, co, hBo', hno, hown, rfl, hne⟩ ⟨b, hb, hbx, rfl⟩ hx hlt hG
    have hpl : pre.length < xs.length := by obtain ⟨t, rfl⟩ := hx; simp
    have hwl := wrs_length pre
    have hnl : no ≤ 65536 * 17 := by rw [hno.out]; omega
    obtain ⟨x0, x1, x2, x3, x4, y0, y1, y2, y3, y4⟩ := hbx.c5
    obtain ⟨o0, o1⟩ := hBo'.c1
    have hbl := hbx.lt
    have HX := hide hx
    have HSN := hide (wrs_snoc pre x)
    have HGG := hide hG
    have hzo : Wb.heap.size ≤ W.heap.size := by omega
    clear hx hG hwl hpl
    rcases kind_cases x with ⟨k7, b7, b0⟩ | ⟨k0, b7, b0⟩ | ⟨k7, k0, b7, b0⟩
    · have n7 : (x.kind != 7) = false := by simp [k7]
      have hs : wrs (pre ++ [x]) = wrs pre := by rw [HSN.out, if_neg (fun h => h.1 k7)]
      have HS := hide hs
      clear hs k7
      gi_wp2
      refine ⟨_, ⟨ao, no, co, hBo', by rw [HS.out]; exact hno, by rw [HS.out]; exact hown, rfl, hne⟩, Turned.refl _ _, fun b hb => .inl hb⟩
    · have n7 : (x.kind != 7) = true := by simp [k0]
      have n0 : (x.kind != 0) = false := by simp [k0]
      have hs : wrs (pre ++ [x]) = wrs pre := by rw [HSN.out, if_neg (fun h => h.2 k0)]
      have HS := hide hs
      clear hs k0
      gi_wp2
      refine ⟨_, ⟨ao, no, co, hBo', by rw [HS.out]; exact hno, by rw [HS.out]; exact hown, rfl, hne⟩, Turned.refl _ _, fun b hb => .inl hb⟩
    · have n7 : (x.kind != 7) = true := by simp [k7]
      have n0 : (x.kind != 0) = true := by simp [k0]
      have hs : wrs (pre ++ [x]) = wrs pre ++ [x] := by rw [HSN.out, if_pos ⟨k7, k0⟩]
      have HS := hide hs
      clear hs k7 k0
      gi_wp2_with (gi_at_builtin; refine wpListIn_push tyO hown x rfl rfl rfl rfl rfl rfl hno.out hzo (by omega) ?_; intro a4 c4 w4 hown4 hg4 hm4; have hBo4 := hBo'.grown hg4 (fun e => hne e.symm); obtain ⟨o0', o1'⟩ := hBo4.c1)
      have hne4 : a4.map (·.block) ≠ some w1.heap.size := by
        rcases hm4 with e | ⟨g', e, hle⟩
        · rw [e]; exact hne
        · rw [e]; intro e'; injection e' with e'; omega
      refine ⟨_, ⟨a4, no + 1, c4, hBo4.set_ 0 _, ?_, ?_, rfl, hne4⟩, ?_, ?_⟩
      · rw [HS.out, List.length_append, ← hno.out]; rfl
      · rw [HS.out]; exact hown4.setCell (by simp; omega) _
      · refine (Turned.ofGrown hg4 (fun k hk => .inl (by rw [hk]; simp))).trans (Turned.ofGrown (F := [w1.heap.size]) (grown_setCell w4 w1.heap.size 0 _) (fun k hk => .inl (by injection hk with hk; simp [hk]))) (fun k hk => .inl (by simp at hk; simp [hk]))
      · intro k hk
        simp only [List.mem_cons, Option.mem_toList] at hk ⊢
        rcases hk with rfl | hk
        · exact .inl (.inl rfl)
        · rcases hm4 with e | ⟨g', e, hle⟩
          · rw [e] at hk; exact .inl (.inr hk)
          · rw [e] at hk; injection hk with hk; exact .inr (by omega)
  case done =>
    rintro G W ⟨ao, no, co, hBo', hno, hown, rfl, hne⟩ hT hK hlt hG
    have hsz' := hT.size
    obtain ⟨o0, o1⟩ := hBo'.c1
    gi_wp2
    refine ⟨by simp, .inl ⟨_, _, rfl, run_takeDeferred hK, ?_⟩⟩
    refine ⟨_, results_tmp2 rfl _ _ _, ?_⟩
    have hxs : wrs xs = f.unroll := by rw [← HXS.out]; exact HG.out.steps_ops
    have hw0 := hb0.size
    simp only [World.size_alloc] at hw0
    unfold UnrPost
    rw [HU.out, HK.out, ← hxs]
    refine ⟨ao, co, by rw [← hno.out]; rfl, ?_, ?_⟩
    · exact (hown.keep (fun k hk _ => World.putObj_heap_other (fun e => hG (by rw [← e, hk]; simp)))).mono (by omega)
    · exact Turned.below (Turned.below hBB hT (fun k hk => by simp at hk; omega) (by omega)) (turned_putObj W Wb.heap.size _) (fun k hk => by simp at hk; omega) (by omega)
theorem Unroll_calls (regs : Int) (a : Option Addr) (c : Nat) (l : List OpD) (w : World) (h : At w a l) (hl : l.length ≤ 1000000) :
    Calls Tryz.prog 17 #[.agg #[.int .i64 regs, .slice a l.length c]] w (UnrPost regs l w) := by
  by_cases hc : checkS regs l = 0
  · obtain ⟨f, rfl, g⟩ := good_of_check hc
    exact unr_good regs a c f w h g
  · exact unr_bad regs a c l w h hl hc

def StN (Bo : Nat) (pre : List OpD) (G : List Nat) (W : World) : Prop := Blk W Bo 3 #[.int .i64 (pre.length : Int)] ∧ G = [Bo]
theorem StN.foot (Bo : Nat) : Foot (StN Bo) where
  keep := by
    rintro pre G W W' ⟨h1, rfl⟩ hs hk
    exact ⟨(hk _ (by simp)).trans h1, rfl⟩
  lt := by
    rintro pre G W ⟨h1, rfl⟩ b hb
    simp only [List.mem_singleton] at hb
    rw [hb]; exact h1.lt

end Go.Proofs.YtcamcnahkdiefaaGreat
