/- Chapter 10: whether a program may be: the looks, one by one. -/
import Derived.Test.YtoklehndfncmnaaM9d
import Derived.Laws.EntriesVeiled
namespace Go.Proofs.Ytoklehndfncmnaa
set_option linter.unusedVariables false
set_option linter.unusedSimpArgs false
open Go.RowKit

theorem fail_calls (b : Bool) (n : Int) (w : World) : Calls Try.prog 80 #[.bool b, .int .i64 n] w fun e w' => e = .returned (.int .i64 (if b = true then n else 0)) ∧ w = w' := by
  cases b
  all_goals
    go_enter Try.func80, Try.ntmps80
    go_wp2
    go_ret
    exact ⟨rfl, rfl⟩

set_option maxRecDepth 100000 in
set_option maxHeartbeats 800000 in
theorem IndexForm  (p : OpD → Bool) (a : Option Addr) (c : Nat) (l : List OpD) (w : World) (h : At w a l) (hl : l.length ≤ 1000000)
    (hcall : ∀ (x : OpD) (w' : World), x ∈ l → Below w.heap.size w w' → Calls Try.prog 78 #[.agg #[.int .i64 x.kind, .int .i64 x.d, .int .i64 x.a, .int .i64 x.b, .int .u64 (x.v.toNat : Int)]] w' fun e w'' => e = .returned (.bool (p x)) ∧ Below w'.heap.size w' w'') :
    Calls Try.prog 89 #[.slice a l.length c, .func (.func 78) #[] #[]] w fun e w' => ((l.any p = true → ∃ j : Nat, e = .returned (.int .i64 (j : Int))) ∧ (l.any p = false → e = .returned (.int .i64 (-1)))) ∧ Below w.heap.size w w' := by
  have HC := hide hcall
  obtain ⟨R, hR⟩ : ∃ R, R = l.any p := ⟨_, rfl⟩
  rw [← hR]
  have HR := hide hR
  clear hcall hR
  go_enter Try.func89, Try.ntmps89
  go_wp2
  go_loopw [8] (fun i wr => ∃ k : Nat, i = .int .i64 k ∧ k ≤ l.length ∧ Hid (R = (l.drop k).any p) ∧ Below w.heap.size w wr) (fun i _ => l.length - (intOf i).toNat)
  case atStart => exact ⟨0, rfl, by omega, HR.out, Below.refl _ _⟩
  case round =>
    obtain ⟨k, rfl, hk, hRk, hbr⟩ := hrel
    by_cases hlt : k < l.length
    · obtain ⟨b1, off1, x, rfl, hx, x0, x1, x2, x3, x4⟩ := h.getOp hbr hlt
      have hd := drop_at hx.out
      have hR2 := hRk.out
      rw [hd, List.any_cons] at hR2
      have hcx := fun w' hb => HC.out x w' (List.mem_of_getElem? hx.out) hb
      have HCX := hide hcx
      cases hp : p x with
      | true =>
        rw [hp] at hR2 HCX
        have HRT : Hid (R = true) := by show R = true; rw [hR2]; rfl
        clear hd hR2 hcx hx hp hRk
        go_wp2_with (go_at_call 78; ((with_reducible refine (HCX.out _ hbr).mono ?_); rintro e w1 ⟨rfl, hb1⟩))
        go_ret
        exact ⟨⟨fun _ => ⟨k, rfl⟩, fun h => by rw [HRT.out] at h; cases h⟩, hbr.trans (hb1.mono hbr.size)⟩
      | false =>
        rw [hp] at hR2 HCX
        have HR2 := hide hR2
        clear hd hR2 hcx hx hp hRk
        go_wp2_with (go_at_call 78; ((with_reducible refine (HCX.out _ hbr).mono ?_); rintro e w1 ⟨rfl, hb1⟩))
        go_roundw
        case rel => exact ⟨k + 1, by go_num, by omega, by show R = _; rw [HR2.out]; rfl, hbr.trans (hb1.mono hbr.size)⟩
        case measure => simp [intOf]; omega
    · obtain rfl : k = l.length := by omega
      have HRF : Hid (R = false) := by show R = false; rw [hRk.out, List.drop_eq_nil_of_le (by omega)]; rfl
      go_wp2
      go_ret
      exact ⟨⟨fun h => (by rw [HRF.out] at h; cases h), fun _ => rfl⟩, hbr⟩
theorem ContForm  (p : OpD → Bool) (a : Option Addr) (c : Nat) (l : List OpD) (w : World) (h : At w a l) (hl : l.length ≤ 1000000)
    (hcall : ∀ (x : OpD) (w' : World), x ∈ l → Below w.heap.size w w' → Calls Try.prog 78 #[.agg #[.int .i64 x.kind, .int .i64 x.d, .int .i64 x.a, .int .i64 x.b, .int .u64 (x.v.toNat : Int)]] w' fun e w'' => e = .returned (.bool (p x)) ∧ Below w'.heap.size w' w'') :
    Calls Try.prog 81 #[.slice a l.length c, .func (.func 78) #[] #[]] w fun e w' => e = .returned (.bool (l.any p)) ∧ Below w.heap.size w w' := by
  have HI := hide (IndexForm  p a c l w h hl hcall)
  clear hcall
  cases hp : l.any p with
  | true =>
    rw [hp] at HI
    clear hp
    go_enter Try.func81, Try.ntmps81
    go_wp2_with (go_at_call 89; ((with_reducible refine (HI.out).mono ?_); rintro e w1 ⟨⟨h1, h2⟩, hb1⟩; obtain ⟨j, rfl⟩ := h1 rfl; clear h1 h2))
    go_ret
    exact ⟨by simp, hb1⟩
  | false =>
    rw [hp] at HI
    clear hp
    go_enter Try.func81, Try.ntmps81
    go_wp2_with (go_at_call 89; ((with_reducible refine (HI.out).mono ?_); rintro e w1 ⟨⟨h1, h2⟩, hb1⟩; obtain rfl := h2 rfl; clear h1 h2))
    go_ret
    exact ⟨by simp, hb1⟩

theorem form1_calls (x : OpD) (w : World) : Calls Try.prog 78 #[.agg #[.int .i64 x.kind, .int .i64 x.d, .int .i64 x.a, .int .i64 x.b, .int .u64 (x.v.toNat : Int)]] w fun e w' => e = .returned (.bool (!rightB x)) ∧ Below w.heap.size w w' := by
  obtain ⟨k, rd, ra, rb, v⟩ := x
  have HR := hide (fun w => Right_calls ⟨k, rd, ra, rb, v⟩ w)
  generalize rightB ⟨k, rd, ra, rb, v⟩ = R at *
  simp only at *
  go_enter Try.func78, Try.ntmps78
  go_wp2_with (go_at_call 79; ((with_reducible refine (HR.out _).mono ?_); rintro e w1 ⟨rfl, hb1⟩))
  go_ret
  exact ⟨rfl, (Below.alloc (Below.refl _ _) (Nat.le_refl _) _).trans (hb1.mono (by simp))⟩
theorem formB_any (l : List OpD) : formB l = (decide (l.length ≤ 4096) && well l && !(l.any fun x => !rightB x)) := by
  unfold formB
  congr 1
  induction l with
  | nil => rfl
  | cons x r ih => simp [ih]

set_option maxHeartbeats 800000 in
theorem form_calls (regs : Int) (a : Option Addr) (c : Nat) (l : List OpD) (w : World) (h : At w a l) (hl : l.length ≤ 1000000) :
    Calls Try.prog 71 #[.agg #[.int .i64 regs, .slice a l.length c]] w fun e w' => e = .returned (.int .i64 (if formB l = true then 0 else 6)) ∧ Below w.heap.size w w' := by
  have hX := Blk.new w 87 #[.int .i64 regs, .slice a l.length c]
  obtain ⟨R, hR⟩ : ∃ R, R = formB l := ⟨_, rfl⟩
  have hR2 := hR.trans (formB_any l)
  rw [← hR]
  have HF := hide (fun n w => fail_calls true n w)
  have HF0 := hide (fun n w => fail_calls false n w)
  have HC := hide (fun w' (g : At w' a l) => ContForm (fun x => !rightB x) a c l w' g hl (fun x w2 _ _ => form1_calls x w2))
  obtain ⟨Y, hY⟩ : ∃ Y, Y = l.any (fun x => !rightB x) := ⟨_, rfl⟩
  rw [← hY] at hR2 HC
  have HR := hide hR2
  obtain ⟨V, hV⟩ : ∃ V : Int, V = if R = true then 0 else 6 := ⟨_, rfl⟩
  rw [← hV]
  have HV := hide hV
  clear hR hR2 hY hV
  cases hw : well l with
  | false =>
    rw [hw] at HR
    have HM := hide (fun w' (g : At w' a l) => MatchN a c l w' g hl hw)
    have hRf : Hid (R = false) := by show R = false; rw [HR.out]; simp
    clear hw
    by_cases h1 : 4096 < l.length
    all_goals
      go_enter Try.func71, Try.ntmps71
      go_wp2_with (first
        | (go_at_call 32; ((with_reducible refine (HM.out _ (h.belowN (Below.alloc (Below.refl _ _) (Nat.le_refl _) _))).mono ?_); rintro e w1 ⟨a1, c1, rfl, hb1⟩; obtain ⟨q0, q1, q2, q3⟩ := (hX.belowN hb1).c2))
        | (go_at_call 80; ((with_reducible refine (HF.out _ _).mono ?_); rintro e w2 ⟨rfl, rfl⟩)))
      go_ret
      exact ⟨by rw [HV.out, hRf.out] <;> rfl, (Below.alloc (Below.refl _ _) (Nat.le_refl _) _).trans (hb1.mono (by simp))⟩
  | true =>
    rw [hw] at HR
    have HM := hide (fun w' (g : At w' a l) => MatchW a c l w' g hl hw)
    clear hw
    by_cases h1 : 4096 < l.length
    · have hRf : Hid (R = false) := by show R = false; rw [HR.out]; simp; omega
      go_enter Try.func71, Try.ntmps71
      go_wp2_with (first
        | (go_at_call 32; ((with_reducible refine (HM.out _ (h.belowN (Below.alloc (Below.refl _ _) (Nat.le_refl _) _))).mono ?_); rintro e w1 ⟨a1, c1, rfl, hom, hb1⟩; obtain ⟨q0, q1, q2, q3⟩ := (hX.belowN hb1).c2))
        | (go_at_call 80; ((with_reducible refine (HF.out _ _).mono ?_); rintro e w2 ⟨rfl, rfl⟩)))
      go_ret
      exact ⟨by rw [HV.out, hRf.out] <;> rfl, (Below.alloc (Below.refl _ _) (Nat.le_refl _) _).trans (hb1.mono (by simp))⟩
    · have hRy : Hid (R = !Y) := by show R = _; rw [HR.out]; simp; omega
      have d1 : decide (4096 < (l.length : Int)) = false := by simp; omega
      cases Y
      all_goals
        go_enter Try.func71, Try.ntmps71
        go_wp2_with (first
          | (go_at_call 32; ((with_reducible refine (HM.out _ (h.belowN (Below.alloc (Below.refl _ _) (Nat.le_refl _) _))).mono ?_); rintro e w1 ⟨a1, c1, rfl, hom, hb1⟩; obtain ⟨q0, q1, q2, q3⟩ := (hX.belowN hb1).c2))
          | (go_at_call 81; ((with_reducible refine (HC.out _ ((h.belowN (Below.alloc (Below.refl _ _) (Nat.le_refl _) _)).belowN hb1)).mono ?_); rintro e w2 ⟨rfl, hb2⟩))
          | (go_at_call 80; first | ((with_reducible refine (HF.out _ _).mono ?_); rintro e w3 ⟨rfl, rfl⟩) | ((with_reducible refine (HF0.out _ _).mono ?_); rintro e w3 ⟨rfl, rfl⟩)))
        go_ret
        exact ⟨by rw [HV.out, hRy.out] <;> rfl, (Below.alloc (Below.refl _ _) (Nat.le_refl _) _).trans ((hb1.trans (hb2.mono hb1.size)).mono (by simp))⟩

theorem depth_calls (regs : Int) (a : Option Addr) (c : Nat) (l : List OpD) (w : World) (h : At w a l) (hl : l.length ≤ 1000000) :
    Calls Try.prog 73 #[.agg #[.int .i64 regs, .slice a l.length c]] w fun e w' => e = .returned (.int .i64 (if (deepS l).1 ≤ 8 then 0 else 8)) ∧ Below w.heap.size w w' := by
  have HF := hide (fun n w => fail_calls true n w)
  have HF0 := hide (fun n w => fail_calls false n w)
  have HD := hide (fun w' (g : At w' a l) => Deep_calls a c l w' g hl)
  generalize (deepS l).1 = D at *
  generalize (deepS l).2 = E at *
  by_cases h1 : D ≤ 8
  · have e : (if D ≤ 8 then (0 : Int) else 8) = 0 := if_pos h1
    have d1 : decide (8 < D) = false := by simp; omega
    rw [e]
    clear e
    go_enter Try.func73, Try.ntmps73
    go_wp2_with (first
      | (go_at_call 86; ((with_reducible refine (HD.out _ (h.belowN (Below.alloc (Below.refl _ _) (Nat.le_refl _) _))).mono ?_); rintro e w1 ⟨rfl, hb1⟩))
      | (go_at_call 80; ((with_reducible refine (HF0.out _ _).mono ?_); rintro e w2 ⟨rfl, rfl⟩)))
    go_ret
    exact ⟨rfl, (Below.alloc (Below.refl _ _) (Nat.le_refl _) _).trans (hb1.mono (by simp))⟩
  · have e : (if D ≤ 8 then (0 : Int) else 8) = 8 := if_neg h1
    have d1 : decide (8 < D) = true := by simp; omega
    rw [e]
    clear e
    go_enter Try.func73, Try.ntmps73
    go_wp2_with (first
      | (go_at_call 86; ((with_reducible refine (HD.out _ (h.belowN (Below.alloc (Below.refl _ _) (Nat.le_refl _) _))).mono ?_); rintro e w1 ⟨rfl, hb1⟩))
      | (go_at_call 80; ((with_reducible refine (HF.out _ _).mono ?_); rintro e w2 ⟨rfl, rfl⟩)))
    go_ret
    exact ⟨rfl, (Below.alloc (Below.refl _ _) (Nat.le_refl _) _).trans (hb1.mono (by simp))⟩
theorem cwrites_calls (regs : Int) (a : Option Addr) (c : Nat) (l : List OpD) (w : World) (h : At w a l) (hl : l.length ≤ 1000000) :
    Calls Try.prog 74 #[.agg #[.int .i64 regs, .slice a l.length c]] w fun e w' => e = .returned (.int .i64 (sizeE l)) ∧ Below w.heap.size w w' := by
  have HD := hide (fun w' (g : At w' a l) => SizeW_calls a c l w' g hl)
  generalize sizeW l = W at *
  generalize sizeE l = E at *
  go_enter Try.func74, Try.ntmps74
  go_wp2_with (go_at_call 20; ((with_reducible refine (HD.out _ (h.belowN (Below.alloc (Below.refl _ _) (Nat.le_refl _) _))).mono ?_); rintro e w1 ⟨rfl, hb1⟩))
  go_ret
  exact ⟨rfl, (Below.alloc (Below.refl _ _) (Nat.le_refl _) _).trans (hb1.mono (by simp))⟩

/-! ### registers -/
set_option maxRecDepth 100000 in
set_option maxHeartbeats 800000 in
theorem IndexReg (g : Nat) (p : Int → Bool) (a : Option Addr) (c : Nat) (l : List Int) (w : World) (h : At w a l) (hl : l.length ≤ 1000000)
    (hcall : ∀ (x : Int) (w' : World), x ∈ l → Below w.heap.size w w' → Calls Try.prog 85 #[.int .i64 x, .pointer (some ⟨g, 0, none⟩)] w' fun e w'' => e = .returned (.bool (p x)) ∧ Below w'.heap.size w' w'') :
    Calls Try.prog 91 #[.slice a l.length c, .func (.func 85) #[] #[.pointer (some ⟨g, 0, none⟩)]] w fun e w' => ((l.any p = true → ∃ j : Nat, e = .returned (.int .i64 (j : Int))) ∧ (l.any p = false → e = .returned (.int .i64 (-1)))) ∧ Below w.heap.size w w' := by
  have HC := hide hcall
  obtain ⟨R, hR⟩ : ∃ R, R = l.any p := ⟨_, rfl⟩
  rw [← hR]
  have HR := hide hR
  clear hcall hR
  go_enter Try.func91, Try.ntmps91
  go_wp2
  go_loopw [8] (fun i wr => ∃ k : Nat, i = .int .i64 k ∧ k ≤ l.length ∧ Hid (R = (l.drop k).any p) ∧ Below w.heap.size w wr) (fun i _ => l.length - (intOf i).toNat)
  case atStart => exact ⟨0, rfl, by omega, HR.out, Below.refl _ _⟩
  case round =>
    obtain ⟨k, rfl, hk, hRk, hbr⟩ := hrel
    by_cases hlt : k < l.length
    · obtain ⟨b1, off1, x, rfl, hx, x0⟩ := h.getI hbr hlt
      have hd := drop_at hx.out
      have hR2 := hRk.out
      rw [hd, List.any_cons] at hR2
      have hcx := fun w' hb => HC.out x w' (List.mem_of_getElem? hx.out) hb
      have HCX := hide hcx
      cases hp : p x with
      | true =>
        rw [hp] at hR2 HCX
        have HRT : Hid (R = true) := by show R = true; rw [hR2]; rfl
        clear hd hR2 hcx hx hp hRk
        go_wp2_with (go_at_call 85; ((with_reducible refine (HCX.out _ hbr).mono ?_); rintro e w1 ⟨rfl, hb1⟩))
        go_ret
        exact ⟨⟨fun _ => ⟨k, rfl⟩, fun h => by rw [HRT.out] at h; cases h⟩, hbr.trans (hb1.mono hbr.size)⟩
      | false =>
        rw [hp] at hR2 HCX
        have HR2 := hide hR2
        clear hd hR2 hcx hx hp hRk
        go_wp2_with (go_at_call 85; ((with_reducible refine (HCX.out _ hbr).mono ?_); rintro e w1 ⟨rfl, hb1⟩))
        go_roundw
        case rel => exact ⟨k + 1, by go_num, by omega, by show R = _; rw [HR2.out]; rfl, hbr.trans (hb1.mono hbr.size)⟩
        case measure => simp [intOf]; omega
    · obtain rfl : k = l.length := by omega
      have HRF : Hid (R = false) := by show R = false; rw [hRk.out, List.drop_eq_nil_of_le (by omega)]; rfl
      go_wp2
      go_ret
      exact ⟨⟨fun h => (by rw [HRF.out] at h; cases h), fun _ => rfl⟩, hbr⟩
theorem ContReg (g : Nat) (p : Int → Bool) (a : Option Addr) (c : Nat) (l : List Int) (w : World) (h : At w a l) (hl : l.length ≤ 1000000)
    (hcall : ∀ (x : Int) (w' : World), x ∈ l → Below w.heap.size w w' → Calls Try.prog 85 #[.int .i64 x, .pointer (some ⟨g, 0, none⟩)] w' fun e w'' => e = .returned (.bool (p x)) ∧ Below w'.heap.size w' w'') :
    Calls Try.prog 84 #[.slice a l.length c, .func (.func 85) #[] #[.pointer (some ⟨g, 0, none⟩)]] w fun e w' => e = .returned (.bool (l.any p)) ∧ Below w.heap.size w w' := by
  have HI := hide (IndexReg g p a c l w h hl hcall)
  clear hcall
  cases hp : l.any p with
  | true =>
    rw [hp] at HI
    clear hp
    go_enter Try.func84, Try.ntmps84
    go_wp2_with (go_at_call 91; ((with_reducible refine (HI.out).mono ?_); rintro e w1 ⟨⟨h1, h2⟩, hb1⟩; obtain ⟨j, rfl⟩ := h1 rfl; clear h1 h2))
    go_ret
    exact ⟨by simp, hb1⟩
  | false =>
    rw [hp] at HI
    clear hp
    go_enter Try.func84, Try.ntmps84
    go_wp2_with (go_at_call 91; ((with_reducible refine (HI.out).mono ?_); rintro e w1 ⟨⟨h1, h2⟩, hb1⟩; obtain rfl := h2 rfl; clear h1 h2))
    go_ret
    exact ⟨by simp, hb1⟩

theorem reg11_calls (regs n : Int) (g : Nat) (sl : Value) (w : World) (h : Blk w g 87 #[.int .i64 regs, sl]) : Calls Try.prog 85 #[.int .i64 n, .pointer (some ⟨g, 0, none⟩)] w fun e w' => e = .returned (.bool (decide (regs ≤ n))) ∧ Below w.heap.size w w' := by
  obtain ⟨q0, q1, q2, q3⟩ := h.c2
  go_enter Try.func85, Try.ntmps85
  go_wp2
  go_ret
  exact ⟨rfl, Below.refl _ _⟩
theorem off_any (regs : Int) (x : OpD) : offB regs x = ((if dOf x.kind = true then readsL x ++ [x.d] else readsL x).any fun n => decide (regs ≤ n)) := by
  have hb : bOf x.kind = true → aOf x.kind = true := by unfold bOf aOf; simp; omega
  unfold offB readsL
  cases hA : aOf x.kind <;> cases hB : bOf x.kind <;> cases hD : dOf x.kind <;> simp [hA, hB] at hb ⊢
  all_goals simp [Bool.or_assoc]
theorem reads_len (x : OpD) : (readsL x).length ≤ 2 := by unfold readsL; split <;> (try split) <;> simp

set_option maxHeartbeats 1600000 in
theorem reg1_calls (regs : Int) (g : Nat) (sl : Value) (x : OpD) (w : World) (h : Blk w g 87 #[.int .i64 regs, sl]) : Calls Try.prog 82 #[.agg #[.int .i64 x.kind, .int .i64 x.d, .int .i64 x.a, .int .i64 x.b, .int .u64 (x.v.toNat : Int)], .pointer (some ⟨g, 0, none⟩)] w fun e w' => e = .returned (.bool (offB regs x)) ∧ Below w.heap.size w w' := by
  have hoff := off_any regs x
  have HR := hide (fun w => Reads_calls x w)
  have HW := hide (fun w => Writes7_calls x w)
  have hlen := reads_len x
  unfold ReadsPost at HR
  obtain ⟨V, hV⟩ : ∃ V, V = offB regs x := ⟨_, rfl⟩
  rw [← hV] at hoff ⊢
  obtain ⟨k, rd, ra, rb, v⟩ := x
  simp only at *
  generalize readsL ⟨k, rd, ra, rb, v⟩ = L at *
  have HV := hide hoff
  clear hoff hV
  have hg := h.lt
  cases hD : dOf k with
  | false =>
    rw [hD] at HW HV
    simp only [Bool.false_eq_true, if_false] at HW HV
    have HC := hide (fun w' a c (g1 : At w' a L) (g2 : Blk w' g 87 #[.int .i64 regs, sl]) => ContReg g (fun n => decide (regs ≤ n)) a c L w' g1 (by omega) (fun x w2 _ hb => reg11_calls regs x g sl w2 (g2.belowN hb)))
    rw [← HV.out] at HC
    clear hD
    go_enter Try.func82, Try.ntmps82
    go_wp2_with (first
      | (go_at_call 83; ((with_reducible refine (HR.out _).mono ?_); rintro e w1 ⟨a1, c1, rfl, own1, hb1⟩; obtain ⟨hz, hB1, hX⟩ := box5 hb1; obtain ⟨x0, x1, x2, x3, x4, y0, y1, y2, y3, y4⟩ := hX.c5))
      | (go_at_call 56; ((with_reducible refine (HW.out _).mono ?_); rintro e w2 ⟨rfl, hb2⟩))
      | (go_at_call 84; ((with_reducible refine (HC.out _ _ _ (own1.belowN hb2).at_ ((h.belowN hB1).belowN hb2)).mono ?_); rintro e w3 ⟨rfl, hb3⟩)))
    go_ret
    exact ⟨rfl, hB1.trans ((hb2.trans (hb3.mono hb2.size)).mono hB1.size)⟩
  | true =>
    rw [hD] at HW HV
    simp only [if_true] at HW HV
    have HC := hide (fun w' a c (g1 : At w' a (L ++ [rd])) (g2 : Blk w' g 87 #[.int .i64 regs, sl]) => ContReg g (fun n => decide (regs ≤ n)) a c (L ++ [rd]) w' g1 (by simp; omega) (fun x w2 _ hb => reg11_calls regs x g sl w2 (g2.belowN hb)))
    rw [← HV.out] at HC
    rw [List.length_append, List.length_singleton] at HC
    clear hD
    go_enter Try.func82, Try.ntmps82
    go_wp2_with (first
      | (go_at_call 83; ((with_reducible refine (HR.out _).mono ?_); rintro e w1 ⟨a1, c1, rfl, own1, hb1⟩; obtain ⟨hz, hB1, hX⟩ := box5 hb1; obtain ⟨x0, x1, x2, x3, x4, y0, y1, y2, y3, y4⟩ := hX.c5; clear hb1))
      | (go_at_call 56; ((with_reducible refine (HW.out _).mono ?_); rintro e w2 ⟨rfl, hb2⟩; have own2 := own1.belowN hb2; have hB2 := hB1.trans (hb2.mono hB1.size); have hz2 := hb2.size; clear own1))
      | (at_builtin; refine wpList_push tyI own2 rd rfl rfl rfl rfl rfl rfl rfl (by simp; omega) (by omega) ?_; intro a3 c3 w3 hown3 hg3 _)
      | (go_at_call 84; ((with_reducible refine (HC.out _ _ _ hown3.at_ ?_).mono ?_); (focus (skip; exact ((h.belowN hB2).grown hg3 (fun e => by have := (own2.blk g e.symm).1; simp at this; omega)))); rintro e w4 ⟨rfl, hb4⟩)))
    go_ret
    have hB3 := below_push hB2 (own2.mono (by simp)) hg3 hB2.size
    exact ⟨rfl, hB3.trans (hb4.mono hB3.size)⟩

set_option maxRecDepth 100000 in
set_option maxHeartbeats 800000 in
theorem IndexRegs (g : Nat) (p : OpD → Bool) (a : Option Addr) (c : Nat) (l : List OpD) (w : World) (h : At w a l) (hl : l.length ≤ 1000000)
    (hcall : ∀ (x : OpD) (w' : World), x ∈ l → Below w.heap.size w w' → Calls Try.prog 82 #[.agg #[.int .i64 x.kind, .int .i64 x.d, .int .i64 x.a, .int .i64 x.b, .int .u64 (x.v.toNat : Int)], .pointer (some ⟨g, 0, none⟩)] w' fun e w'' => e = .returned (.bool (p x)) ∧ Below w'.heap.size w' w'') :
    Calls Try.prog 89 #[.slice a l.length c, .func (.func 82) #[] #[.pointer (some ⟨g, 0, none⟩)]] w fun e w' => ((l.any p = true → ∃ j : Nat, e = .returned (.int .i64 (j : Int))) ∧ (l.any p = false → e = .returned (.int .i64 (-1)))) ∧ Below w.heap.size w w' := by
  have HC := hide hcall
  obtain ⟨R, hR⟩ : ∃ R, R = l.any p := ⟨_, rfl⟩
  rw [← hR]
  have HR := hide hR
  clear hcall hR
  go_enter Try.func89, Try.ntmps89
  go_wp2
  go_loopw [8] (fun i wr => ∃ k : Nat, i = .int .i64 k ∧ k ≤ l.length ∧ Hid (R = (l.drop k).any p) ∧ Below w.heap.size w wr) (fun i _ => l.length - (intOf i).toNat)
  case atStart => exact ⟨0, rfl, by omega, HR.out, Below.refl _ _⟩
  case round =>
    obtain ⟨k, rfl, hk, hRk, hbr⟩ := hrel
    by_cases hlt : k < l.length
    · obtain ⟨b1, off1, x, rfl, hx, x0, x1, x2, x3, x4⟩ := h.getOp hbr hlt
      have hd := drop_at hx.out
      have hR2 := hRk.out
      rw [hd, List.any_cons] at hR2
      have hcx := fun w' hb => HC.out x w' (List.mem_of_getElem? hx.out) hb
      have HCX := hide hcx
      cases hp : p x with
      | true =>
        rw [hp] at hR2 HCX
        have HRT : Hid (R = true) := by show R = true; rw [hR2]; rfl
        clear hd hR2 hcx hx hp hRk
        go_wp2_with (go_at_call 82; ((with_reducible refine (HCX.out _ hbr).mono ?_); rintro e w1 ⟨rfl, hb1⟩))
        go_ret
        exact ⟨⟨fun _ => ⟨k, rfl⟩, fun h => by rw [HRT.out] at h; cases h⟩, hbr.trans (hb1.mono hbr.size)⟩
      | false =>
        rw [hp] at hR2 HCX
        have HR2 := hide hR2
        clear hd hR2 hcx hx hp hRk
        go_wp2_with (go_at_call 82; ((with_reducible refine (HCX.out _ hbr).mono ?_); rintro e w1 ⟨rfl, hb1⟩))
        go_roundw
        case rel => exact ⟨k + 1, by go_num, by omega, by show R = _; rw [HR2.out]; rfl, hbr.trans (hb1.mono hbr.size)⟩
        case measure => simp [intOf]; omega
    · obtain rfl : k = l.length := by omega
      have HRF : Hid (R = false) := by show R = false; rw [hRk.out, List.drop_eq_nil_of_le (by omega)]; rfl
      go_wp2
      go_ret
      exact ⟨⟨fun h => (by rw [HRF.out] at h; cases h), fun _ => rfl⟩, hbr⟩
theorem ContRegs (g : Nat) (p : OpD → Bool) (a : Option Addr) (c : Nat) (l : List OpD) (w : World) (h : At w a l) (hl : l.length ≤ 1000000)
    (hcall : ∀ (x : OpD) (w' : World), x ∈ l → Below w.heap.size w w' → Calls Try.prog 82 #[.agg #[.int .i64 x.kind, .int .i64 x.d, .int .i64 x.a, .int .i64 x.b, .int .u64 (x.v.toNat : Int)], .pointer (some ⟨g, 0, none⟩)] w' fun e w'' => e = .returned (.bool (p x)) ∧ Below w'.heap.size w' w'') :
    Calls Try.prog 81 #[.slice a l.length c, .func (.func 82) #[] #[.pointer (some ⟨g, 0, none⟩)]] w fun e w' => e = .returned (.bool (l.any p)) ∧ Below w.heap.size w w' := by
  have HI := hide (IndexRegs g p a c l w h hl hcall)
  clear hcall
  cases hp : l.any p with
  | true =>
    rw [hp] at HI
    clear hp
    go_enter Try.func81, Try.ntmps81
    go_wp2_with (go_at_call 89; ((with_reducible refine (HI.out).mono ?_); rintro e w1 ⟨⟨h1, h2⟩, hb1⟩; obtain ⟨j, rfl⟩ := h1 rfl; clear h1 h2))
    go_ret
    exact ⟨by simp, hb1⟩
  | false =>
    rw [hp] at HI
    clear hp
    go_enter Try.func81, Try.ntmps81
    go_wp2_with (go_at_call 89; ((with_reducible refine (HI.out).mono ?_); rintro e w1 ⟨⟨h1, h2⟩, hb1⟩; obtain rfl := h2 rfl; clear h1 h2))
    go_ret
    exact ⟨by simp, hb1⟩
theorem regsB_any (regs : Int) (l : List OpD) : regsB regs l = (decide (1 ≤ regs) && decide (regs ≤ 64) && !(l.any (offB regs))) := by
  unfold regsB
  congr 1
  induction l with
  | nil => rfl
  | cons x r ih => simp [ih]
set_option maxHeartbeats 800000 in
theorem registers_calls (regs : Int) (a : Option Addr) (c : Nat) (l : List OpD) (w : World) (h : At w a l) (hl : l.length ≤ 1000000) :
    Calls Try.prog 72 #[.agg #[.int .i64 regs, .slice a l.length c]] w fun e w' => e = .returned (.int .i64 (if regsB regs l = true then 0 else 7)) ∧ Below w.heap.size w w' := by
  have hX := Blk.new w 87 #[.int .i64 regs, .slice a l.length c]
  have hb1 : Below w.heap.size w (w.alloc (.cells #[.int .i64 regs, .slice a l.length c] 87)) := Below.alloc (Below.refl _ _) (Nat.le_refl _) _
  obtain ⟨R, hR⟩ : ∃ R, R = regsB regs l := ⟨_, rfl⟩
  have hR2 := hR.trans (regsB_any regs l)
  rw [← hR]
  have HF := hide (fun n w => fail_calls true n w)
  have HF0 := hide (fun n w => fail_calls false n w)
  have HC := hide (fun w' (g : At w' a l) (g2 : Blk w' w.heap.size 87 #[.int .i64 regs, .slice a l.length c]) => ContRegs w.heap.size (offB regs) a c l w' g hl (fun x w2 _ hb => reg1_calls regs w.heap.size _ x w2 (g2.belowN hb)))
  obtain ⟨Y, hY⟩ : ∃ Y, Y = l.any (offB regs) := ⟨_, rfl⟩
  rw [← hY] at hR2 HC
  have HR := hide hR2
  obtain ⟨V, hV⟩ : ∃ V : Int, V = if R = true then 0 else 7 := ⟨_, rfl⟩
  rw [← hV]
  have HV := hide hV
  clear hR hR2 hY hV
  by_cases h1 : regs < 1
  · have hRf : Hid (R = false) := by show R = false; rw [HR.out]; simp; omega
    have d1 : decide (regs < 1) = true := by simp; omega
    go_enter Try.func72, Try.ntmps72
    go_wp2_with (go_at_call 80; ((with_reducible refine (HF.out _ _).mono ?_); rintro e w2 ⟨rfl, rfl⟩))
    go_ret
    exact ⟨by rw [HV.out, hRf.out] <;> rfl, hb1⟩
  have d1 : decide (regs < 1) = false := by simp; omega
  by_cases h2 : 64 < regs
  · have hRf : Hid (R = false) := by show R = false; rw [HR.out]; simp; omega
    have d2 : decide (64 < regs) = true := by simp; omega
    go_enter Try.func72, Try.ntmps72
    go_wp2_with (go_at_call 80; ((with_reducible refine (HF.out _ _).mono ?_); rintro e w2 ⟨rfl, rfl⟩))
    go_ret
    exact ⟨by rw [HV.out, hRf.out] <;> rfl, hb1⟩
  have d2 : decide (64 < regs) = false := by simp; omega
  have hRy : Hid (R = !Y) := by show R = _; rw [HR.out]; simp; omega
  have hz : (w.alloc (.cells #[.int .i64 regs, .slice a l.length c] 87)).heap.size = w.heap.size + 1 := by simp
  have HZ := hide hz
  clear hz
  cases Y
  all_goals
    go_enter Try.func72, Try.ntmps72
    go_wp2_with (first
      | (go_at_call 81; ((with_reducible refine (HC.out _ (h.belowN hb1) hX).mono ?_); rintro e w2 ⟨rfl, hb2⟩; rw [HZ.out] at hb2))
      | (go_at_call 80; first | ((with_reducible refine (HF.out _ _).mono ?_); rintro e w3 ⟨rfl, rfl⟩) | ((with_reducible refine (HF0.out _ _).mono ?_); rintro e w3 ⟨rfl, rfl⟩)))
    go_ret
    exact ⟨by rw [HV.out, hRy.out] <;> rfl, hb1.trans (hb2.mono (by omega))⟩
end Go.Proofs.Ytoklehndfncmnaa
