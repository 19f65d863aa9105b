/- Chapter 5: the law WordsReads. -/
import Derived.Test.YtgakjkeigoiekaaW5i
namespace Go.Proofs.Ytgakjkeigoiekaa
set_option linter.unusedVariables false
set_option linter.unusedSimpArgs false
open Go.RowKit

theorem wS_of (l : List UInt64) (p : Nat) (e : Int) (hp : p ≤ l.length) : wS (l.drop p) e = ((wordS l p e).1, l.drop (wordS l p e).2.1, (wordS l p e).2.2) := by
  unfold wS wordS
  by_cases he : e = 0
  · rw [if_pos he, if_pos he]
    by_cases h : p < l.length
    · rw [List.drop_eq_getElem_cons h, List.getElem?_eq_getElem h]
    · rw [List.drop_eq_nil_of_le (by omega), List.getElem?_eq_none (by omega)]
      simp
      omega
  · rw [if_neg he, if_neg he]
theorem iS_of (l : List UInt64) (p : Nat) (e most : Int) (hp : p ≤ l.length) : iS (l.drop p) e most = ((intS l p e most).1, l.drop (intS l p e most).2.1, (intS l p e most).2.2) := by
  unfold iS intS wordS
  by_cases he : e = 0
  · rw [if_pos he, if_pos he]
    by_cases h : p < l.length
    · rw [List.drop_eq_getElem_cons h, List.getElem?_eq_getElem h]
      by_cases hm : most < 0 ∨ most < l[p].toNat <;> simp [hm]
    · rw [List.drop_eq_nil_of_le (by omega), List.getElem?_eq_none (by omega)]
      simp
      omega
  · simp [he]
theorem lS_of (l : List UInt64) (p : Nat) (e most : Int) (hp : p ≤ l.length) : lS (l.drop p) e most = ((listS l p e most).1, l.drop (listS l p e most).2.1, (listS l p e most).2.2) := by
  unfold lS listS intS wordS
  by_cases he : e = 0
  · rw [if_pos he, if_pos he]
    by_cases h : p < l.length
    · rw [List.drop_eq_getElem_cons h, List.getElem?_eq_getElem h]
      by_cases hm : most < 0 ∨ most < l[p].toNat
      · simp [hm]
      · by_cases hx : l.length - (p + 1) < l[p].toNat <;> simp [hm, hx]
    · rw [List.drop_eq_nil_of_le (by omega), List.getElem?_eq_none (by omega)]
      simp
      omega
  · simp [he]
theorem listS_at (l : List UInt64) (p : Nat) (e most : Int) (h : p ≤ l.length) : (listS l p e most).2.1 ≤ l.length ∧ (listS l p e most).1.length ≤ l.length := by
  have h1 := intS_at l p e most h
  unfold listS
  split
  · split
    · exact ⟨h, by simp⟩
    · refine ⟨by simp; omega, by simp; omega⟩
  · exact ⟨h1.1, by simp⟩
theorem quiet_of_left {P : Program} {f : FuncId} {args : Array Value} {w : World} {n : Nat} {v : Value}
    (h : Calls P f args (w.drewN n) fun e w' => e = .returned v ∧ w.drewN n = w') : Calls P f args (w.drewN n) fun e w'' => e = .returned v ∧ ∃ m, w'' = w.drewN m :=
  h.mono fun _ _ ⟨he, hm⟩ => ⟨he, n, hm.symm⟩
theorem quiet_add_left {P : Program} {f : FuncId} {args : Array Value} {w : World} {a n : Nat} {v : Value}
    (h : Calls P f args (w.drewN (a + n)) fun e w' => e = .returned v ∧ w.drewN (a + n) = w') : Calls P f args (w.drewN (a + n)) fun e w'' => e = .returned v ∧ ∃ m, w'' = w.drewN (a + m) :=
  h.mono fun _ _ ⟨he, hm⟩ => ⟨he, n, hm.symm⟩
theorem endS_err (r : List UInt64) (e : Int) (he : e ≠ 0) : endS r e = e := by simp [endS, he]

theorem Rdr.setFar {w : World} {rb : Nat} {ab : Option Nat} {r : List UInt64} {e : Int} (h : Rdr w rb ab r e) {p : Addr} (h1 : p.block ≠ rb) (h2 : ab ≠ some p.block) (u : Value) : Rdr (w.setCell p u) rb ab r e :=
  h.keep (Below.heap_setCell _ _ _ _ (fun e => h1 e.symm)) (fun k hk => Below.heap_setCell _ _ _ _ (fun e => h2 (by rw [hk, e])))
theorem Rdr.abLt {w : World} {rb : Nat} {ab : Option Nat} {r : List UInt64} {e : Int} (h : Rdr w rb ab r e) (hb : ∀ k, ab = some k → k < w.heap.size) {w' : World} (hB : Below w.heap.size w w') : Rdr w' rb ab r e :=
  h.keep (hB.block _ h.lt) (fun k hk => hB.block _ (hb k hk))

section
variable {w : World} {rb : Nat} {ab : Option Nat} {l : List UInt64} {p p' : Nat} {e e' : Int}
theorem Word_of {x : UInt64} (hof : wS (l.drop p) e = (x, l.drop p', e')) (h : Rdr w rb ab (l.drop p) e) (hl : l.length ≤ 1000000000) :
    Calls Try.prog 38 #[.pointer (some ⟨rb, 0, none⟩)] w fun o w' => o = .returned (.int .u64 (x.toNat : Int)) ∧ Rdr w' rb ab (l.drop p') e' ∧ w.grownBy w' (some rb) := by
  have := Word_calls h (by simp; omega)
  rw [hof] at this
  exact this
theorem Int_of {x most : Int} (hof : iS (l.drop p) e most = (x, l.drop p', e')) (h : Rdr w rb ab (l.drop p) e) (hl : l.length ≤ 1000000000) (hm1 : -9223372036854775808 ≤ most) (hm2 : most ≤ 9223372036854775807) :
    Calls Try.prog 39 #[.pointer (some ⟨rb, 0, none⟩), .int .i64 most] w fun o w' => o = .returned (.int .i64 x) ∧ Rdr w' rb ab (l.drop p') e' ∧ w.grownBy w' (some rb) := by
  have := Int_calls most h (by simp; omega) hm1 hm2
  rw [hof] at this
  exact this
theorem List_of {x : List UInt64} {most : Int} (hof : lS (l.drop p) e most = (x, l.drop p', e')) (h : Rdr w rb ab (l.drop p) e) (hl : l.length ≤ 1000000000) (hm1 : -9223372036854775808 ≤ most) (hm2 : most ≤ 9223372036854775807) :
    Calls Try.prog 22 #[.pointer (some ⟨rb, 0, none⟩), .int .i64 most] w fun o w' => ∃ a1 c1, o = .returned (.slice a1 x.length c1) ∧ Own w' w.heap.size 38 a1 c1 x ∧ Rdr w' rb ab (l.drop p') e' ∧ w.grownBy w' (some rb) := by
  have := List_calls most h (by simp; omega) hm1 hm2
  rw [hof] at this
  exact this
theorem Left_of (h : Rdr w rb ab (l.drop p) e) (hp : p ≤ l.length) : Calls Try.prog 36 #[.pointer (some ⟨rb, 0, none⟩)] w fun o w' => o = .returned (.int .i64 ((l.length : Int) - p)) ∧ w = w' := by
  have := Left_calls h
  rw [show ((l.drop p).length : Int) = (l.length : Int) - p by simp; omega] at this
  exact this
theorem End_of {v : Int} (h : Rdr w rb ab (l.drop p) e) (hv : endS (l.drop p) e = v) : Calls Try.prog 37 #[.pointer (some ⟨rb, 0, none⟩)] w fun o w' => o = .returned (.int .i64 v) ∧ w = w' := by
  rw [← hv]
  exact End_calls h
end


set_option maxRecDepth 100000 in
set_option maxHeartbeats 3200000 in
theorem WordsReads_calls (b a : Option Addr) (cb ca : Nat) (l : List UInt64) (asks : List (Int × Int)) (w : World) (hb : At w b l) (h : At w a asks) (hl2 : l.length ≤ 9223372036854775807) (hl : asks.length ≤ 9223372036854775807)
    (hm : ∀ x ∈ asks, -9223372036854775808 ≤ x.2 ∧ x.2 ≤ 9223372036854775807) :
    Calls Try.prog 12 #[.slice b l.length cb, .slice a asks.length ca] w fun e w' => e = .returned (.bool true) ∧ Below w.heap.size w w' := by
  have HM := hide hm
  clear hm
  by_cases hS : l.length ≤ 300 ∧ asks.length ≤ 60
  · obtain ⟨hS1, hS2⟩ := hS
    go_enter Try.func12, Try.ntmps12
    go_wp2_with (go_at_call 21; (with_reducible refine (New_calls _ _ _ _ l rfl hb (by omega)).mono ?_); rintro e w6 ⟨rb, ab, rfl, hR6, hbel6, hrb, hab⟩; have hs6 := hbel6.size; have HAB := hide hab)
    go_loopw [7] (fun i wr => ∃ (k p : Nat) (e : Int), k ≤ asks.length ∧ i = .int .i64 k ∧ p ≤ l.length ∧ Blk wr w6.heap.size 77 #[.slice b l.length cb, .int .i64 (p : Int), .int .i64 e] ∧ Rdr wr rb ab (l.drop p) e ∧ Below w.heap.size w wr ∧ w6.heap.size + 1 ≤ wr.heap.size) (fun i _ => asks.length - (intOf i).toNat)
    case atStart => exact ⟨0, 0, 0, by omega, rfl, by omega, Blk.new _ _ _, hR6.keep (Below.heap_alloc _ _ _ hR6.lt) (fun k hk => Below.heap_alloc _ _ _ (hab k hk).2), Below.alloc hbel6 hs6 _, by simp⟩
    case round =>
      obtain ⟨k, p, e, hk, rfl, hp, hblk, hR, hbel, hsz⟩ := hrel
      have hsr := hbel.size
      by_cases hlt : k < asks.length
      · obtain ⟨b1, off1, x, rfl, hx, hx1, hx2⟩ := h.getP hbel hlt
        have hmx := HM.out x (List.mem_of_getElem? hx.out)
        obtain ⟨kind, most⟩ := x
        simp only at hx1 hx2 hmx
        obtain ⟨hm1, hm2⟩ := hmx
        obtain ⟨q0, q1, q2, q3, q4, q5⟩ := hblk.c3
        have hz0 : w6.heap.size < wr.heap.size := by omega
        obtain hk0 | hk0 | hk0 : kind = 0 ∨ kind = 1 ∨ (kind ≠ 0 ∧ kind ≠ 1) := by omega
        · subst hk0
          have hWb := (hb.belowN hbel)
          have HW := hide (Word5_calls b cb l p e (wr.alloc (.cells #[.int .i64 0, .int .i64 most] 79)) (hWb.belowN (Below.alloc (Below.refl _ _) (Nat.le_refl _) _)) (by omega) hp)
          have hp1 := (wordS_at l p e hp).1
          have hxb := (wordS_at l p e hp).1
          have hof := wS_of l p e hp
          generalize hWS : wordS l p e = R at HW hp1 hof hxb
          obtain ⟨x, p', e'⟩ := R
          simp only at HW hp1 hof hxb
          have HOF := hide hof
          clear hof hWS
          have hne1 : w6.heap.size ≠ rb := by have := hR6.lt; omega
          have hne2 : ab ≠ some w6.heap.size := by intro e; have := (HAB.out _ e).2; omega
          have habr : ∀ k, ab = some k → k < wr.heap.size := by intro k hk; have := (HAB.out _ hk).2; omega
          have HABR := hide habr
          have hqB : w6.heap.size < (wr.alloc (.cells #[.int .i64 0, .int .i64 most] 79)).heap.size := by simp; omega
          clear habr
          have hend : ∃ v, endS (l.drop p') e' = v ∧ ((e' ≠ 0 ∧ v = e') ∨ (e' = 0 ∧ p' < l.length ∧ v = 21) ∨ (e' = 0 ∧ l.length ≤ p' ∧ v = 0)) := by
            refine ⟨_, rfl, ?_⟩
            by_cases he : e' = 0
            · by_cases hpl : p' < l.length
              · refine .inr (.inl ⟨he, hpl, ?_⟩)
                simp [endS, he]
                omega
              · refine .inr (.inr ⟨he, by omega, ?_⟩)
                simp [endS, he]
                omega
            · exact .inl ⟨he, endS_err _ _ he⟩
          obtain ⟨v, hv, hcase⟩ := hend
          have HV := hide hv
          clear hv
          rcases hcase with ⟨he, rfl⟩ | ⟨rfl, hpl, rfl⟩ | ⟨rfl, hpl, rfl⟩
          all_goals
            first | (have hd1 : (e' == 0) = false := by simpa using he) | skip
            first | (have hd2 : decide (p' < l.length) = true := by simpa using hpl) | (have hd2 : decide (p' < l.length) = false := by simp; omega) | skip
            go_wp2_with (first
              | (go_at_call 41; (with_reducible refine HW.out.mono ?_); rintro o w7 ⟨rfl, hb7⟩; have hs7 := hb7.size; simp only [World.size_alloc] at hs7; have hz1 : w6.heap.size < w7.heap.size := (by omega); have QB := (hblk.alloc (.cells #[.int .i64 0, .int .i64 most] 79)).belowN hb7; obtain ⟨t0, t1, t2, t3, t4, t5⟩ := QB.c3; have XB := (Blk.new wr 79 #[.int .i64 0, .int .i64 most]).belowN hb7; obtain ⟨y0, y1, y2, y3⟩ := XB.c2; have hz2 : wr.heap.size < w7.heap.size := (by omega); have hz3 : wr.heap.size ≠ w6.heap.size := (by omega); have hz4 : w6.heap.size ≠ wr.heap.size := (by omega); have hR7 := (hR.abLt HABR.out (Below.alloc (Below.refl _ _) (Nat.le_refl _) _)).abLt (fun k hk => by have := HABR.out k hk; simp; omega) hb7)
              
              | (go_at_call 38; (with_reducible refine (Word_of HOF.out (Rdr.abLt (Rdr.setFar (Rdr.setFar (Rdr.setFar hR7 hne1 hne2 _) hne1 hne2 _) hne1 hne2 _) (fun k hk => by have := HABR.out k hk; simp; omega) (Below.alloc (Below.refl _ _) (Nat.le_refl _) _)) (by omega) ).mono ?_); rintro o w9 ⟨rfl, hR9, hg9⟩; have hs9 := hg9.size; simp only [World.size_alloc, World.size_setCell] at hs9; have hz9 : w6.heap.size < w9.heap.size := (by omega); have QB9 : Blk w9 w6.heap.size 77 #[.slice b l.length cb, .int .i64 (p' : Int), .int .i64 _] := (by simpa using ((((QB.set_ 0 (.slice b l.length cb)).set_ 1 (.int .i64 (p' : Int))).set_ 2 (.int .i64 _)).alloc _).grown hg9 (by simpa using hne1)); obtain ⟨s0, s1, s2, s3, s4, s5⟩ := QB9.c3))
            go_quiet ((first
              | (go_at_call 36; first | exact quiet_of_left (Left_of (hR9.drewN _) hp1) | exact quiet_add_left (Left_of (hR9.drewN _) hp1))
              | (go_at_call 40; first | exact quiet_of_left (Err_calls (hR9.drewN _)) | exact quiet_add_left (Err_calls (hR9.drewN _)))
              | (go_at_call 37; first | exact quiet_of_left (End_of (hR9.drewN _) HV.out) | exact quiet_add_left (End_of (hR9.drewN _) HV.out))))
            go_wp2
            go_roundw
            case rel =>
              have hB7 : Below w.heap.size w w7 := (Below.alloc hbel hsr _).trans (hb7.mono (by simp; omega))
              have hB9 : Below w.heap.size w w9 := by
                refine Below.grown ?_ hg9 (by simp; omega) (fun k hk => by simp at hk; omega)
                exact Below.alloc (Below.setCell (Below.setCell (Below.setCell hB7 hs6 _) hs6 _) hs6 _) (by simp; omega) _
              exact ⟨k + 1, p', _, by omega, by go_num, hp1, QB9.drewN _, hR9.drewN _, below_drewN hB9 _, by simp; omega⟩
            case measure => simp [intOf]; omega
        · subst hk0
          have hWb := (hb.belowN hbel)
          have HW := hide (Int5_calls b cb l p e most (wr.alloc (.cells #[.int .i64 1, .int .i64 most] 79)) (hWb.belowN (Below.alloc (Below.refl _ _) (Nat.le_refl _) _)) (by omega) hp hm1 hm2)
          have hp1 := (intS_at l p e most hp).1
          have hxb := (intS_at l p e most hp).1
          have hof := iS_of l p e most hp
          generalize hWS : intS l p e most = R at HW hp1 hof hxb
          obtain ⟨x, p', e'⟩ := R
          simp only at HW hp1 hof hxb
          have HOF := hide hof
          clear hof hWS
          have hne1 : w6.heap.size ≠ rb := by have := hR6.lt; omega
          have hne2 : ab ≠ some w6.heap.size := by intro e; have := (HAB.out _ e).2; omega
          have habr : ∀ k, ab = some k → k < wr.heap.size := by intro k hk; have := (HAB.out _ hk).2; omega
          have HABR := hide habr
          have hqB : w6.heap.size < (wr.alloc (.cells #[.int .i64 1, .int .i64 most] 79)).heap.size := by simp; omega
          clear habr
          have hend : ∃ v, endS (l.drop p') e' = v ∧ ((e' ≠ 0 ∧ v = e') ∨ (e' = 0 ∧ p' < l.length ∧ v = 21) ∨ (e' = 0 ∧ l.length ≤ p' ∧ v = 0)) := by
            refine ⟨_, rfl, ?_⟩
            by_cases he : e' = 0
            · by_cases hpl : p' < l.length
              · refine .inr (.inl ⟨he, hpl, ?_⟩)
                simp [endS, he]
                omega
              · refine .inr (.inr ⟨he, by omega, ?_⟩)
                simp [endS, he]
                omega
            · exact .inl ⟨he, endS_err _ _ he⟩
          obtain ⟨v, hv, hcase⟩ := hend
          have HV := hide hv
          clear hv
          rcases hcase with ⟨he, rfl⟩ | ⟨rfl, hpl, rfl⟩ | ⟨rfl, hpl, rfl⟩
          all_goals
            first | (have hd1 : (e' == 0) = false := by simpa using he) | skip
            first | (have hd2 : decide (p' < l.length) = true := by simpa using hpl) | (have hd2 : decide (p' < l.length) = false := by simp; omega) | skip
            go_wp2_with (first
              | (go_at_call 42; (with_reducible refine HW.out.mono ?_); rintro o w7 ⟨rfl, hb7⟩; have hs7 := hb7.size; simp only [World.size_alloc] at hs7; have hz1 : w6.heap.size < w7.heap.size := (by omega); have QB := (hblk.alloc (.cells #[.int .i64 1, .int .i64 most] 79)).belowN hb7; obtain ⟨t0, t1, t2, t3, t4, t5⟩ := QB.c3; have XB := (Blk.new wr 79 #[.int .i64 1, .int .i64 most]).belowN hb7; obtain ⟨y0, y1, y2, y3⟩ := XB.c2; have hz2 : wr.heap.size < w7.heap.size := (by omega); have hz3 : wr.heap.size ≠ w6.heap.size := (by omega); have hz4 : w6.heap.size ≠ wr.heap.size := (by omega); have hR7 := (hR.abLt HABR.out (Below.alloc (Below.refl _ _) (Nat.le_refl _) _)).abLt (fun k hk => by have := HABR.out k hk; simp; omega) hb7)
              
              | (go_at_call 39; (with_reducible refine (Int_of HOF.out (Rdr.abLt (Rdr.setFar (Rdr.setFar (Rdr.setFar hR7 hne1 hne2 _) hne1 hne2 _) hne1 hne2 _) (fun k hk => by have := HABR.out k hk; simp; omega) (Below.alloc (Below.refl _ _) (Nat.le_refl _) _)) (by omega) hm1 hm2).mono ?_); rintro o w9 ⟨rfl, hR9, hg9⟩; have hs9 := hg9.size; simp only [World.size_alloc, World.size_setCell] at hs9; have hz9 : w6.heap.size < w9.heap.size := (by omega); have QB9 : Blk w9 w6.heap.size 77 #[.slice b l.length cb, .int .i64 (p' : Int), .int .i64 _] := (by simpa using ((((QB.set_ 0 (.slice b l.length cb)).set_ 1 (.int .i64 (p' : Int))).set_ 2 (.int .i64 _)).alloc _).grown hg9 (by simpa using hne1)); obtain ⟨s0, s1, s2, s3, s4, s5⟩ := QB9.c3))
            go_quiet ((first
              | (go_at_call 36; first | exact quiet_of_left (Left_of (hR9.drewN _) hp1) | exact quiet_add_left (Left_of (hR9.drewN _) hp1))
              | (go_at_call 40; first | exact quiet_of_left (Err_calls (hR9.drewN _)) | exact quiet_add_left (Err_calls (hR9.drewN _)))
              | (go_at_call 37; first | exact quiet_of_left (End_of (hR9.drewN _) HV.out) | exact quiet_add_left (End_of (hR9.drewN _) HV.out))))
            go_wp2
            go_roundw
            case rel =>
              have hB7 : Below w.heap.size w w7 := (Below.alloc hbel hsr _).trans (hb7.mono (by simp; omega))
              have hB9 : Below w.heap.size w w9 := by
                refine Below.grown ?_ hg9 (by simp; omega) (fun k hk => by simp at hk; omega)
                exact Below.alloc (Below.setCell (Below.setCell (Below.setCell hB7 hs6 _) hs6 _) hs6 _) (by simp; omega) _
              exact ⟨k + 1, p', _, by omega, by go_num, hp1, QB9.drewN _, hR9.drewN _, below_drewN hB9 _, by simp; omega⟩
            case measure => simp [intOf]; omega
        · obtain ⟨hk0, hk1⟩ := hk0
          have hk0' : (kind == 0) = false := by simpa using hk0
          have hk1' : (kind == 1) = false := by simpa using hk1
          clear hk0 hk1
          have hWb := (hb.belowN hbel)
          have HW := hide (List5_calls b cb l p e most (wr.alloc (.cells #[.int .i64 kind, .int .i64 most] 79)) (hWb.belowN (Below.alloc (Below.refl _ _) (Nat.le_refl _) _)) (by omega) hp hm1 hm2)
          have hp1 := (listS_at l p e most hp).1
          have hxb := (listS_at l p e most hp).2
          have hof := lS_of l p e most hp
          generalize hWS : listS l p e most = R at HW hp1 hof hxb
          obtain ⟨x, p', e'⟩ := R
          simp only at HW hp1 hof hxb
          have HOF := hide hof
          clear hof hWS
          have hne1 : w6.heap.size ≠ rb := by have := hR6.lt; omega
          have hne2 : ab ≠ some w6.heap.size := by intro e; have := (HAB.out _ e).2; omega
          have habr : ∀ k, ab = some k → k < wr.heap.size := by intro k hk; have := (HAB.out _ hk).2; omega
          have HABR := hide habr
          have hqB : w6.heap.size < (wr.alloc (.cells #[.int .i64 kind, .int .i64 most] 79)).heap.size := by simp; omega
          clear habr
          have hend : ∃ v, endS (l.drop p') e' = v ∧ ((e' ≠ 0 ∧ v = e') ∨ (e' = 0 ∧ p' < l.length ∧ v = 21) ∨ (e' = 0 ∧ l.length ≤ p' ∧ v = 0)) := by
            refine ⟨_, rfl, ?_⟩
            by_cases he : e' = 0
            · by_cases hpl : p' < l.length
              · refine .inr (.inl ⟨he, hpl, ?_⟩)
                simp [endS, he]
                omega
              · refine .inr (.inr ⟨he, by omega, ?_⟩)
                simp [endS, he]
                omega
            · exact .inl ⟨he, endS_err _ _ he⟩
          obtain ⟨v, hv, hcase⟩ := hend
          have HV := hide hv
          clear hv
          rcases hcase with ⟨he, rfl⟩ | ⟨rfl, hpl, rfl⟩ | ⟨rfl, hpl, rfl⟩
          all_goals
            first | (have hd1 : (e' == 0) = false := by simpa using he) | skip
            first | (have hd2 : decide (p' < l.length) = true := by simpa using hpl) | (have hd2 : decide (p' < l.length) = false := by simp; omega) | skip
            go_wp2_with (first
              | (go_at_call 43; (with_reducible refine HW.out.mono ?_); rintro o w7 ⟨a7, c7, rfl, hown7, hb7⟩; have hs7 := hb7.size; simp only [World.size_alloc] at hs7; have hz1 : w6.heap.size < w7.heap.size := (by omega); have QB := (hblk.alloc (.cells #[.int .i64 kind, .int .i64 most] 79)).belowN hb7; obtain ⟨t0, t1, t2, t3, t4, t5⟩ := QB.c3; have XB := (Blk.new wr 79 #[.int .i64 kind, .int .i64 most]).belowN hb7; obtain ⟨y0, y1, y2, y3⟩ := XB.c2; have hz2 : wr.heap.size < w7.heap.size := (by omega); have hz3 : wr.heap.size ≠ w6.heap.size := (by omega); have hz4 : w6.heap.size ≠ wr.heap.size := (by omega); have hR7 := (hR.abLt HABR.out (Below.alloc (Below.refl _ _) (Nat.le_refl _) _)).abLt (fun k hk => by have := HABR.out k hk; simp; omega) hb7)
              | (go_at_call 17; (with_reducible refine (Same5_calls _ _ _ _ x _ hown9.at_ (Own.at_ (Own.grown (Own.alloc (Own.setCell (Own.setCell (Own.setCell hown7 hqB _) hqB _) hqB _) _) hg9 (Or.inr (fun e => by have := (hown7.blk _ e).1; have := hR.lt; simp at *; omega)))) (by omega)).mono ?_); rintro e w10 ⟨rfl, q10, rfl⟩)
              | (go_at_call 22; (with_reducible refine (List_of HOF.out (Rdr.abLt (Rdr.setFar (Rdr.setFar (Rdr.setFar hR7 hne1 hne2 _) hne1 hne2 _) hne1 hne2 _) (fun k hk => by have := HABR.out k hk; simp; omega) (Below.alloc (Below.refl _ _) (Nat.le_refl _) _)) (by omega) hm1 hm2).mono ?_); rintro o w9 ⟨a9, c9, rfl, hown9, hR9, hg9⟩; have hs9 := hg9.size; simp only [World.size_alloc, World.size_setCell] at hs9; have hz9 : w6.heap.size < w9.heap.size := (by omega); have QB9 : Blk w9 w6.heap.size 77 #[.slice b l.length cb, .int .i64 (p' : Int), .int .i64 _] := (by simpa using ((((QB.set_ 0 (.slice b l.length cb)).set_ 1 (.int .i64 (p' : Int))).set_ 2 (.int .i64 _)).alloc _).grown hg9 (by simpa using hne1)); obtain ⟨s0, s1, s2, s3, s4, s5⟩ := QB9.c3))
            go_quiet ((first
              | (go_at_call 36; first | exact quiet_of_left (Left_of (hR9.drewN _) hp1) | exact quiet_add_left (Left_of (hR9.drewN _) hp1))
              | (go_at_call 40; first | exact quiet_of_left (Err_calls (hR9.drewN _)) | exact quiet_add_left (Err_calls (hR9.drewN _)))
              | (go_at_call 37; first | exact quiet_of_left (End_of (hR9.drewN _) HV.out) | exact quiet_add_left (End_of (hR9.drewN _) HV.out))))
            go_wp2
            go_roundw
            case rel =>
              have hB7 : Below w.heap.size w w7 := (Below.alloc hbel hsr _).trans (hb7.mono (by simp; omega))
              have hB9 : Below w.heap.size w w9 := by
                refine Below.grown ?_ hg9 (by simp; omega) (fun k hk => by simp at hk; omega)
                exact Below.alloc (Below.setCell (Below.setCell (Below.setCell hB7 hs6 _) hs6 _) hs6 _) (by simp; omega) _
              exact ⟨k + 1, p', _, by omega, by go_num, hp1, QB9.drewN _, hR9.drewN _, below_drewN hB9 _, by simp; omega⟩
            case measure => simp [intOf]; omega
      · go_wp2_with (go_at_call 14; refine (goes5_calls _).mono ?_; rintro e w8 ⟨rfl, hbel8⟩)
        go_ret
        exact ⟨rfl, hbel.trans (hbel8.mono hsr)⟩
  · by_cases hl3 : l.length ≤ 300
    · have hl4 : ¬ asks.length ≤ 60 := by omega
      clear hS
      go_enter Try.func12, Try.ntmps12
      go_wp2_with (go_at_call 14; refine (goes5_calls _).mono ?_; rintro e w8 ⟨rfl, hbel8⟩)
      go_ret
      exact ⟨rfl, hbel8⟩
    · clear hS
      go_enter Try.func12, Try.ntmps12
      go_wp2_with (go_at_call 14; refine (goes5_calls _).mono ?_; rintro e w8 ⟨rfl, hbel8⟩)
      go_ret
      exact ⟨rfl, hbel8⟩
end Go.Proofs.Ytgakjkeigoiekaa
