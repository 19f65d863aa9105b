/- Chapter 10: all looks, in their order, at some programs. -/
import Derived.Test.YtoklehndfncmnaaC10a
namespace Go.Proofs.Ytoklehndfncmnaa
set_option linter.unusedVariables false
set_option linter.unusedSimpArgs false
open Go.RowKit

/-- the look of a number, at a program -/
def lookV (regs : Int) (sl : Value) (i : Nat) : Value :=
  if i = 0 then .func (.func 71) #[.agg #[.int .i64 regs, sl]] #[] else if i = 1 then .func (.func 72) #[.agg #[.int .i64 regs, sl]] #[]
  else if i = 2 then .func (.func 73) #[.agg #[.int .i64 regs, sl]] #[] else .func (.func 74) #[.agg #[.int .i64 regs, sl]] #[]
def lookA (regs : Int) (sl : Value) : Array Value := #[lookV regs sl 0, lookV regs sl 1, lookV regs sl 2, lookV regs sl 3]
theorem looks_calls (regs : Int) (sl : Value) (w : World) : Calls Try.prog 61 #[.agg #[.int .i64 regs, sl]] w fun e w' =>
    ∃ g, e = .returned (.slice (some ⟨g, 0, none⟩) 4 4) ∧ w.heap.size ≤ g ∧ Blk w' g 108 (lookA regs sl) ∧ Below w.heap.size w w' := by
  go_enter Try.func61, Try.ntmps61
  go_wp2
  go_ret
  exact ⟨w.heap.size + 1, rfl, by omega, by have := Blk.new (w.alloc (.cells #[.int .i64 regs, sl] 87)) 108 (lookA regs sl); simp at this; exact this, (by with_reducible repeat first | exact Below.refl _ _ | assumption | refine below_drewN ?_ _ | refine Below.drew ?_ | refine Below.alloc ?_ (by simp <;> omega) _ | refine Below.setCell ?_ (by simp <;> omega) _)⟩

/-- A program that lies somewhere: its registers, where its operations lie. -/
structure PrD where
  regs : Int
  a : Option Addr
  c : Nat
  l : List OpD
instance : Flat PrD := ⟨2, fun x => [.int .i64 x.regs, .slice x.a x.l.length x.c], fun _ => rfl, fun x u hu => by simp at hu; rcases hu with rfl | rfl <;> rfl, by decide⟩
def PrD.sl (p : PrD) : Value := .slice p.a p.l.length p.c
/-- what a look tells -/
def errI (i : Nat) (p : PrD) : Int := if i = 0 then (if formB p.l = true then 0 else 6) else if i = 1 then (if regsB p.regs p.l = true then 0 else 7) else if i = 2 then (if (deepS p.l).1 ≤ 8 then 0 else 8) else sizeE p.l
def rowE (i : Nat) : List PrD → Int
  | [] => 0
  | p :: r => if errI i p ≠ 0 then errI i p else rowE i r
def firstL (ps : List PrD) : List Nat → Int
  | [] => 0
  | i :: r => if rowE i ps ≠ 0 then rowE i ps else firstL ps r
def firstS (ps : List PrD) : Int := firstL ps [0, 1, 2, 3]

def LooksAt (w : World) (ao : Option Addr) (hs : List Hd) (ps : List PrD) : Prop :=
  hs.length = ps.length ∧ ∀ (j : Nat) (h : Hd) (p : PrD), hs[j]? = some h → ps[j]? = some p → ∃ g, h = ⟨some ⟨g, 0, none⟩, 4, 4⟩ ∧ Blk w g 108 (lookA p.regs p.sl) ∧ ao.map (·.block) ≠ some g
theorem LooksAt.nil (w : World) : LooksAt w none [] [] := ⟨rfl, fun j h p hh => by simp at hh⟩
theorem LooksAt.belowN {w w' : World} {ao : Option Addr} {hs : List Hd} {ps : List PrD} (h : LooksAt w ao hs ps) (hb : Below w.heap.size w w') : LooksAt w' ao hs ps :=
  ⟨h.1, fun j hd p h1 h2 => let ⟨g, e1, e2, e3⟩ := h.2 j hd p h1 h2; ⟨g, e1, e2.belowN hb, e3⟩⟩
theorem LooksAt.push {w w' : World} {ao ao' : Option Addr} {hs : List Hd} {ps : List PrD} {p : PrD} {g : Nat} (h : LooksAt w ao hs ps) (hg : Blk w g 108 (lookA p.regs p.sl)) (hne : ao.map (·.block) ≠ some g)
    (hw : w.grownBy w' (ao.map (·.block))) (hm : ao'.map (·.block) = ao.map (·.block) ∨ ∃ g', ao'.map (·.block) = some g' ∧ w.heap.size ≤ g') : LooksAt w' ao' (hs ++ [⟨some ⟨g, 0, none⟩, 4, 4⟩]) (ps ++ [p]) := by
  have far : ∀ g cs, Blk w g 108 cs → ao.map (·.block) ≠ some g → ao'.map (·.block) ≠ some g := by
    intro g cs hb hn
    rcases hm with e | ⟨g', e, hle⟩
    · rw [e]; exact hn
    · rw [e]; have := hb.lt; simp; omega
  refine ⟨by simp [h.1], fun j hd q h1 h2 => ?_⟩
  by_cases hj : j < hs.length
  · rw [List.getElem?_append_left hj] at h1
    rw [List.getElem?_append_left (by rw [← h.1]; exact hj)] at h2
    obtain ⟨g1, e1, e2, e3⟩ := h.2 j hd q h1 h2
    exact ⟨g1, e1, e2.grown hw (fun e => e3 e.symm), far _ _ e2 e3⟩
  · have hj0 : j = hs.length := by have := (List.getElem?_eq_some_iff.1 h1).1; simp at this; omega
    subst hj0
    rw [List.getElem?_append_right (Nat.le_refl _), Nat.sub_self] at h1
    rw [h.1, List.getElem?_append_right (Nat.le_refl _), Nat.sub_self] at h2
    simp at h1 h2
    subst h1 h2
    exact ⟨g, rfl, hg.grown hw (fun e => hne e.symm), far _ _ hg hne⟩

theorem take_snoc' {α : Type} {l : List α} {k : Nat} {x : α} (h : l[k]? = some x) : l.take k ++ [x] = l.take (k + 1) := by rw [List.take_add_one, h]; rfl
theorem tyLooks : Ty Try.prog 105 106 Hd := Ty.of (z := .slice none 0 0) (size := 1) (bytes := 24) Try.underlying105 (by kernel_rfl) rfl (by decide) rfl
theorem At.getPr {w wr : World} {a : Option Addr} {l : List PrD} (h : At w a l) (hb : Below w.heap.size w wr) {k : Nat} (hk : k < l.length) :
    ∃ b off x, a = some ⟨b, off, none⟩ ∧ Hid (l[k]? = some x) ∧ wr.cell? ⟨b, off + k * 2, none⟩ = some (.int .i64 x.regs) ∧ wr.cell? ⟨b, off + k * 2 + 1, none⟩ = some (.slice x.a x.l.length x.c) := by
  obtain ⟨b, off, x, e, hx, hc⟩ := (h.belowN hb).get hk
  exact ⟨b, off, x, e, hx, hc 0 _ rfl, hc 1 _ rfl⟩
theorem At.getHd {w wr : World} {a : Option Addr} {l : List Hd} (h : At w a l) (hb : Below w.heap.size w wr) {k : Nat} (hk : k < l.length) :
    ∃ b off x, a = some ⟨b, off, none⟩ ∧ Hid (l[k]? = some x) ∧ wr.cell? ⟨b, off + k, none⟩ = some (.slice x.a x.n x.c) := by
  obtain ⟨b, off, x, e, hx, hc⟩ := (h.belowN hb).get hk
  have := hc 0 _ rfl
  exact ⟨b, off, x, e, hx, by simpa [Flat.n] using this⟩

set_option maxRecDepth 100000 in
set_option maxHeartbeats 3200000 in
theorem first_calls (ap : Option Addr) (cp : Nat) (ps : List PrD) (w : World) (h : At w ap ps) (hn : ps.length ≤ 1000) (hp : ∀ p ∈ ps, At w p.a p.l ∧ p.l.length ≤ 1000000) :
    Calls Try.prog 47 #[.slice ap ps.length cp] w fun e w' => e = .returned (.int .i64 (firstS ps)) ∧ Below w.heap.size w w' := by
  obtain ⟨R, hR⟩ : ∃ R, R = firstS ps := ⟨_, rfl⟩
  rw [← hR]
  have HR := hide hR
  have HP := hide hp
  clear hR hp
  go_enter Try.func47, Try.ntmps47
  go_wp2
  go_loopw [3, 12] (fun al i wr => ∃ (k : Nat) (ao : Option Addr) (co : Nat) (hs : List Hd), i = .int .i64 k ∧ k ≤ ps.length ∧ al = .slice ao k co ∧ Hid (hs.length = k) ∧ Own wr w.heap.size 106 ao co hs ∧ Hid (LooksAt wr ao hs (ps.take k)) ∧ Below w.heap.size w wr) (fun _ i _ => ps.length - (intOf i).toNat)
  case atStart => exact ⟨0, none, 0, [], rfl, by omega, rfl, rfl, Own.none _ _ _, hide (LooksAt.nil _), Below.refl _ _⟩
  case round =>
    obtain ⟨k, ao, co, hs, rfl, hk, rfl, hhs, hown, hla, hbr⟩ := hrel
    have hzr := hbr.size
    by_cases hlt : k < ps.length
    · obtain ⟨b1, off1, x, rfl, hx, x0, x1⟩ := h.getPr hbr hlt
      have HT := hide (take_snoc' hx.out)
      have hown0 : Own (wr.alloc (.cells #[.int .i64 x.regs, .slice x.a x.l.length x.c] 87)) w.heap.size 106 ao co hs := hown.alloc _
      have hb0 : Below w.heap.size w (wr.alloc (.cells #[.int .i64 x.regs, .slice x.a x.l.length x.c] 87)) := hbr.alloc hzr _
      have hla0 : Hid (LooksAt (wr.alloc (.cells #[.int .i64 x.regs, .slice x.a x.l.length x.c] 87)) ao hs (ps.take k)) := hide (hla.out.belowN (Below.alloc (Below.refl _ _) (Nat.le_refl _) _))
      clear hx
      go_wp2_with (first
        | (go_at_call 61; ((with_reducible refine (looks_calls _ _ _).mono ?_); rintro e w1 ⟨g, rfl, hg, hblk, hb1⟩; have hown1 := hown0.belowN hb1; have hz1 := Nat.le_trans hb0.size hb1.size; have hla1 := hide (hla0.out.belowN hb1); have HBLK := hide hblk; clear hblk))
        | (at_builtin; refine wpList_push tyLooks hown1 (⟨some ⟨g, 0, none⟩, 4, 4⟩ : Hd) rfl rfl rfl rfl rfl rfl hhs.out.symm hz1 (by omega) ?_; intro a3 c3 w3 hown3 hg3 hm3))
      have hb2 := hb0.trans (hb1.mono hb0.size)
      go_roundw
      case rel =>
        refine ⟨k + 1, a3, c3, hs ++ [⟨some ⟨g, 0, none⟩, 4, 4⟩], by go_num, by omega, rfl, by show List.length _ = _; rw [List.length_append, hhs.out]; rfl, hown3, ?_, below_push hb2 hown1 hg3 hz1⟩
        show LooksAt _ _ _ _
        rw [← HT.out]
        exact hla1.out.push HBLK.out (fun e => by have := (hown0.blk g e).2; omega) hg3 hm3
      case measure => simp [intOf]; omega
    · obtain rfl : k = ps.length := by omega
      rw [List.take_length] at hla
      have hat := hown.at_
      clear hk hlt
      rename World => W1
      go_wp2
      go_loopw [22] (fun i w2 => ∃ k : Nat, i = .int .i64 k ∧ k ≤ 4 ∧ Hid (R = firstL ps ([0, 1, 2, 3].drop k)) ∧ Below W1.heap.size W1 w2) (fun i _ => 4 - (intOf i).toNat)
      case atStart => exact ⟨0, rfl, by omega, HR.out, Below.refl _ _⟩
      case round =>
        obtain ⟨k, rfl, hk, hRk, hb2⟩ := hrel
        have hz2 := hb2.size
        have hlp : ps.length ≤ 1000 := hn
        by_cases hlt : k < 4
        · have dk : decide ((k : Int) < 4) = true := by simp; omega
          go_wp2
          go_loopw [27] (fun i w3 => ∃ j : Nat, i = .int .i64 j ∧ j ≤ ps.length ∧ Hid (R = if rowE k (ps.drop j) ≠ 0 then rowE k (ps.drop j) else firstL ps ([0, 1, 2, 3].drop (k + 1))) ∧ Below W1.heap.size W1 w3) (fun i _ => ps.length - (intOf i).toNat)
          case atStart =>
            refine ⟨0, rfl, by omega, ?_, hb2⟩
            have h4 : k = 0 ∨ k = 1 ∨ k = 2 ∨ k = 3 := by omega
            show R = _
            rw [hRk.out]
            rcases h4 with rfl | rfl | rfl | rfl <;> rfl
          case round =>
            obtain ⟨j, rfl, hj, hRj, hb3⟩ := hrel
            have hz3 := hb3.size
            by_cases hjlt : j < ps.length
            · obtain ⟨b1, off1, hd, rfl, hhd, x0⟩ := hat.getHd hb3 (show j < hs.length by rw [hhs.out]; exact hjlt)
              have hpj := List.getElem?_eq_getElem hjlt
              obtain ⟨p, hp⟩ : ∃ p, p = ps[j] := ⟨_, rfl⟩
              rw [← hp] at hpj
              obtain ⟨g, rfl, hblk, _⟩ := hla.out.2 j hd p hhd.out hpj
              have hblk3 := hblk.belowN hb3
              obtain ⟨hpa, hpl⟩ := HP.out p (List.mem_of_getElem? hpj)
              have hpa3 := hpa.belowN (hbr.trans (hb3.mono hzr))
              have hd := drop_at hpj
              have hRj' := hRj.out
              rw [hd] at hRj'
              change R = (if (if errI k p ≠ 0 then errI k p else rowE k (ps.drop (j + 1))) ≠ 0 then (if errI k p ≠ 0 then errI k p else rowE k (ps.drop (j + 1))) else firstL ps ([0, 1, 2, 3].drop (k + 1))) at hRj'
              have HRJ := hide hRj'
              obtain ⟨E, hE⟩ : ∃ E, E = errI k p := ⟨_, rfl⟩
              have HE := hide hE
              have c0 : Hid (_ = some (lookV p.regs p.sl 0)) := hide (hblk3.cell_ (i := 0) (v := lookV p.regs p.sl 0) rfl)
              have c1 : Hid (_ = some (lookV p.regs p.sl 1)) := hide (hblk3.cell_ (i := 1) (v := lookV p.regs p.sl 1) rfl)
              have c2 : Hid (_ = some (lookV p.regs p.sl 2)) := hide (hblk3.cell_ (i := 2) (v := lookV p.regs p.sl 2) rfl)
              have c3 : Hid (_ = some (lookV p.regs p.sl 3)) := hide (hblk3.cell_ (i := 3) (v := lookV p.regs p.sl 3) rfl)
              clear hpj hp hhd hblk hblk3 hd hRj' hE hRj hRk
              have h4 : k = 0 ∨ k = 1 ∨ k = 2 ∨ k = 3 := by omega
              by_cases hE0 : E = 0
              ·
                rcases h4 with hk0 | hk0 | hk0 | hk0
                · have f0 : wr.cell? ⟨g, k, none⟩ = some (.func (.func 71) #[.agg #[.int .i64 p.regs, .slice p.a p.l.length p.c]] #[]) := by rw [hk0]; exact c0.out
                  have HF : Hid (Calls Try.prog 71 #[.agg #[.int .i64 p.regs, .slice p.a p.l.length p.c]] wr fun e w' => e = .returned (.int .i64 E) ∧ Below wr.heap.size wr w') := hide (by rw [HE.out, hk0]; exact form_calls p.regs p.a p.c p.l _ hpa3 hpl)
                  clear hk0
                  obtain rfl := hE0
                  go_wp2_with (go_at_call 71; ((with_reducible refine (HF.out).mono ?_); rintro e w4 ⟨rfl, hb4⟩))
                  go_roundw
                  case rel => exact ⟨j + 1, by go_num, by omega, hide (by rw [HRJ.out, ← HE.out]; simp), hb3.trans (hb4.mono hz3)⟩
                  case measure => simp [intOf]; omega
                · have f0 : wr.cell? ⟨g, k, none⟩ = some (.func (.func 72) #[.agg #[.int .i64 p.regs, .slice p.a p.l.length p.c]] #[]) := by rw [hk0]; exact c1.out
                  have HF : Hid (Calls Try.prog 72 #[.agg #[.int .i64 p.regs, .slice p.a p.l.length p.c]] wr fun e w' => e = .returned (.int .i64 E) ∧ Below wr.heap.size wr w') := hide (by rw [HE.out, hk0]; exact registers_calls p.regs p.a p.c p.l _ hpa3 hpl)
                  clear hk0
                  obtain rfl := hE0
                  go_wp2_with (go_at_call 72; ((with_reducible refine (HF.out).mono ?_); rintro e w4 ⟨rfl, hb4⟩))
                  go_roundw
                  case rel => exact ⟨j + 1, by go_num, by omega, hide (by rw [HRJ.out, ← HE.out]; simp), hb3.trans (hb4.mono hz3)⟩
                  case measure => simp [intOf]; omega
                · have f0 : wr.cell? ⟨g, k, none⟩ = some (.func (.func 73) #[.agg #[.int .i64 p.regs, .slice p.a p.l.length p.c]] #[]) := by rw [hk0]; exact c2.out
                  have HF : Hid (Calls Try.prog 73 #[.agg #[.int .i64 p.regs, .slice p.a p.l.length p.c]] wr fun e w' => e = .returned (.int .i64 E) ∧ Below wr.heap.size wr w') := hide (by rw [HE.out, hk0]; exact depth_calls p.regs p.a p.c p.l _ hpa3 hpl)
                  clear hk0
                  obtain rfl := hE0
                  go_wp2_with (go_at_call 73; ((with_reducible refine (HF.out).mono ?_); rintro e w4 ⟨rfl, hb4⟩))
                  go_roundw
                  case rel => exact ⟨j + 1, by go_num, by omega, hide (by rw [HRJ.out, ← HE.out]; simp), hb3.trans (hb4.mono hz3)⟩
                  case measure => simp [intOf]; omega
                · have f0 : wr.cell? ⟨g, k, none⟩ = some (.func (.func 74) #[.agg #[.int .i64 p.regs, .slice p.a p.l.length p.c]] #[]) := by rw [hk0]; exact c3.out
                  have HF : Hid (Calls Try.prog 74 #[.agg #[.int .i64 p.regs, .slice p.a p.l.length p.c]] wr fun e w' => e = .returned (.int .i64 E) ∧ Below wr.heap.size wr w') := hide (by rw [HE.out, hk0]; exact cwrites_calls p.regs p.a p.c p.l _ hpa3 hpl)
                  clear hk0
                  obtain rfl := hE0
                  go_wp2_with (go_at_call 74; ((with_reducible refine (HF.out).mono ?_); rintro e w4 ⟨rfl, hb4⟩))
                  go_roundw
                  case rel => exact ⟨j + 1, by go_num, by omega, hide (by rw [HRJ.out, ← HE.out]; simp), hb3.trans (hb4.mono hz3)⟩
                  case measure => simp [intOf]; omega
              ·
                rcases h4 with hk0 | hk0 | hk0 | hk0
                · have f0 : wr.cell? ⟨g, k, none⟩ = some (.func (.func 71) #[.agg #[.int .i64 p.regs, .slice p.a p.l.length p.c]] #[]) := by rw [hk0]; exact c0.out
                  have HF : Hid (Calls Try.prog 71 #[.agg #[.int .i64 p.regs, .slice p.a p.l.length p.c]] wr fun e w' => e = .returned (.int .i64 E) ∧ Below wr.heap.size wr w') := hide (by rw [HE.out, hk0]; exact form_calls p.regs p.a p.c p.l _ hpa3 hpl)
                  clear hk0
                  have hE1 : (E == 0) = false := by simpa using hE0
                  have hE2 : (E != 0) = true := by simpa using hE0
                  have HE0 := hide hE0
                  clear hE0
                  go_wp2_with (go_at_call 71; ((with_reducible refine (HF.out).mono ?_); rintro e w4 ⟨rfl, hb4⟩))
                  go_ret
                  exact ⟨by rw [HRJ.out, ← HE.out, if_pos HE0.out, if_pos HE0.out] <;> rfl, hbr.trans ((hb3.trans (hb4.mono hz3)).mono hzr)⟩
                · have f0 : wr.cell? ⟨g, k, none⟩ = some (.func (.func 72) #[.agg #[.int .i64 p.regs, .slice p.a p.l.length p.c]] #[]) := by rw [hk0]; exact c1.out
                  have HF : Hid (Calls Try.prog 72 #[.agg #[.int .i64 p.regs, .slice p.a p.l.length p.c]] wr fun e w' => e = .returned (.int .i64 E) ∧ Below wr.heap.size wr w') := hide (by rw [HE.out, hk0]; exact registers_calls p.regs p.a p.c p.l _ hpa3 hpl)
                  clear hk0
                  have hE1 : (E == 0) = false := by simpa using hE0
                  have hE2 : (E != 0) = true := by simpa using hE0
                  have HE0 := hide hE0
                  clear hE0
                  go_wp2_with (go_at_call 72; ((with_reducible refine (HF.out).mono ?_); rintro e w4 ⟨rfl, hb4⟩))
                  go_ret
                  exact ⟨by rw [HRJ.out, ← HE.out, if_pos HE0.out, if_pos HE0.out] <;> rfl, hbr.trans ((hb3.trans (hb4.mono hz3)).mono hzr)⟩
                · have f0 : wr.cell? ⟨g, k, none⟩ = some (.func (.func 73) #[.agg #[.int .i64 p.regs, .slice p.a p.l.length p.c]] #[]) := by rw [hk0]; exact c2.out
                  have HF : Hid (Calls Try.prog 73 #[.agg #[.int .i64 p.regs, .slice p.a p.l.length p.c]] wr fun e w' => e = .returned (.int .i64 E) ∧ Below wr.heap.size wr w') := hide (by rw [HE.out, hk0]; exact depth_calls p.regs p.a p.c p.l _ hpa3 hpl)
                  clear hk0
                  have hE1 : (E == 0) = false := by simpa using hE0
                  have hE2 : (E != 0) = true := by simpa using hE0
                  have HE0 := hide hE0
                  clear hE0
                  go_wp2_with (go_at_call 73; ((with_reducible refine (HF.out).mono ?_); rintro e w4 ⟨rfl, hb4⟩))
                  go_ret
                  exact ⟨by rw [HRJ.out, ← HE.out, if_pos HE0.out, if_pos HE0.out] <;> rfl, hbr.trans ((hb3.trans (hb4.mono hz3)).mono hzr)⟩
                · have f0 : wr.cell? ⟨g, k, none⟩ = some (.func (.func 74) #[.agg #[.int .i64 p.regs, .slice p.a p.l.length p.c]] #[]) := by rw [hk0]; exact c3.out
                  have HF : Hid (Calls Try.prog 74 #[.agg #[.int .i64 p.regs, .slice p.a p.l.length p.c]] wr fun e w' => e = .returned (.int .i64 E) ∧ Below wr.heap.size wr w') := hide (by rw [HE.out, hk0]; exact cwrites_calls p.regs p.a p.c p.l _ hpa3 hpl)
                  clear hk0
                  have hE1 : (E == 0) = false := by simpa using hE0
                  have hE2 : (E != 0) = true := by simpa using hE0
                  have HE0 := hide hE0
                  clear hE0
                  go_wp2_with (go_at_call 74; ((with_reducible refine (HF.out).mono ?_); rintro e w4 ⟨rfl, hb4⟩))
                  go_ret
                  exact ⟨by rw [HRJ.out, ← HE.out, if_pos HE0.out, if_pos HE0.out] <;> rfl, hbr.trans ((hb3.trans (hb4.mono hz3)).mono hzr)⟩
            · obtain rfl : j = ps.length := by omega
              go_wp2
              go_roundw
              case rel =>
                refine ⟨k + 1, by go_num, by omega, ?_, hb3⟩
                show R = _
                rw [hRj.out, List.drop_eq_nil_of_le (Nat.le_refl _)]
                simp [rowE]
              case measure => simp [intOf]; omega
        · obtain rfl : k = 4 := by omega
          go_wp2
          go_ret
          exact ⟨by rw [hRk.out] <;> rfl, hbr.trans (hb2.mono hzr)⟩
end Go.Proofs.Ytoklehndfncmnaa
