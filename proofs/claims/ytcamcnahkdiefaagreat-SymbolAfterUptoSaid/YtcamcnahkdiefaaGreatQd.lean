/- Several texts of mine in one file: N8e, N8g, N8h. -/
import Derived.Test.YtcamcnahkdiefaaGreatQb
import Derived.Test.YtcamcnahkdiefaaGreatQa
/- Chapter 8: Around. -/
namespace Go.Proofs.YtcamcnahkdiefaaGreat
set_option linter.unusedVariables false
set_option linter.unusedSimpArgs false
open Go.RowKit

/-- the blocks around operation `i`, once `k` operations are behind -/
def arAt (l : List OpD) (i : Int) (k : Nat) : List Int := if 0 ≤ i ∧ i < k then (match l[i.toNat]? with | some x => arnd (stAt l i.toNat) x | none => []) else []
def aroundS (l : List OpD) (i : Int) : List Int × Int := if well l = true then (if i < 0 ∨ (l.length : Int) ≤ i then ([], 2) else (arAt l i l.length, 0)) else ([], 6)
theorem arAt_zero (l : List OpD) (i : Int) : arAt l i 0 = [] := by unfold arAt; rw [if_neg (by omega)]
theorem arAt_other (l : List OpD) (i : Int) (k : Nat) (h : i ≠ k) : arAt l i (k + 1) = arAt l i k := by
  unfold arAt
  by_cases hh : 0 ≤ i ∧ i < k
  · rw [if_pos hh, if_pos ⟨hh.1, by omega⟩]
  · rw [if_neg hh, if_neg (by omega)]
theorem arAt_this (l : List OpD) (k : Nat) (x : OpD) (h : l[k]? = some x) : arAt l (k : Int) (k + 1) = arnd (stAt l k) x := by
  unfold arAt
  rw [if_pos ⟨by omega, by omega⟩]
  simp [h]

end Go.Proofs.YtcamcnahkdiefaaGreat

/- Chapter 8, the document's answers: Well, height, Match. -/
namespace Go.Proofs.YtcamcnahkdiefaaGreat
set_option linter.unusedVariables false
set_option linter.unusedSimpArgs false
open Go.RowKit

/-- An operation's kind, as a walk asks for it. -/
def kindB (x : OpD) (b7 b0 : Bool) : Prop := Hid ((x.kind == 7) = b7) ∧ Hid ((x.kind == 0) = b0)
theorem kind_cases (x : OpD) : (x.kind = 7 ∧ (x.kind == 7) = true ∧ (x.kind == 0) = false) ∨ (x.kind = 0 ∧ (x.kind == 7) = false ∧ (x.kind == 0) = true) ∨ (x.kind ≠ 7 ∧ x.kind ≠ 0 ∧ (x.kind == 7) = false ∧ (x.kind == 0) = false) := by
  by_cases h7 : x.kind = 7
  · left; simp [h7]
  · by_cases h0 : x.kind = 0
    · right; left; simp [h0]
    · right; right; simp [h7, h0]

set_option maxRecDepth 100000 in
set_option maxHeartbeats 800000 in
theorem Well8_calls (a : Option Addr) (c : Nat) (l : List OpD) (w : World) (h : At w a l) (hl : l.length ≤ 1000000) :
    Calls Tryz.prog 131 #[.slice a l.length c] w fun e w' => e = .returned (.bool (well l)) ∧ w = w' := by
  obtain ⟨R, hR⟩ : ∃ R, R = well l := ⟨_, rfl⟩
  rw [← hR]
  have HR := hide hR
  clear hR
  go_enter Tryz.func131, Tryz.ntmps131
  go_wp2
  go_loopw [3, 4] (fun nv i wr => ∃ (k n : Nat), i = .int .i64 k ∧ nv = .int .i64 n ∧ k ≤ l.length ∧ n ≤ k ∧ Hid (R = wellF n (l.drop k)) ∧ w = wr) (fun _ i _ => l.length - (intOf i).toNat)
  case atStart => exact ⟨0, 0, rfl, rfl, by omega, by omega, HR.out, rfl⟩
  case round =>
    obtain ⟨k, n, rfl, rfl, hk, hnk, hRk, rfl⟩ := hrel
    by_cases hlt : k < l.length
    · obtain ⟨b1, off1, x, rfl, hx, x0, x1, x2, x3, x4⟩ := h.getOp (Below.refl _ _) hlt
      have hstep : R = if x.kind < 0 ∨ 7 < x.kind then false else if x.kind = 7 then wellF (n + 1) (l.drop (k + 1)) else if x.kind = 0 then (if n = 0 then false else wellF (n - 1) (l.drop (k + 1))) else wellF n (l.drop (k + 1)) := by
        rw [hRk.out, drop_at hx.out]; rfl
      have HS := hide hstep
      clear hstep hRk
      by_cases hk1 : x.kind < 0
      · have e : R = false := by rw [HS.out, if_pos (by omega)]
        have E := hide e
        clear e
        go_wp2
        go_ret
        exact ⟨by rw [E.out]; rfl, rfl⟩
      by_cases hk2 : 7 < x.kind
      · have e : R = false := by rw [HS.out, if_pos (by omega)]
        have E := hide e
        clear e
        go_wp2
        go_ret
        exact ⟨by rw [E.out]; rfl, rfl⟩
      rcases kind_cases x with ⟨k7, b7, b0⟩ | ⟨k0, b7, b0⟩ | ⟨k7, k0, b7, b0⟩
      · have e : R = wellF (n + 1) (l.drop (k + 1)) := by rw [HS.out, if_neg (by omega), if_pos k7]
        have E := hide e
        clear e k7
        go_wp2
        go_roundw
        case rel => exact ⟨k + 1, n + 1, by go_num, by go_num, by omega, by omega, E.out, by trivial⟩
        case measure => simp [intOf]; omega
      · by_cases hn0 : n = 0
        · have e : R = false := by rw [HS.out, if_neg (by omega), if_neg (by omega), if_pos k0, if_pos hn0]
          have E := hide e
          clear e k0
          subst hn0
          go_wp2
          go_ret
          exact ⟨by rw [E.out]; rfl, rfl⟩
        · have e : R = wellF (n - 1) (l.drop (k + 1)) := by rw [HS.out, if_neg (by omega), if_neg (by omega), if_pos k0, if_neg hn0]
          have E := hide e
          have hn1 : 0 < n := by omega
          clear e k0 hn0
          go_wp2
          go_roundw
          case rel => exact ⟨k + 1, n - 1, by go_num, by go_num, by omega, by omega, E.out, by trivial⟩
          case measure => simp [intOf]; omega
      · have e : R = wellF n (l.drop (k + 1)) := by rw [HS.out, if_neg (by omega), if_neg (by omega), if_neg k0]
        have E := hide e
        clear e k7 k0
        go_wp2
        go_roundw
        case rel => exact ⟨k + 1, n, by go_num, rfl, by omega, by omega, E.out, by trivial⟩
        case measure => simp [intOf]; omega
    · have hd : l.drop k = [] := List.drop_eq_nil_of_le (by omega)
      have e : R = (n == 0) := by rw [hRk.out, hd]; rfl
      have E := hide e
      clear e hd
      have hnn : n = 0 ∨ 0 < n := by omega
      rcases hnn with rfl | hnn
      · go_wp2
        go_ret
        exact ⟨by rw [E.out]; rfl, rfl⟩
      · have hb : ((n : Int) == 0) = false := by simp; omega
        go_wp2
        go_ret
        exact ⟨by rw [E.out]; simp; omega, rfl⟩

theorem hI_le (n : Int) (l : List OpD) : hI n l ≤ n + l.length ∧ n - l.length ≤ hI n l := by
  induction l generalizing n with
  | nil => simp [hI]
  | cons x r ih =>
    simp only [hI, List.length_cons]
    have := ih (if x.kind = 7 then n + 1 else if x.kind = 0 then n - 1 else n)
    by_cases h7 : x.kind = 7
    · simp only [if_pos h7] at this ⊢; omega
    · by_cases h0 : x.kind = 0
      · simp only [if_neg h7, if_pos h0] at this ⊢; omega
      · simp only [if_neg h7, if_neg h0] at this ⊢; omega
/-- how many blocks are open ahead of operation `k` -/
def hgt (l : List OpD) (k : Nat) : Int := hI 0 (l.take k)
theorem hgt_succ (l : List OpD) (k : Nat) (x : OpD) (h : l[k]? = some x) : hgt l (k + 1) = if x.kind = 7 then hgt l k + 1 else if x.kind = 0 then hgt l k - 1 else hgt l k := by
  unfold hgt
  rw [List.take_add_one, h, hI_append]
  rfl
theorem hgt_le (l : List OpD) (k : Nat) : hgt l k ≤ k ∧ -(k : Int) ≤ hgt l k := by
  have := hI_le 0 (l.take k)
  unfold hgt
  simp at this
  omega

set_option maxRecDepth 100000 in
set_option maxHeartbeats 800000 in
theorem height_calls (a : Option Addr) (c m : Nat) (l : List OpD) (w : World) (h : At w a l) (hl : l.length ≤ 1000000) (hm : m ≤ l.length) :
    Calls Tryz.prog 170 #[.slice a l.length c, .int .i64 m] w fun e w' => e = .returned (.int .i64 (hgt l m)) ∧ w = w' := by
  go_enter Tryz.func170, Tryz.ntmps170
  go_wp2
  go_loopw [5, 6] (fun nv i wr => ∃ (k : Nat), i = .int .i64 k ∧ nv = .int .i64 (hgt l k) ∧ k ≤ m ∧ w = wr) (fun _ i _ => m - (intOf i).toNat)
  case atStart => exact ⟨0, rfl, rfl, by omega, rfl⟩
  case round =>
    obtain ⟨k, rfl, rfl, hk, rfl⟩ := hrel
    have hb := hgt_le l k
    obtain ⟨hb1, hb2⟩ := hb
    by_cases hlt : k < m
    · obtain ⟨b1, off1, x, rfl, hx, x0, x1, x2, x3, x4⟩ := h.getOp (Below.refl _ _) (show k < l.length by omega)
      have hs := hgt_succ l k x hx.out
      have HS := hide hs
      clear hs
      rcases kind_cases x with ⟨k7, b7, b0⟩ | ⟨k0, b7, b0⟩ | ⟨k7, k0, b7, b0⟩
      · have E := hide (HS.out.trans (if_pos k7))
        clear k7 HS
        go_wp2
        go_roundw
        case rel => exact ⟨k + 1, by go_num, by rw [E.out], by omega, by trivial⟩
        case measure => simp [intOf]; omega
      · have E := hide (HS.out.trans ((if_neg (by omega)).trans (if_pos k0)))
        clear k0 HS
        go_wp2
        go_roundw
        case rel => exact ⟨k + 1, by go_num, by rw [E.out], by omega, by trivial⟩
        case measure => simp [intOf]; omega
      · have E := hide (HS.out.trans ((if_neg k7).trans (if_neg k0)))
        clear k7 k0 HS
        go_wp2
        go_roundw
        case rel => exact ⟨k + 1, by go_num, by rw [E.out], by omega, by trivial⟩
        case measure => simp [intOf]; omega
    · have e : k = m := by omega
      subst e
      go_wp2
      go_ret
      exact ⟨rfl, rfl⟩

def Match8Post (w : World) (l : List OpD) (e : Ending) (w' : World) : Prop :=
  ∃ a c, e = .returned (.tuple #[.slice a (matchS l).1.length c, .int .i64 (matchS l).2]) ∧ Own w' w.heap.size 3 a c (matchS l).1 ∧ Below w.heap.size w w'
/-- what the document knows behind `k` operations -/
def rAt (l : List OpD) (k : Nat) : List Int := rF 0 (List.replicate l.length (-1)) (l.take k) ((matchL l).take k)
theorem matchL_length (l : List OpD) : (matchL l).length = l.length := by unfold matchL; rw [mF_length]; simp
theorem rAt_length (l : List OpD) (k : Nat) : (rAt l k).length = l.length := by unfold rAt; rw [rF_length]; simp
theorem rAt_succ (l : List OpD) (k : Nat) (x : OpD) (m : Int) (h : l[k]? = some x) (hm : (matchL l)[k]? = some m) : rAt l (k + 1) = if x.kind = 7 then ((rAt l k).set k m).set m.toNat k else rAt l k := by
  have hk : k < l.length := (List.getElem?_eq_some_iff.1 h).1
  unfold rAt
  rw [List.take_add_one, List.take_add_one, h, hm, rF_append _ _ _ _ _ _ (by simp [matchL_length])]
  simp only [Option.toList, rF, List.length_take, Nat.zero_add, Nat.min_eq_left (Nat.le_of_lt hk)]
theorem rAt_end (l : List OpD) (h : well l = true) : rAt l l.length = matchL l := by
  obtain ⟨f, hf, rfl⟩ := forest_of_well l h
  unfold rAt
  rw [List.take_length, show f.flat.length = (matchL f.flat).length from (matchL_length _).symm, List.take_length, matchL_length, matchL_flat f hf]
  have := rF_flat f hf 0 [] [] rfl
  simpa [Fo.size] using this
/-- where a block ends -/
theorem at_rep_well (l : List OpD) (h : well l = true) (j : Nat) (x : OpD) (hx : l[j]? = some x) (h7 : x.kind = 7) :
    ∃ (b : Fo) (fin : OpD), b.ok ∧ fin.kind = 0 ∧ (∀ i, i < b.flat.length → l[j + 1 + i]? = b.flat[i]?) ∧ l[j + 1 + b.flat.length]? = some fin ∧ (matchL l)[j]? = some ((j + b.flat.length + 1 : Nat) : Int) ∧ j + b.flat.length + 1 < l.length := by
  obtain ⟨f, hf, rfl⟩ := forest_of_well l h
  obtain ⟨b, fin, pre, rest, h1, h2, h3, h4, h5⟩ := at_rep f hf 0 j x hx h7
  refine ⟨b, fin, h1, h2, ?_, ?_, ?_, ?_⟩
  · intro i hi
    rw [h3, List.getElem?_append_right (by omega), show j + 1 + i - pre.length = i + 1 by omega, List.getElem?_cons_succ, List.getElem?_append_left hi]
  · rw [h3, List.getElem?_append_right (by omega), show j + 1 + b.flat.length - pre.length = b.flat.length + 1 by omega, List.getElem?_cons_succ, List.getElem?_append_right (by omega)]
    simp
  · rw [matchL_flat f hf, h5]; simp [Fo.size]
  · rw [h3]; simp; omega

set_option maxRecDepth 100000 in
set_option maxHeartbeats 1600000 in
theorem Match8_calls (a : Option Addr) (c : Nat) (l : List OpD) (w : World) (h : At w a l) (hl : l.length ≤ 1000000) :
    Calls Tryz.prog 89 #[.slice a l.length c] w (Match8Post w l) := by
  have haw : l ≠ [] → ∀ g, a.map (·.block) = some g → g < w.heap.size := by
    intro h0 g hg
    obtain ⟨b, off, rfl, hlt⟩ := h.lt h0
    simp at hg
    omega
  have HAW := hide haw
  obtain ⟨Wl, hWl⟩ : ∃ b, b = well l := ⟨_, rfl⟩
  have HWL := hide hWl
  clear haw hWl
  have hcase : Wl = true ∨ Wl = false := by cases Wl <;> simp
  rcases hcase with rfl | rfl
  rotate_left
  · go_enter Tryz.func89, Tryz.ntmps89
    go_wp2_with (go_at_call 131; refine (Well8_calls a c l _ h hl).mono ?_; rintro e w1 ⟨rfl, rfl⟩; rw [← HWL.out])
    go_ret2
    unfold Match8Post
    have e : matchS l = ([], 6) := by unfold matchS; rw [← HWL.out]; rfl
    rw [e]
    exact ⟨none, 0, rfl, Own.none _ _ _, Below.refl _ _⟩
  · go_enter Tryz.func89, Tryz.ntmps89
    go_wp2_with (go_at_call 131; refine (Well8_calls a c l _ h hl).mono ?_; rintro e w1 ⟨rfl, rfl⟩; rw [← HWL.out])
    go_loopw [4, 5] (fun out i wr => ∃ (k : Nat) (ao : Option Addr) (co : Nat), i = .int .i64 k ∧ out = .slice ao k co ∧ k ≤ l.length ∧ Own wr w.heap.size 3 ao co (List.replicate k (-1 : Int)) ∧ Below w.heap.size w wr) (fun _ i _ => l.length - (intOf i).toNat)
    case atStart => exact ⟨0, _, 0, rfl, rfl, by omega, Own.new _ (Nat.le_refl _) _ _, Below.alloc (Below.refl _ _) (Nat.le_refl _) _⟩
    case round =>
      obtain ⟨k, ao, co, rfl, rfl, hk, hown, hbel⟩ := hrel
      have hsz := hbel.size
      by_cases hlt : k < l.length
      · go_wp2_with (at_builtin; go_loud (refine wpList_push tyI hown (-1 : Int) rfl rfl rfl rfl rfl rfl (by simp) hsz (by first | omega | (simp; omega)) ?_); intro a2 c2 w2 hown2 hg2 _)
        have e : List.replicate k (-1 : Int) ++ [-1] = List.replicate (k + 1) (-1) := by rw [List.replicate_succ']
        rw [e] at hown2
        have E := hide e
        clear e
        go_roundw
        case rel => exact ⟨k + 1, a2, c2, by go_num, by simp, by omega, hown2, below_push hbel hown hg2 hsz⟩
        case measure => simp [intOf]; omega
      · have e : k = l.length := by omega
        subst e
        have e0 : List.replicate l.length (-1 : Int) = rAt l 0 := by simp [rAt, rF]
        rw [e0] at hown
        clear e0
        go_wp2
        go_loopw [6] (fun i w5 => ∃ (k : Nat), i = .int .i64 k ∧ k ≤ l.length ∧ Own w5 w.heap.size 3 ao co (rAt l k) ∧ Below w.heap.size w w5) (fun i _ => l.length - (intOf i).toNat)
        case atStart => exact ⟨0, rfl, by omega, hown, hbel⟩
        case round =>
          clear hown hbel hsz hk hlt
          obtain ⟨k, rfl, hk, hown, hbel⟩ := hrel
          obtain ⟨w5, rfl⟩ : ∃ w5, w5 = wr := ⟨_, rfl⟩
          have hsz := hbel.size
          by_cases hlt : k < l.length
          · obtain ⟨b1, off1, x, rfl, hx, x0, x1, x2, x3, x4⟩ := h.getOp hbel hlt
            by_cases k7 : x.kind = 7
            · have b7 : (x.kind == 7) = true := by simp [k7]
              obtain ⟨b, fin, hb1, hb2, hb3, hb4, hb5, hb6⟩ := at_rep_well l HWL.out.symm k x hx.out k7
              have hr := rAt_succ l k x _ hx.out hb5
              rw [if_pos k7, Int.toNat_natCast] at hr
              have HR := hide hr
              have HB1 := hide hb1
              have HB5 := hide hb5
              have hL : ∀ i, i ≤ b.flat.length → l[k + 1 + i]? = (b.flat ++ [fin])[i]? := by
                intro i hi
                by_cases hii : i < b.flat.length
                · rw [hb3 i hii, List.getElem?_append_left hii]
                · have : i = b.flat.length := by omega
                  subst this
                  rw [hb4, List.getElem?_append_right (by omega)]
                  simp
              have HL := hide hL
              obtain ⟨S, hS⟩ : ∃ S, S = b.flat.length := ⟨_, rfl⟩
              obtain ⟨C, hC⟩ : ∃ C : Nat → Int, C = fun j => hI 1 ((b.flat ++ [fin]).take j) := ⟨_, rfl⟩
              have hC0 : C 0 = 1 := by rw [hC]; rfl
              have hCS : C (S + 1) = 0 := by
                rw [hC, hS]
                show hI 1 ((b.flat ++ [fin]).take (b.flat.length + 1)) = 0
                rw [List.take_of_length_le (by simp), hI_append, hI_flat b hb1]
                simp [hI, hb2]
              have hCle : ∀ j, C j ≤ j + 1 := fun j => by
                rw [hC]
                have := (hI_le 1 ((b.flat ++ [fin]).take j)).1
                simp only [List.length_take] at this
                show hI 1 ((b.flat ++ [fin]).take j) ≤ _
                omega
              have hCge : ∀ j, j ≤ S → 1 ≤ C j := fun j hj => by
                rw [hC]
                show 1 ≤ hI 1 ((b.flat ++ [fin]).take j)
                rw [List.take_append_of_le_length (by omega)]
                exact hI_ge b hb1 1 j
              have hCs : ∀ j y, l[k + 1 + j]? = some y → j ≤ S → C (j + 1) = if y.kind = 7 then C j + 1 else if y.kind = 0 then C j - 1 else C j := fun j y hy hj => by
                rw [HL.out j (by omega)] at hy
                rw [hC]
                show hI 1 ((b.flat ++ [fin]).take (j + 1)) = _
                rw [List.take_add_one, hy, hI_append]
                rfl
              rw [← hS] at hb6 HR
              have HCS := hide hCS
              have HCge := hide hCge
              have HCle := hide hCle
              have HCs := hide hCs
              have HC0 := hide hC0
              have hne : rAt l k ≠ [] := by intro e; have := rAt_length l k; rw [e] at this; simp at this; omega
              obtain ⟨g, rfl, hg1, hg2⟩ := hown.some_ hne
              have hfk := hown.frozen k
              have hcap := hown.cap
              rw [rAt_length] at hcap
              obtain ⟨hcap1, hcap2⟩ := hcap
              have hat5 := h.belowN hbel
              clear hb1 hb2 hb3 hb4 hb5 hL hS hC hCS hCle hCge hCs hC0 k7 hr hne hx
              go_wp2
              go_loopw [7, 8] (fun nv kv w9 => ∃ j q : Nat, kv = .int .i64 (q : Int) ∧ q ≤ k + j ∧ k + j ≤ q ∧ nv = .int .i64 (C j) ∧ j ≤ S + 1 ∧ w5 = w9) (fun _ kv _ => k + S + 1 - (intOf kv).toNat)
              case atStart => exact ⟨0, k, rfl, by omega, by omega, by rw [HC0.out], by omega, by trivial⟩
              case round =>
                obtain ⟨j, q, rfl, hq1, hq2, rfl, hj, rfl⟩ := hrel
                by_cases hjS : j ≤ S
                · have hc1 := HCge.out j hjS
                  have hc2 := HCle.out j
                  obtain ⟨b2, off2, y, e2, hy, y0, y1, y2, y3, y4⟩ := hat5.getOp (Below.refl _ _) (show q + 1 < l.length by omega)
                  injection e2 with e2
                  injection e2 with e2 e3
                  subst e2
                  subst e3
                  have hs := HCs.out j y (by have := hy.out; rwa [show q + 1 = k + 1 + j by omega] at this) hjS
                  have HS := hide hs
                  clear hs hy
                  rcases kind_cases y with ⟨q7, c7, c0⟩ | ⟨q0, c7, c0⟩ | ⟨q7, q0, c7, c0⟩
                  · have E := hide (HS.out.trans (if_pos q7))
                    clear q7 HS
                    go_wp2
                    go_roundw
                    case rel => exact ⟨j + 1, q + 1, by go_num, by omega, by omega, by rw [E.out], by omega, by trivial⟩
                    case measure => simp [intOf]; omega
                  · have E := hide (HS.out.trans ((if_neg (by omega)).trans (if_pos q0)))
                    clear q0 HS
                    go_wp2
                    go_roundw
                    case rel => exact ⟨j + 1, q + 1, by go_num, by omega, by omega, by rw [E.out], by omega, by trivial⟩
                    case measure => simp [intOf]; omega
                  · have E := hide (HS.out.trans ((if_neg q7).trans (if_neg q0)))
                    clear q7 q0 HS
                    go_wp2
                    go_roundw
                    case rel => exact ⟨j + 1, q + 1, by go_num, by omega, by omega, by rw [E.out], by omega, by trivial⟩
                    case measure => simp [intOf]; omega
                · have e : j = S + 1 := by omega
                  subst e
                  have hc := HCS.out
                  have hql : q < l.length := by omega
                  have hfq := hown.frozen q
                  obtain ⟨y1, v1, hy1, hy2, hy3⟩ := hown.cell1 (i := k) (by rw [rAt_length]; omega) rfl
                  obtain ⟨y2, v2, hz1, hz2, hz3⟩ := hown.cell1 (i := q) (by rw [rAt_length]; omega) rfl
                  have hkq1 : k ≠ q := by omega
                  have hkq2 : q ≠ k := by omega
                  clear hy1 hy2 hz1 hz2
                  go_wp2
                  go_roundw
                  case rel =>
                    have hqe : q = k + S + 1 := by omega
                    have ho1 := hown.set1 k (q : Int) (.int .i64 (q : Int)) rfl
                    have ho2 := ho1.set1 q (k : Int) (.int .i64 (k : Int)) rfl
                    have hb1 : Below w.heap.size w (w5.setCell ⟨g, k, none⟩ (.int .i64 (q : Int))) := below_push hbel hown (grown_setCell w5 g k _) hsz
                    have hb2 : Below w.heap.size w ((w5.setCell ⟨g, k, none⟩ (.int .i64 (q : Int))).setCell ⟨g, q, none⟩ (.int .i64 (k : Int))) := below_push hb1 ho1 (grown_setCell _ g q _) (by simpa [World.setCell] using hsz)
                    refine ⟨k + 1, by go_num, by omega, ?_, hb2⟩
                    rw [HR.out, ← hqe]
                    exact ho2
                  case measure => simp [intOf]; omega
            · have b7 : (x.kind == 7) = false := by simp [k7]
              have hm : ∃ m, (matchL l)[k]? = some m := ⟨_, List.getElem?_eq_getElem (by rw [matchL_length]; omega)⟩
              obtain ⟨m, hm⟩ := hm
              have hr := rAt_succ l k x m hx.out hm
              rw [if_neg k7] at hr
              have HR := hide hr
              clear hr hm k7
              go_wp2
              go_roundw
              case rel => exact ⟨k + 1, by go_num, by omega, by rw [HR.out]; exact hown, hbel⟩
              case measure => simp [intOf]; omega
          · have e : k = l.length := by omega
            subst e
            have hW := HWL.out.symm
            rw [rAt_end l hW] at hown
            go_wp2
            go_ret2
            unfold Match8Post
            have e : matchS l = (matchL l, 0) := by unfold matchS; rw [if_pos hW]
            rw [e]
            exact ⟨ao, co, by simp [matchL_length], hown, hbel⟩
end Go.Proofs.YtcamcnahkdiefaaGreat

/- Chapter 8, the document's answers: Deep, Around, Inside, Parts. -/
namespace Go.Proofs.YtcamcnahkdiefaaGreat
set_option linter.unusedVariables false
set_option linter.unusedSimpArgs false
open Go.RowKit

theorem Match8W (a : Option Addr) (c : Nat) (l : List OpD) (w : World) (h : At w a l) (hl : l.length ≤ 1000000) (hw : well l = true) :
    Calls Tryz.prog 89 #[.slice a l.length c] w fun e w' => ∃ a' c', e = .returned (.tuple #[.slice a' l.length c', .int .i64 0]) ∧ Own w' w.heap.size 3 a' c' (matchL l) ∧ Below w.heap.size w w' := by
  refine (Match8_calls a c l w h hl).mono ?_
  rintro e w' hp
  unfold Match8Post at hp
  have e0 : matchS l = (matchL l, 0) := by unfold matchS; rw [if_pos hw]
  rw [e0] at hp
  simp only [matchL_length] at hp
  exact hp
theorem Match8N (a : Option Addr) (c : Nat) (l : List OpD) (w : World) (h : At w a l) (hl : l.length ≤ 1000000) (hw : well l = false) :
    Calls Tryz.prog 89 #[.slice a l.length c] w fun e w' => ∃ a' c', e = .returned (.tuple #[.slice a' 0 c', .int .i64 6]) ∧ Below w.heap.size w w' := by
  refine (Match8_calls a c l w h hl).mono ?_
  rintro e w' hp
  unfold Match8Post at hp
  have e0 : matchS l = ([], 6) := by unfold matchS; rw [if_neg (by simp [hw])]
  rw [e0] at hp
  obtain ⟨a', c', rfl, h1, h2⟩ := hp
  exact ⟨a', c', rfl, h2⟩
theorem MatchW (a : Option Addr) (c : Nat) (l : List OpD) (w : World) (h : At w a l) (hl : l.length ≤ 1000000) (hw : well l = true) :
    Calls Tryz.prog 96 #[.slice a l.length c] w fun e w' => ∃ a' c', e = .returned (.tuple #[.slice a' l.length c', .int .i64 0]) ∧ Own w' w.heap.size 3 a' c' (matchL l) ∧ Below w.heap.size w w' := by
  refine (Match_calls a c l w h hl).mono ?_
  rintro e w' hp
  unfold MatchPost at hp
  have e0 : matchS l = (matchL l, 0) := by unfold matchS; rw [if_pos hw]
  rw [e0] at hp
  simp only [matchL_length] at hp
  exact hp
theorem MatchN (a : Option Addr) (c : Nat) (l : List OpD) (w : World) (h : At w a l) (hl : l.length ≤ 1000000) (hw : well l = false) :
    Calls Tryz.prog 96 #[.slice a l.length c] w fun e w' => ∃ a' c', e = .returned (.tuple #[.slice a' 0 c', .int .i64 6]) ∧ Below w.heap.size w w' := by
  refine (Match_calls a c l w h hl).mono ?_
  rintro e w' hp
  unfold MatchPost at hp
  have e0 : matchS l = ([], 6) := by unfold matchS; rw [if_neg (by simp [hw])]
  rw [e0] at hp
  obtain ⟨a', c', rfl, h1, h2⟩ := hp
  exact ⟨a', c', rfl, h2⟩

/-- the greatest number of blocks that are open -/
def hmax : Int → Int → List OpD → Int
  | n, m, [] => max m n
  | n, m, x :: r => hmax (if x.kind = 7 then n + 1 else if x.kind = 0 then n - 1 else n) (max m n) r
theorem hmax_one (n m : Int) (a : List OpD) (x : OpD) : hmax n m (a ++ [x]) = max (hmax n m a) (hI n (a ++ [x])) := by
  induction a generalizing n m with
  | nil => rfl
  | cons y r ih => exact ih _ _
theorem hmax_dp (l : List OpD) (n m : Nat) (h : wellF n l = true) : hmax n m l = (dpF n (max m n) l : Nat) := by
  induction l generalizing n m with
  | nil => simp [hmax, dpF]; omega
  | cons x r ih =>
    rw [wellF] at h
    simp only [hmax, dpF]
    by_cases h1 : x.kind < 0 ∨ 7 < x.kind
    · rw [if_pos h1] at h; cases h
    · rw [if_neg h1] at h
      have hmn : max (m : Int) n = ((max m n : Nat) : Int) := by omega
      by_cases h7 : x.kind = 7
      · rw [if_pos h7] at h
        rw [if_pos h7, if_pos h7, hmn, show (n : Int) + 1 = ((n + 1 : Nat) : Int) by omega, ih _ _ h]
      · rw [if_neg h7] at h
        rw [if_neg h7, if_neg h7]
        by_cases h0 : x.kind = 0
        · rw [if_pos h0] at h
          by_cases hn : n = 0
          · rw [if_pos hn] at h; cases h
          · rw [if_neg hn] at h
            rw [if_pos h0, if_pos h0, hmn, show (n : Int) - 1 = ((n - 1 : Nat) : Int) by omega, ih _ _ h]
            congr 2
            omega
        · rw [if_neg h0] at h
          rw [if_neg h0, if_neg h0, hmn, ih _ _ h]
          congr 2
          omega
def mxh (l : List OpD) (k : Nat) : Int := if k = 0 then 0 else hmax 0 0 (l.take (k - 1))
theorem mxh_succ (l : List OpD) (k : Nat) (hk : k ≤ l.length) : mxh l (k + 1) = max (mxh l k) (hgt l k) := by
  unfold mxh hgt
  rw [if_neg (by omega), Nat.add_sub_cancel]
  cases k with
  | zero => simp [hmax, hI]
  | succ k =>
    rw [if_neg (by omega), Nat.add_sub_cancel, List.take_add_one, List.getElem?_eq_getElem (by omega)]
    exact hmax_one _ _ _ _
theorem mxh_end (l : List OpD) (h : well l = true) : mxh l (l.length + 1) = (deepL l : Nat) := by
  unfold mxh
  rw [if_neg (by omega), Nat.add_sub_cancel, List.take_length]
  exact hmax_dp l 0 0 h

set_option maxRecDepth 100000 in
set_option maxHeartbeats 800000 in
theorem Deep8_calls (a : Option Addr) (c : Nat) (l : List OpD) (w : World) (h : At w a l) (hl : l.length ≤ 1000000) :
    Calls Tryz.prog 152 #[.slice a l.length c] w fun e w' => e = .returned (.tuple #[.int .i64 (deepS l).1, .int .i64 (deepS l).2]) ∧ w = w' := by
  obtain ⟨Wl, hWl⟩ : ∃ b, b = well l := ⟨_, rfl⟩
  have HWL := hide hWl
  clear hWl
  have hcase : Wl = true ∨ Wl = false := by cases Wl <;> simp
  rcases hcase with rfl | rfl
  rotate_left
  · go_enter Tryz.func152, Tryz.ntmps152
    go_wp2_with (go_at_call 131; refine (Well8_calls a c l _ h hl).mono ?_; rintro e w1 ⟨rfl, rfl⟩; rw [← HWL.out])
    go_ret2
    exact ⟨by simp [deepS, ← HWL.out], rfl⟩
  · go_enter Tryz.func152, Tryz.ntmps152
    go_wp2_with (go_at_call 131; refine (Well8_calls a c l _ h hl).mono ?_; rintro e w1 ⟨rfl, rfl⟩; rw [← HWL.out])
    go_loopw [4, 5] (fun m i wr => ∃ (k : Nat), i = .int .i64 k ∧ m = .int .i64 (mxh l k) ∧ k ≤ l.length + 1 ∧ w = wr) (fun _ i _ => l.length + 1 - (intOf i).toNat)
    case atStart => exact ⟨0, rfl, rfl, by omega, rfl⟩
    case round =>
      obtain ⟨k, rfl, rfl, hk, rfl⟩ := hrel
      by_cases hlt : k ≤ l.length
      · have hs := mxh_succ l k hlt
        have hb := hgt_le l k
        obtain ⟨hb1, hb2⟩ := hb
        have HS := hide hs
        clear hs
        have hcs : mxh l k < hgt l k ∨ hgt l k ≤ mxh l k := by omega
        rcases hcs with hc | hc
        · have E : Hid (mxh l (k + 1) = hgt l k) := hide (HS.out.trans (by omega))
          clear HS
          go_wp2_with (go_at_call 170; refine (height_calls _ c k l _ h hl hlt).mono ?_; rintro e w1 ⟨rfl, rfl⟩)
          go_roundw
          case rel => exact ⟨k + 1, by go_num, by rw [E.out], by omega, by trivial⟩
          case measure => simp [intOf]; omega
        · have E : Hid (mxh l (k + 1) = mxh l k) := hide (HS.out.trans (by omega))
          clear HS
          go_wp2_with (go_at_call 170; refine (height_calls _ c k l _ h hl hlt).mono ?_; rintro e w1 ⟨rfl, rfl⟩)
          go_roundw
          case rel => exact ⟨k + 1, by go_num, by rw [E.out], by omega, by trivial⟩
          case measure => simp [intOf]; omega
      · have e : k = l.length + 1 := by omega
        subst e
        have hm := mxh_end l HWL.out.symm
        have HM := hide hm
        clear hm
        go_wp2
        go_ret2
        exact ⟨by simp [deepS, ← HWL.out, HM.out], rfl⟩

end Go.Proofs.YtcamcnahkdiefaaGreat
