/- Chapter 16, the document's answer: operations named by their places. -/
import Derived.Test.YthncfoompoheoaaL16c
namespace Go.Proofs.Ythncfoompoheoaa
set_option linter.unusedVariables false
set_option linter.unusedSimpArgs false
open Go.RowKit

def nameO (i : Nat) (x : OpD) : OpD := if x.kind ≠ 7 ∧ x.kind ≠ 0 then ⟨5, 0, 0, 0, UInt64.ofNat i⟩ else x
def nameF : Nat → List OpD → List OpD
  | _, [] => []
  | i, x :: r => nameO i x :: nameF (i + 1) r
theorem nameF_snoc (l : List OpD) (x : OpD) : ∀ i, nameF i (l ++ [x]) = nameF i l ++ [nameO (i + l.length) x] := by
  induction l with
  | nil => intro i; rfl
  | cons y r ih => intro i; show nameO i y :: nameF (i + 1) (r ++ [x]) = _; rw [ih]; simp only [nameF, List.cons_append, List.length_cons]; rw [show i + 1 + r.length = i + (r.length + 1) by omega]
theorem nameF_length (l : List OpD) : ∀ i, (nameF i l).length = l.length := by
  induction l with
  | nil => intro i; rfl
  | cons y r ih => intro i; show (nameF (i + 1) r).length + 1 = _; rw [ih]; rfl
theorem nameF_take {l : List OpD} {k : Nat} {x : OpD} (h : l[k]? = some x) : nameF 0 (l.take (k + 1)) = nameF 0 (l.take k) ++ [nameO k x] := by
  have hk := (List.getElem?_eq_some_iff.1 h).1
  rw [List.take_add_one, h]
  show nameF 0 (l.take k ++ [x]) = _
  rw [nameF_snoc, List.length_take]
  have : 0 + min k l.length = k := by omega
  rw [this]
set_option maxRecDepth 100000 in
set_option maxHeartbeats 1600000 in
theorem named_calls (a : Option Addr) (c n : Nat) (l : List OpD) (hn : n = l.length) (w : World) (h : At w a l) (hl : n ≤ 1000000) :
    Calls Try.prog 130 #[.slice a n c] w fun e w' => ∃ a' c', e = .returned (.slice a' n c') ∧ Own w' w.heap.size 99 a' c' (nameF 0 l) ∧ Below w.heap.size w w' := by
  have HN := hide hn
  clear hn
  go_enter Try.func130, Try.ntmps130
  go_wp2
  go_loopw [3, 4] (fun ov iv wr => ∃ (k : Nat) (ao : Option Addr) (co : Nat), iv = .int .i64 k ∧ k ≤ n ∧ ov = .slice ao k co ∧ Own wr w.heap.size 99 ao co (nameF 0 (l.take k)) ∧ Below w.heap.size w wr) (fun _ iv _ => n - (intOf iv).toNat)
  case atStart => exact ⟨0, _, 0, rfl, by omega, rfl, Own.new w (Nat.le_refl _) _ OpD, Below.alloc (Below.refl _ _) (Nat.le_refl _) _⟩
  case round =>
    obtain ⟨k, ao, co, rfl, hk, rfl, hown, hb⟩ := hrel
    obtain ⟨v, rfl⟩ : ∃ v : UInt64, k = v.toNat := ⟨UInt64.ofNat k, by rw [UInt64.toNat_ofNat', Nat.mod_eq_of_lt (by omega)]⟩
    have hzr := hb.size
    by_cases hlt : v.toNat < n
    · obtain ⟨b1, off1, x, rfl, hx, x0, x1, x2, x3, x4⟩ := h.getOp hb (by have := HN.out; omega : v.toNat < l.length)
      have hB := Blk.new wr 99 #[.int .i64 x.kind, .int .i64 x.d, .int .i64 x.a, .int .i64 x.b, .int .u64 (x.v.toNat : Int)]
      obtain ⟨p0, p1, p2, p3, p4, p5, p6, p7, p8, p9⟩ := hB.c5
      have hb1 := hb.alloc hzr (.cells #[.int .i64 x.kind, .int .i64 x.d, .int .i64 x.a, .int .i64 x.b, .int .u64 (x.v.toNat : Int)] 99)
      have hown1 := hown.alloc (.cells #[.int .i64 x.kind, .int .i64 x.d, .int .i64 x.a, .int .i64 x.b, .int .u64 (x.v.toNat : Int)] 99)
      have hkl : v.toNat = (nameF 0 (l.take v.toNat)).length := by rw [nameF_length, List.length_take]; have := HN.out; omega
      have HKL := hide hkl
      have HT := hide (nameF_take hx.out)
      have hbl := World.block_lt_of_cell? _ _ x0
      clear hkl
      by_cases hw : x.kind ≠ 7 ∧ x.kind ≠ 0
      · have n7 : (x.kind != 7) = true := by simp [hw.1]
        have n0 : (x.kind != 0) = true := by simp [hw.2]
        have b7 : (x.kind == 7) = false := by simp [hw.1]
        have b0 : (x.kind == 0) = false := by simp [hw.2]
        have HO := hide (show nameO v.toNat x = ⟨5, 0, 0, 0, v⟩ by unfold nameO; rw [if_pos hw, UInt64.ofNat_toNat])
        have hown2 := hown.alloc (.cells #[.int .i64 5, .int .i64 0, .int .i64 0, .int .i64 0, .int .u64 (v.toNat : Int)] 99)
        have hb2 := hb.alloc hzr (.cells #[.int .i64 5, .int .i64 0, .int .i64 0, .int .i64 0, .int .u64 (v.toNat : Int)] 99)
        clear hw
        go_wp2_with (at_builtin; go_must (refine wpList_push tyO hown2 (⟨5, 0, 0, 0, v⟩ : OpD) rfl rfl rfl rfl rfl (by simp) HKL.out hb2.size (by omega) ?_; intro a4 c4 w4 hown4 hg4 _))
        go_roundw
        case rel => exact ⟨v.toNat + 1, a4, c4, by go_num, by omega, rfl, by rw [HT.out, HO.out]; exact hown4, below_push hb2 hown2 hg4 hb2.size⟩
        case measure => simp [intOf]; omega
      · have HO := hide (show nameO v.toNat x = x by unfold nameO; rw [if_neg hw])
        by_cases h7 : x.kind = 7
        · have n7 : (x.kind != 7) = false := by simp [h7]
          clear hw h7
          go_wp2_with (at_builtin; go_must (refine wpList_push tyO hown1 x rfl rfl rfl rfl rfl (by simp) HKL.out hb1.size (by omega) ?_; intro a4 c4 w4 hown4 hg4 _))
          go_roundw
          case rel => exact ⟨v.toNat + 1, a4, c4, by go_num, by omega, rfl, by rw [HT.out, HO.out]; exact hown4, below_push hb1 hown1 hg4 hb1.size⟩
          case measure => simp [intOf]; omega
        · have n7 : (x.kind != 7) = true := by simp [h7]
          have n0 : (x.kind != 0) = false := by have : x.kind = 0 := Classical.byContradiction fun h0 => hw ⟨h7, h0⟩
                                                simp [this]
          clear hw h7
          go_wp2_with (at_builtin; go_must (refine wpList_push tyO hown1 x rfl rfl rfl rfl rfl (by simp) HKL.out hb1.size (by omega) ?_; intro a4 c4 w4 hown4 hg4 _))
          go_roundw
          case rel => exact ⟨v.toNat + 1, a4, c4, by go_num, by omega, rfl, by rw [HT.out, HO.out]; exact hown4, below_push hb1 hown1 hg4 hb1.size⟩
          case measure => simp [intOf]; omega
    · have hkn : v.toNat = n := by omega
      rw [hkn, HN.out, List.take_length] at hown
      go_wp2
      go_ret
      exact ⟨ao, co, by rw [← hkn]; rfl, hown, hb⟩
end Go.Proofs.Ythncfoompoheoaa
