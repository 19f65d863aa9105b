/- Several texts of mine in one file: C23a, Ch, C23b, C23c, C23d. -/
import Derived.Test.YtmmepffdjmpblaaGreatQh
import Derived.Test.YtmmepffdjmpblaaGreatQk
import Derived.Lib.AppendZeros
import Derived.Test.YtmmepffdjmpblaaGreatQn
/- Chapter 10: Pair and Dims, the program's and the document's. -/
namespace Go.Proofs.YtmmepffdjmpblaaGreat
set_option linter.unusedVariables false
set_option linter.unusedSimpArgs false
open Go.RowKit
/-- may two programs be? -/
def pairS (p q : PrD) : Int := firstS [p, q]
theorem firstL_pair (p q : PrD) : ∀ ks : List Nat, firstL [p, q] ks = 0 → firstL [p] ks = 0 ∧ firstL [q] ks = 0 := by
  intro ks
  induction ks with
  | nil => intro _; exact ⟨rfl, rfl⟩
  | cons k ks ih =>
    intro h
    simp only [firstL, rowE] at h ⊢
    by_cases h1 : errI k p = 0
    · by_cases h2 : errI k q = 0
      · simp only [h1, h2, ne_eq, not_true_eq_false, if_false] at h ⊢; exact ih h
      · simp only [h1, ne_eq, not_true_eq_false, if_false, h2, not_false_eq_true, if_true] at h
    · simp only [ne_eq, h1, not_false_eq_true, if_true] at h
theorem pairS_ok {p q : PrD} (h : pairS p q = 0) : checkS p.regs p.l = 0 ∧ checkS q.regs q.l = 0 := by
  obtain ⟨h1, h2⟩ := firstL_pair p q _ h
  exact ⟨(firstS_one p).symm.trans h1, (firstS_one q).symm.trans h2⟩
/-- are there registers enough? -/
def dimsC (r1 r2 x t : Int) : Int := if (x < 1 ∨ 64 < x ∨ t < 0 ∨ 64 < t) ∨ r1 < x + t + 1 ∨ r2 < x + t then 10 else 0
theorem Pair_calls (p q : PrD) (w : World) (h : At w p.a p.l) (hl : p.l.length ≤ 1000000) (h' : At w q.a q.l) (hl' : q.l.length ≤ 1000000) (E : Int) (hE : pairS p q = E) :
    Calls Tryz.prog 29 #[.agg #[.int .i64 p.regs, .slice p.a p.l.length p.c], .agg #[.int .i64 q.regs, .slice q.a q.l.length q.c]] w fun e w' => e = .returned (.int .i64 E) ∧ Below w.heap.size w w' := by
  obtain ⟨w0, hw0⟩ : ∃ w0, w0 = (w.alloc (.cells #[.int .i64 p.regs, .slice p.a p.l.length p.c] 24)).alloc (.cells #[.int .i64 q.regs, .slice q.a q.l.length q.c] 24) := ⟨_, rfl⟩
  have hb0 : Below w.heap.size w w0 := by rw [hw0]; exact ((below_new _ _).alloc (by simp) _)
  have hb : Below w.heap.size w (w0.alloc (.cells #[.int .i64 p.regs, .slice p.a p.l.length p.c, .int .i64 q.regs, .slice q.a q.l.length q.c] 106)) := hb0.alloc hb0.size _
  have hat : At (w0.alloc (.cells #[.int .i64 p.regs, .slice p.a p.l.length p.c, .int .i64 q.regs, .slice q.a q.l.length q.c] 106)) (some ⟨w0.heap.size, 0, none⟩) [p, q] :=
    At.ofBlk (g := w0.heap.size) (T := 106) (Blk.new w0 106 #[.int .i64 p.regs, .slice p.a p.l.length p.c, .int .i64 q.regs, .slice q.a q.l.length q.c]) ([p, q] : List PrD) rfl
  have hg : w0.heap.size = w.heap.size + 1 + 1 := by rw [hw0]; simp
  have HF : Calls Tryz.prog 52 #[.slice (some ⟨w0.heap.size, 0, none⟩) 2 2] (w0.alloc (.cells #[.int .i64 p.regs, .slice p.a p.l.length p.c, .int .i64 q.regs, .slice q.a q.l.length q.c] 106)) fun e w' => e = .returned (.int .i64 (firstS [p, q])) ∧ Below (w0.alloc (.cells #[.int .i64 p.regs, .slice p.a p.l.length p.c, .int .i64 q.regs, .slice q.a q.l.length q.c] 106)).heap.size (w0.alloc (.cells #[.int .i64 p.regs, .slice p.a p.l.length p.c, .int .i64 q.regs, .slice q.a q.l.length q.c] 106)) w' :=
    first_calls (some ⟨w0.heap.size, 0, none⟩) 2 [p, q] _ hat (by simp) (fun r hr => by
      simp at hr
      rcases hr with rfl | rfl
      · exact ⟨h.belowN hb, hl⟩
      · exact ⟨h'.belowN hb, hl'⟩)
  have e : firstS [p, q] = E := hE
  rw [e, hg] at HF
  rw [hw0] at HF hb
  have HF := hide HF
  clear e hE hat hb0 hw0 hg
  go_enter Tryz.func29, Tryz.ntmps29
  go_wp2_with (go_at_call 52; go_must ((with_reducible refine (HF.out).mono ?_); rintro e w1 ⟨rfl, hb1⟩))
  go_ret
  exact ⟨rfl, hb.trans (hb1.mono hb.size)⟩
theorem Dims_calls (p q : PrD) (x t : Int) (hx : -9223372036854775808 ≤ x ∧ x ≤ 9223372036854775807) (ht : -9223372036854775808 ≤ t ∧ t ≤ 9223372036854775807) (w : World) :
    Calls Tryz.prog 30 #[.agg #[.int .i64 p.regs, .slice p.a p.l.length p.c], .agg #[.int .i64 q.regs, .slice q.a q.l.length q.c], .int .i64 x, .int .i64 t] w fun e w' => e = .returned (.int .i64 (dimsC p.regs q.regs x t)) ∧ Below w.heap.size w w' := by
  have hb0 : Below w.heap.size w ((w.alloc (.cells #[.int .i64 p.regs, .slice p.a p.l.length p.c] 24)).alloc (.cells #[.int .i64 q.regs, .slice q.a q.l.length q.c] 24)) := ((below_new _ _).alloc (by simp) _)
  go_enter Tryz.func30, Tryz.ntmps30
  go_wp2_with (go_at_call 53; go_must ((with_reducible refine (fail_calls _ _ _).mono ?_); rintro e w1 ⟨rfl, rfl⟩))
  all_goals
    go_ret
    refine ⟨?_, hb0⟩
    unfold dimsC
    first
      | (rw [if_pos (by omega)] <;> rfl)
      | (rw [if_neg (by omega)] <;> rfl)
end Go.Proofs.YtmmepffdjmpblaaGreat

/- Chapter 23, plain: what a chain's steps and losses are. -/
namespace Go.Proofs.YtmmepffdjmpblaaGreat
set_option linter.unusedVariables false
set_option linter.unusedSimpArgs false
open Go.RowKit
/-- a chain's programs, how many numbers a state has, the fixed numbers -/
structure ChD where
  p : PrD
  q : PrD
  x : Int
  th : List UInt64
def ChD.bad (c : ChD) : Int := if pairS c.p c.q ≠ 0 then pairS c.p c.q else dimsC c.p.regs c.q.regs c.x c.th.length
structure ChD.Ok (c : ChD) : Prop where
  hp : ∃ f : Fo, c.p.l = f.flat ∧ Good c.p.regs f
  hq : ∃ f : Fo, c.q.l = f.flat ∧ Good c.q.regs f
  x1 : 1 ≤ c.x
  x2 : c.x ≤ 64
  t2 : c.th.length ≤ 64
  r1 : c.x + c.th.length + 1 ≤ c.p.regs
  r2 : c.x + c.th.length ≤ c.q.regs
theorem ChD.ok_of {c : ChD} (h : c.bad = 0) : c.Ok := by
  unfold ChD.bad at h
  by_cases h1 : pairS c.p c.q = 0
  · rw [if_neg (by simpa using h1)] at h
    obtain ⟨k1, k2⟩ := pairS_ok h1
    have hd : ¬ ((c.x < 1 ∨ 64 < c.x ∨ (c.th.length : Int) < 0 ∨ 64 < (c.th.length : Int)) ∨ c.p.regs < c.x + c.th.length + 1 ∨ c.q.regs < c.x + c.th.length) := by
      intro hh
      unfold dimsC at h
      rw [if_pos hh] at h
      omega
    exact ⟨good_of_check k1, good_of_check k2, by omega, by omega, by omega, by omega, by omega⟩
  · rw [if_pos h1] at h; exact absurd h h1
/-- may a state of so many numbers be at a time? -/
def ChD.may (c : ChD) (t : Int) (n : Nat) : Int := if t < 0 ∨ 65536 ≤ t then 2 else if (n : Int) ≠ c.x then 10 else 0
/-- what a step begins with -/
def ChD.beg (c : ChD) (t : Int) (xs : List UInt64) : List UInt64 := xs ++ c.th ++ [UInt64.ofNat t.toNat]
noncomputable def ChD.step (c : ChD) (t : Int) (xs : List UInt64) : List UInt64 := (uptoS c.p.regs c.p.l (c.beg t xs) (-1)).take c.x.toNat
noncomputable def ChD.loss (c : ChD) (xs : List UInt64) : UInt64 := (uptoS c.q.regs c.q.l (xs ++ c.th) (-1)).getD 0 0
noncomputable def ChD.iter (c : ChD) (xs : List UInt64) : Nat → List UInt64
  | 0 => xs
  | t + 1 => c.step (t : Int) (c.iter xs t)
noncomputable def ChD.states (c : ChD) (xs : List UInt64) (l : Nat) : List (List UInt64) := (List.range (l + 1)).map (c.iter xs)
section
variable {c : ChD} (hc : c.Ok)
include hc
theorem ChD.step_run {t : Int} {xs : List UInt64} (hx : (xs.length : Int) = c.x) : dimsS c.p.regs c.p.l (c.beg t xs).length = 0 ∧ (uptoS c.p.regs c.p.l (c.beg t xs) (-1)).length = c.p.regs.toNat := by
  obtain ⟨f, hf, g⟩ := hc.hp
  have h1 := hc.r1
  have h2 := hc.x1
  have hl : ((c.beg t xs).length : Int) ≤ c.p.regs := by unfold ChD.beg; simp; omega
  rw [hf]
  refine ⟨dims_of_good g hl, ?_⟩
  rw [uptoS_good g hl, runR_length, startR_length _ _ (by omega)]
theorem ChD.step_length {t : Int} {xs : List UInt64} (hx : (xs.length : Int) = c.x) : ((c.step t xs).length : Int) = c.x := by
  have h1 := hc.r1
  have h2 := hc.x1
  unfold ChD.step
  rw [List.length_take, (c.step_run hc hx).2]
  omega
theorem ChD.loss_run {xs : List UInt64} (hx : (xs.length : Int) = c.x) : dimsS c.q.regs c.q.l (xs ++ c.th).length = 0 ∧ (uptoS c.q.regs c.q.l (xs ++ c.th) (-1)).length = c.q.regs.toNat := by
  obtain ⟨f, hf, g⟩ := hc.hq
  have h1 := hc.r2
  have h2 := hc.x1
  have hl : ((xs ++ c.th).length : Int) ≤ c.q.regs := by simp; omega
  rw [hf]
  refine ⟨dims_of_good g hl, ?_⟩
  rw [uptoS_good g hl, runR_length, startR_length _ _ (by omega)]
theorem ChD.iter_length {xs : List UInt64} (hx : (xs.length : Int) = c.x) : ∀ t, ((c.iter xs t).length : Int) = c.x
  | 0 => hx
  | t + 1 => c.step_length hc (ChD.iter_length hx t)
end
theorem ChD.states_length (c : ChD) (xs : List UInt64) (l : Nat) : (c.states xs l).length = l + 1 := by unfold ChD.states; simp
theorem ChD.states_at (c : ChD) (xs : List UInt64) (l : Nat) {k : Nat} (h : k ≤ l) : (c.states xs l)[k]? = some (c.iter xs k) := by
  unfold ChD.states; rw [List.getElem?_map, List.getElem?_range (by omega)]; rfl
theorem ChD.states_succ (c : ChD) (xs : List UInt64) (l : Nat) : c.states xs (l + 1) = c.states xs l ++ [c.iter xs (l + 1)] := by
  unfold ChD.states; rw [List.range_succ, List.map_append]; rfl
theorem ChD.states_take (c : ChD) (xs : List UInt64) {l m : Nat} (h : l ≤ m) : (c.states xs m).take (l + 1) = c.states xs l := by
  unfold ChD.states; rw [← List.map_take, List.take_range, Nat.min_eq_left (by omega)]
end Go.Proofs.YtmmepffdjmpblaaGreat

/- Chapter 23: lists of words, one behind the other: slices.Concat, and the document's Joined. -/
namespace Go.Proofs.YtmmepffdjmpblaaGreat
set_option linter.unusedVariables false
set_option linter.unusedSimpArgs false
open Go.RowKit Go.Lib
theorem Own.takeN {α : Type} [Flat α] {w : World} {B : Nat} {E : TypeId} {a : Option Addr} {c : Nat} : ∀ (d : Nat) {l : List α} (h : Own w B E a c l) (k : Nat), l.length ≤ k + d → Own w B E a c (l.take k)
  | 0, l, h, k, hd => by rw [List.take_of_length_le (by omega)]; exact h
  | d + 1, l, h, k, hd => by
    by_cases hk : l.length ≤ k
    · rw [List.take_of_length_le hk]; exact h
    · have hl : l ≠ [] := by rintro rfl; simp at hk
      have h2 := Own.takeN d (h.pop hl) k (by rw [List.length_dropLast]; omega)
      rwa [List.dropLast_eq_take, List.take_take, Nat.min_eq_left (by omega)] at h2
set_option maxHeartbeats 1600000 in
theorem Grow_calls (n : Nat) (hn : n ≤ 1000000) (w : World) :
    Calls Tryz.prog 45 #[.slice none 0 0, .int .i64 n] w fun e w' => ∃ a' c', e = .returned (.slice a' 0 c') ∧ Own w' w.heap.size 50 a' c' ([] : List UInt64) ∧ Below w.heap.size w w' := by
  rcases Nat.eq_zero_or_pos n with rfl | h0
  · go_enter Tryz.func45, Tryz.ntmps45
    go_wp2
    go_ret
    exact ⟨none, 0, rfl, Own.none _ _ _, Below.refl _ _⟩
  · have h1 : ¬ ((n : Int) < 0) := by omega
    have h2 : (n : Int) > 0 := by omega
    obtain ⟨i, hi, hz, hsz, hby⟩ := tyU0.info
    have hcap := grownCap_le_maxLen w n 0 50 (by simp only [maxLen]; omega)
    have hge := grownCap_ge w n 0 50
    have hrun := fun ty => run_append_nil_zeros w 25 3 ty 50 i (.int .u64 0) .i64 .i64 Tryz.underlying25 Tryz.underlying3 hi hz n h0 (by omega) (by omega) (Nat.le_trans (Nat.mul_le_mul hn hby) (by decide))
    have HRUN := hide hrun
    obtain ⟨C, hC⟩ : ∃ C, grownCap w n 0 50 = C := ⟨_, rfl⟩
    rw [hC] at hcap hge hrun
    have HR := hide hrun
    clear HRUN hrun
    have hown : Own (w.drew.alloc (.cells (Builtin.zeroCells (Value.int .u64 0).cells n ++ Builtin.zeroCells (Value.int .u64 0).cells (C - n)) 50)) w.heap.size 50 (some ⟨w.heap.size, 0, none⟩) C ([] : List UInt64) :=
      World.ownsRow_made w.drew _ C (Nat.le_refl _) hcap (by rw [Array.size_append, size_zeroCells, size_zeroCells]; show n * 1 + (C - n) * 1 = C * 1; omega)
    have hbel : Below w.heap.size w (w.drew.alloc (.cells (Builtin.zeroCells (Value.int .u64 0).cells n ++ Builtin.zeroCells (Value.int .u64 0).cells (C - n)) 50)) := (Below.drew (Below.refl _ _)).alloc (Nat.le_refl _) _
    have HO := hide hown
    have HB := hide hbel
    clear hown hbel hC
    go_enter Tryz.func45, Tryz.ntmps45
    go_wp2_with (at_builtin; refine Lib.wpList_append_run _ rfl _ _ _ _ rfl _ _ rfl rfl _ _ (HR.out _) ?_)
    go_ret
    exact ⟨_, C, rfl, HO.out, HB.out⟩
theorem flat_take {ls : List (List UInt64)} {k : Nat} {l : List UInt64} (h : ls[k]? = some l) : (ls.take (k + 1)).flatten = (ls.take k).flatten ++ l := by
  rw [List.take_add_one, h]; simp
theorem flat_le (ls : List (List UInt64)) (k : Nat) : (ls.take k).flatten.length ≤ ls.flatten.length := by
  conv => rhs; rw [← List.take_append_drop k ls]
  rw [List.flatten_append, List.length_append]; omega
set_option maxHeartbeats 1600000 in
theorem Concat_calls (a : Option Addr) (c n : Nat) (ls : List (List UInt64)) (w : World) (hn : n = ls.length) (h : AtL w a ls) (hl : n ≤ 1000000) (hf : ls.flatten.length ≤ 1000000) (N : Nat) (hN : N = ls.flatten.length) :
    Calls Tryz.prog 21 #[.slice a n c] w fun e w' => ∃ a' c', e = .returned (.slice a' N c') ∧ Own w' w.heap.size 50 a' c' ls.flatten ∧ Below w.heap.size w w' := by
  have HN := hide hn
  have HF := hide hf
  have HNN := hide hN
  have HL := hide (flat_le ls)
  clear hn hf hN
  go_enter Tryz.func21, Tryz.ntmps21
  go_wp2
  go_loopw [3, 5, 11] (fun sz _ iv wr => ∃ k m : Nat, iv = .int .i64 k ∧ k ≤ n ∧ sz = .int .i64 m ∧ Hid (m = (ls.take k).flatten.length) ∧ wr = w) (fun _ _ iv _ => n - (intOf iv).toNat)
  case atStart => exact ⟨0, 0, rfl, by omega, rfl, by show _ = _; simp, rfl⟩
  case round =>
    obtain ⟨k, m, rfl, hk, rfl, hm, rfl⟩ := hrel
    by_cases hkn : k < n
    · obtain ⟨b, off, ha, hc, l, rfl, hx, x0, hcap, hat⟩ := h.get (Below.refl _ _) (by rw [← HN.out]; exact hkn)
      have HM := hide (show m + l.length = (ls.take (k + 1)).flatten.length by rw [flat_take hx.out, List.length_append, hm.out])
      have hle : m + l.length ≤ 1000000 := by rw [HM.out]; exact Nat.le_trans (HL.out _) HF.out
      go_wp2
      go_roundw
      case rel => exact ⟨k + 1, m + l.length, by go_num, by omega, by go_num, HM.out, trivial⟩
      case measure => simp [intOf]; omega
    · obtain rfl : n = k := by omega
      have hmN : N = m := by rw [hm.out, HN.out, List.take_length, HNN.out]
      have hNl : N ≤ 1000000 := by rw [HNN.out]; exact HF.out
      subst hmN
      clear hm
      go_wp2_with (go_at_call 45; go_must ((with_reducible refine (Grow_calls N hNl _).mono ?_); rintro e w1 ⟨a1, c1, rfl, hown1, hb1⟩))
      obtain ⟨w, rfl⟩ : ∃ w0 : World, w0 = wr := ⟨_, rfl⟩
      go_loopw [6, 8, 27] (fun ov _ iv wr => ∃ (k m : Nat) (ao : Option Addr) (co : Nat), iv = .int .i64 k ∧ k ≤ n ∧ ov = .slice ao m co ∧ Hid (m = (ls.take k).flatten.length) ∧ Own wr w.heap.size 50 ao co (ls.take k).flatten ∧ Below w.heap.size w wr) (fun _ _ iv _ => n - (intOf iv).toNat)
      case atStart => exact ⟨0, 0, _, _, rfl, by omega, rfl, by show _ = _; simp, by simpa using hown1, hb1⟩
      case round =>
        obtain ⟨k, m, ao, co, rfl, hk, rfl, hm, hown, hbr⟩ := hrel
        have hzr := hbr.size
        by_cases hkn : k < n
        · obtain ⟨b, off, ha, hc, l, rfl, hx, x0, hcap, hat⟩ := h.get hbr (by rw [← HN.out]; exact hkn)
          have HT := hide (flat_take hx.out)
          have HM := hide (show m + l.length = (ls.take (k + 1)).flatten.length by rw [flat_take hx.out, List.length_append, hm.out])
          have hle : m + l.length ≤ 1000000 := by rw [HM.out]; exact Nat.le_trans (HL.out _) HF.out
          have hatr := hat.belowN hbr
          go_wp2_with (at_builtin; refine wpList_pushAll tyU hown hatr rfl rfl rfl rfl hm.out rfl hzr (by omega) (by omega) ?_; intro a3 c3 w3 hown3 hg3 _)
          go_roundw
          case rel => exact ⟨k + 1, m + l.length, a3, c3, by go_num, by omega, rfl, HM.out, by rw [HT.out]; exact hown3, below_push hbr hown hg3 hzr⟩
          case measure => simp [intOf]; omega
        · obtain rfl : n = k := by omega
          have hmN : m = N := by rw [hm.out, HN.out, List.take_length, HNN.out]
          rw [HN.out, List.take_length] at hown
          subst hmN
          clear hm
          go_wp2
          go_ret
          exact ⟨ao, co, rfl, hown, hbr⟩
set_option maxHeartbeats 1600000 in
theorem Joined_calls (a b d : Option Addr) (ca cb cd n1 n2 n3 : Nat) (l m r : List UInt64) (w : World) (e1 : n1 = l.length) (e2 : n2 = m.length) (e3 : n3 = r.length) (h0 : At w a l) (h1 : At w b m) (h2 : At w d r) (hl1 : n1 ≤ 1000000) (hl2 : n2 ≤ 1000000) (hl3 : n3 ≤ 1000000) :
    Calls Tryz.prog 25 #[.slice a n1 ca, .slice b n2 cb, .slice d n3 cd] w fun e w' => ∃ a' c', e = .returned (.slice a' (n1 + n2 + n3) c') ∧ Own w' w.heap.size 50 a' c' (l ++ m ++ r) ∧ Below w.heap.size w w' := by
  have hown : Own (w.alloc (.cells #[] 50)) w.heap.size 50 (some ⟨w.heap.size, 0, none⟩) 0 ([] : List UInt64) := Own.new w (Nat.le_refl _) _ _
  have hbr := below_new12 w (.cells #[] 50)
  have E1 := hide e1
  have E2 := hide e2
  have E3 := hide e3
  clear e1 e2 e3
  go_enter Tryz.func25, Tryz.ntmps25
  go_wp2
  go_loopw [7, 8] (fun ov iv wr => ∃ (k : Nat) (ao : Option Addr) (co : Nat), iv = .int .i64 k ∧ k ≤ n1 ∧ ov = .slice ao (k) co ∧ Own wr w.heap.size 50 ao co (l.take k) ∧ Below w.heap.size w wr) (fun _ iv _ => n1 - (intOf iv).toNat)
  case atStart => exact ⟨0, _, _, rfl, by omega, rfl, by simpa using hown, hbr⟩
  case round =>
    obtain ⟨k, ao, co, rfl, hk, rfl, hown, hbr⟩ := hrel
    have hzr := hbr.size
    by_cases hlt : k < n1
    · obtain ⟨b1, off1, x, rfl, hx, x0⟩ := h0.getU hbr (by rw [← E1.out]; exact hlt)
      have HT := hide (take_snoc' hx.out)
      have HLEN := hide (show k = (l.take k).length by have h1 := E1.out; have h2 := E2.out; have h3 := E3.out; simp only [List.length_append, List.length_take]; omega)
      go_wp2_with (at_builtin; refine wpList_push tyU hown x rfl rfl rfl rfl rfl rfl HLEN.out hzr (by omega) ?_; intro a3 c3 w3 hown3 hg3 _)
      go_roundw
      case rel => exact ⟨k + 1, a3, c3, by go_num, by omega, rfl, by rw [← HT.out]; simpa using hown3, below_push hbr hown hg3 hzr⟩
      case measure => simp [intOf]; omega
    · obtain rfl : n1 = k := by omega
      rw [E1.out, List.take_length] at hown
      clear hlt hk hzr
      obtain ⟨wo, rfl⟩ : ∃ wo : World, wo = wr := ⟨_, rfl⟩
      obtain ⟨ap, rfl⟩ : ∃ ap : Option Addr, ap = ao := ⟨_, rfl⟩
      obtain ⟨cp, rfl⟩ : ∃ cp : Nat, cp = co := ⟨_, rfl⟩
      go_wp2
      go_loopw [7, 9] (fun ov iv wr => ∃ (k : Nat) (ao : Option Addr) (co : Nat), iv = .int .i64 k ∧ k ≤ n2 ∧ ov = .slice ao (n1 + k) co ∧ Own wr w.heap.size 50 ao co (l ++ m.take k) ∧ Below w.heap.size w wr) (fun _ iv _ => n2 - (intOf iv).toNat)
      case atStart => exact ⟨0, _, _, rfl, by omega, rfl, by simpa using hown, hbr⟩
      case round =>
        obtain ⟨k, ao, co, rfl, hk, rfl, hown, hbr⟩ := hrel
        have hzr := hbr.size
        by_cases hlt : k < n2
        · obtain ⟨b1, off1, x, rfl, hx, x0⟩ := h1.getU hbr (by rw [← E2.out]; exact hlt)
          have HT := hide (take_snoc' hx.out)
          have HLEN := hide (show n1 + k = (l ++ m.take k).length by have h1 := E1.out; have h2 := E2.out; have h3 := E3.out; simp only [List.length_append, List.length_take]; omega)
          go_wp2_with (at_builtin; refine wpList_push tyU hown x rfl rfl rfl rfl rfl rfl HLEN.out hzr (by omega) ?_; intro a3 c3 w3 hown3 hg3 _)
          go_roundw
          case rel => exact ⟨k + 1, a3, c3, by go_num, by omega, rfl, by rw [← HT.out]; simpa using hown3, below_push hbr hown hg3 hzr⟩
          case measure => simp [intOf]; omega
        · obtain rfl : n2 = k := by omega
          rw [E2.out, List.take_length] at hown
          clear hlt hk hzr
          obtain ⟨wo, rfl⟩ : ∃ wo : World, wo = wr := ⟨_, rfl⟩
          obtain ⟨ap, rfl⟩ : ∃ ap : Option Addr, ap = ao := ⟨_, rfl⟩
          obtain ⟨cp, rfl⟩ : ∃ cp : Nat, cp = co := ⟨_, rfl⟩
          go_wp2
          go_loopw [7, 10] (fun ov iv wr => ∃ (k : Nat) (ao : Option Addr) (co : Nat), iv = .int .i64 k ∧ k ≤ n3 ∧ ov = .slice ao (n1 + n2 + k) co ∧ Own wr w.heap.size 50 ao co (l ++ m ++ r.take k) ∧ Below w.heap.size w wr) (fun _ iv _ => n3 - (intOf iv).toNat)
          case atStart => exact ⟨0, _, _, rfl, by omega, rfl, by simpa using hown, hbr⟩
          case round =>
            obtain ⟨k, ao, co, rfl, hk, rfl, hown, hbr⟩ := hrel
            have hzr := hbr.size
            by_cases hlt : k < n3
            · obtain ⟨b1, off1, x, rfl, hx, x0⟩ := h2.getU hbr (by rw [← E3.out]; exact hlt)
              have HT := hide (take_snoc' hx.out)
              have HLEN := hide (show n1 + n2 + k = (l ++ m ++ r.take k).length by have h1 := E1.out; have h2 := E2.out; have h3 := E3.out; simp only [List.length_append, List.length_take]; omega)
              go_wp2_with (at_builtin; refine wpList_push tyU hown x rfl rfl rfl rfl rfl rfl HLEN.out hzr (by omega) ?_; intro a3 c3 w3 hown3 hg3 _)
              go_roundw
              case rel => exact ⟨k + 1, a3, c3, by go_num, by omega, rfl, by rw [← HT.out]; simpa using hown3, below_push hbr hown hg3 hzr⟩
              case measure => simp [intOf]; omega
            · obtain rfl : n3 = k := by omega
              rw [E3.out, List.take_length] at hown
              go_wp2
              go_ret
              exact ⟨ao, co, rfl, hown, hbr⟩
end Go.Proofs.YtmmepffdjmpblaaGreat

/- Chapter 23: a chain in memory; New. -/
namespace Go.Proofs.YtmmepffdjmpblaaGreat
set_option linter.unusedVariables false
set_option linter.unusedSimpArgs false
open Go.RowKit
/-- a chain that lies somewhere -/
def ChAt (w : World) (g : Nat) (c : ChD) : Prop :=
  ∃ (a b ta : Option Addr) (ca cb tc : Nat), Blk w g 57 #[.int .i64 c.p.regs, .slice a c.p.l.length ca, .int .i64 c.q.regs, .slice b c.q.l.length cb, .int .i64 c.x, .slice ta c.th.length tc] ∧ At w a c.p.l ∧ At w b c.q.l ∧ At w ta c.th ∧ c.th.length ≤ tc
theorem ChAt.belowN {w w' : World} {g : Nat} {c : ChD} (h : ChAt w g c) (hb : Below w.heap.size w w') : ChAt w' g c := by
  obtain ⟨a, b, ta, ca, cb, tc, h0, h1, h2, h3, h4⟩ := h
  exact ⟨a, b, ta, ca, cb, tc, h0.belowN hb, h1.belowN hb, h2.belowN hb, h3.belowN hb, h4⟩
theorem ChAt.lt {w : World} {g : Nat} {c : ChD} (h : ChAt w g c) : g < w.heap.size := by
  obtain ⟨a, b, ta, ca, cb, tc, h0, _⟩ := h
  exact h0.lt
theorem May_calls (g : Nat) (c : ChD) (t : Int) (a : Option Addr) (n k : Nat) (w : World) (h : ChAt w g c) (hn : n ≤ 1000000) (E : Int) (hE : c.may t n = E) :
    Calls Tryz.prog 19 #[.pointer (some ⟨g, 0, none⟩), .int .i64 t, .slice a n k] w fun e w' => e = .returned (.int .i64 E) ∧ w = w' := by
  obtain ⟨a1, b1, ta, ca, cb, tc, h0, h1, h2, h3, h4⟩ := h
  have x0 := h0.cell_ (i := 4) (v := .int .i64 c.x) rfl
  unfold ChD.may at hE
  by_cases ht : t < 0 ∨ 65536 ≤ t
  · rw [if_pos ht] at hE
    subst hE
    rcases ht with ht | ht
    · go_enter Tryz.func19, Tryz.ntmps19
      go_wp2
      go_ret
      exact ⟨rfl, rfl⟩
    · have hq : ¬ (t < 0) := by omega
      go_enter Tryz.func19, Tryz.ntmps19
      go_wp2
      go_ret
      exact ⟨rfl, rfl⟩
  · rw [if_neg ht] at hE
    have ht1 : ¬ (t < 0) := by omega
    have ht2 : ¬ (65536 ≤ t) := by omega
    have ht3 : ¬ (t ≥ 65536) := by omega
    by_cases hx : (n : Int) = c.x
    · rw [if_neg (by simpa using hx)] at hE
      subst hE
      have e1 : ((n : Int) != c.x) = false := by simpa using hx
      have e2 : ((n : Int) == c.x) = true := by simpa using hx
      clear hx
      go_enter Tryz.func19, Tryz.ntmps19
      go_wp2
      go_ret
      exact ⟨rfl, rfl⟩
    · rw [if_pos hx] at hE
      subst hE
      have e1 : ((n : Int) != c.x) = true := by simpa using hx
      have e2 : ((n : Int) == c.x) = false := by simpa using hx
      clear hx
      go_enter Tryz.func19, Tryz.ntmps19
      go_wp2
      go_ret
      exact ⟨rfl, rfl⟩
theorem results_row_one {P : Program} {fn : Func} {p : Tmp} {ty : TypeId} (h : fn.results = #[.cell p ty]) (tmps : Array Value) (w : World) (g : Nat) (t : TypeId) (cs : Array Value) (fr : Nat × Nat) (d : TypeDesc)
    (hp : tmps.getD p undef = .pointer (some ⟨g, 0, none⟩)) (hg : w.heap[g]? = some (.cells cs t fr)) (hu : P.underlying ty = some d) (hd : (match d with | .struct _ | .array _ _ => true | _ => false) = true) (hi : (P.info? ty).map (·.size) = some cs.size) :
    (results fn tmps).run P w = .ok (.agg cs) w := by
  have hp' : tmps[p]?.getD undef = .pointer (some ⟨g, 0, none⟩) := by simpa using hp
  simp only [results, h]
  simp [Sem.run_bind, hp', asAddr, run_loadVar_row w g t ty cs fr d hg hu hd hi, Result.andThen]
set_option maxHeartbeats 1600000 in
theorem New1_calls (p : PrD) (w : World) (h : At w p.a p.l) (hl : p.l.length ≤ 1000000) :
    Calls Tryz.prog 31 #[.agg #[.int .i64 p.regs, .slice p.a p.l.length p.c]] w fun e w' => ∃ a' c', e = .returned (.agg #[.int .i64 p.regs, .slice a' p.l.length c']) ∧ Own w' w.heap.size 71 a' c' p.l ∧ Below w.heap.size w w' := by
  have hb0 := (below_new w (.cells #[.int .i64 p.regs, .slice p.a p.l.length p.c] 24)).alloc (by simp) (.cells #[.int .i64 0, .slice none 0 0] 24)
  have hX := (Blk.new w 24 #[.int .i64 p.regs, .slice p.a p.l.length p.c]).alloc (.cells #[.int .i64 0, .slice none 0 0] 24)
  have hF := Blk.new (w.alloc (.cells #[.int .i64 p.regs, .slice p.a p.l.length p.c] 24)) 24 #[.int .i64 0, .slice none 0 0]
  simp only [World.size_alloc] at hF
  have h1 := h.belowN hb0
  go_enter Tryz.func31, Tryz.ntmps31
  go_wp2
  obtain ⟨w0, hw0⟩ : ∃ w0, w0 = (w.alloc (.cells #[.int .i64 p.regs, .slice p.a p.l.length p.c] 24)).alloc (.cells #[.int .i64 0, .slice none 0 0] 24) := ⟨_, rfl⟩
  rw [← hw0] at hb0 hX hF h1 ⊢
  have hz0 : w0.heap.size = w.heap.size + 2 := by rw [hw0]; simp
  clear hw0
  obtain ⟨p0, p1, p2, p3⟩ := hX.c2
  obtain ⟨q0, q1, q2, q3⟩ := hF.c2
  have hd0 := Below.drew (Below.refl w0.heap.size w0)
  have h2 := h1.belowN hd0
  go_region_held3 (fun w' => w'.cell? ⟨w.heap.size, 0, none⟩ = some (.int .i64 p.regs) ∧ w'.cell? ⟨w.heap.size, 1, none⟩ = some (.slice p.a p.l.length p.c)) (go_keep)
    ((go_at_call 32; go_must (refine (CloneO_calls _ _ _ p.l _ rfl h2 (by omega)).mono ?_; rintro e w1 ⟨a1, c1, rfl, hown1, hb1⟩; have hB1 := hd0.trans (hb1.mono hd0.size); obtain ⟨r0, r1, r2, r3⟩ := (hX.belowN hB1).c2; have hF1 := hF.belowN hB1; obtain ⟨s0, s1, s2, s3⟩ := hF1.c2)))
  have hF2 := ((hF1.set_ 0 (.int .i64 p.regs)).set_ 1 (.slice a1 p.l.length c1))
  try go_wp2
  try simp only [Exit.then, Exit.inBlock]
  have hB9 := hb0.trans (hB1.mono hb0.size)
  have hz9 := hB1.size
  refine bodyPost_ret (results_row_one rfl _ _ (w.heap.size + 1) _ #[.int .i64 p.regs, .slice a1 p.l.length c1] (0, 0) _ rfl hF2 Tryz.underlying24 rfl (by kernel_rfl)) rfl ⟨a1, c1, rfl, ?_, ?_⟩
  · have h9 : w.heap.size + 1 < w0.drew.heap.size := by show w.heap.size + 1 < w0.heap.size; omega
    exact ((hown1.setCell (p := ⟨w.heap.size + 1, 0, none⟩) h9 _).setCell (p := ⟨w.heap.size + 1, 1, none⟩) h9 _).mono (by show w.heap.size ≤ w0.heap.size; omega)
  · exact (hB9.setCell (p := ⟨w.heap.size + 1, 0, none⟩) (by simp) _).setCell (p := ⟨w.heap.size + 1, 1, none⟩) (by simp) _
theorem NewBad_calls (c : ChD) (a : Option Addr) (k : Nat) (w : World) (h : At w c.p.a c.p.l) (hl : c.p.l.length ≤ 1000000) (h' : At w c.q.a c.q.l) (hl' : c.q.l.length ≤ 1000000) (hx : -9223372036854775808 ≤ c.x ∧ c.x ≤ 9223372036854775807) (hn : c.th.length ≤ 1000000) (E : Int) (hE : c.bad = E) (h0 : E ≠ 0) :
    Calls Tryz.prog 14 #[.agg #[.int .i64 c.p.regs, .slice c.p.a c.p.l.length c.p.c], .agg #[.int .i64 c.q.regs, .slice c.q.a c.q.l.length c.q.c], .int .i64 c.x, .slice a c.th.length k] w fun e w' => e = .returned (.tuple #[.pointer none, .int .i64 E]) ∧ Below w.heap.size w w' := by
  have hb0 : Below w.heap.size w ((w.alloc (.cells #[.int .i64 c.p.regs, .slice c.p.a c.p.l.length c.p.c] 24)).alloc (.cells #[.int .i64 c.q.regs, .slice c.q.a c.q.l.length c.q.c] 24)) := ((below_new _ _).alloc (by simp) _)
  have hX := (Blk.new w 24 #[.int .i64 c.p.regs, .slice c.p.a c.p.l.length c.p.c]).alloc (.cells #[.int .i64 c.q.regs, .slice c.q.a c.q.l.length c.q.c] 24)
  have hY := Blk.new (w.alloc (.cells #[.int .i64 c.p.regs, .slice c.p.a c.p.l.length c.p.c] 24)) 24 #[.int .i64 c.q.regs, .slice c.q.a c.q.l.length c.q.c]
  simp only [World.size_alloc] at hY
  have h1 := h.belowN hb0
  have h2 := h'.belowN hb0
  obtain ⟨P, hP⟩ : ∃ P, pairS c.p c.q = P := ⟨_, rfl⟩
  unfold ChD.bad at hE
  rw [hP] at hE
  have HP := hide hP
  by_cases hP0 : P = 0
  · subst hP0
    rw [if_neg (by simp)] at hE
    have e1 : (E == 0) = false := by simpa using h0
    have e2 : (E != 0) = true := by simpa using h0
    have HD := hide (fun w => hE ▸ Dims_calls c.p c.q c.x (c.th.length : Int) hx (by omega) w)
    clear hE hP h0
    go_enter Tryz.func14, Tryz.ntmps14
    go_wp2_with (first
      | (go_at_call 29; go_must ((with_reducible refine (Pair_calls c.p c.q _ h1 hl h2 hl' 0 HP.out).mono ?_); rintro e w1 ⟨rfl, hb1⟩; have hB1 := hb0.trans (hb1.mono hb0.size); have hz1 := hB1.size; obtain ⟨p0, p1, p2, p3⟩ := (hX.belowN hb1).c2; obtain ⟨q0, q1, q2, q3⟩ := (hY.belowN hb1).c2))
      | (go_at_call 30; go_must ((with_reducible refine (HD.out _).mono ?_); rintro e w2 ⟨rfl, hb2⟩)))
    go_ret2
    exact ⟨rfl, hB1.trans (hb2.mono hz1)⟩
  · rw [if_pos hP0] at hE
    subst hE
    have e1 : (P == 0) = false := by simpa using hP0
    have e2 : (P != 0) = true := by simpa using hP0
    clear hP hP0 h0
    go_enter Tryz.func14, Tryz.ntmps14
    go_wp2_with (go_at_call 29; go_must ((with_reducible refine (Pair_calls c.p c.q _ h1 hl h2 hl' P HP.out).mono ?_); rintro e w1 ⟨rfl, hb1⟩; have hB1 := hb0.trans (hb1.mono hb0.size)))
    go_ret2
    exact ⟨rfl, hB1⟩
set_option maxRecDepth 100000 in
set_option maxHeartbeats 3200000 in
theorem NewGood_calls (c : ChD) (a : Option Addr) (k : Nat) (w : World) (h : At w c.p.a c.p.l) (hl : c.p.l.length ≤ 1000000) (h' : At w c.q.a c.q.l) (hl' : c.q.l.length ≤ 1000000) (h3 : At w a c.th) (hx : -9223372036854775808 ≤ c.x ∧ c.x ≤ 9223372036854775807) (hn : c.th.length ≤ 1000000) (hE : c.bad = 0) :
    Calls Tryz.prog 14 #[.agg #[.int .i64 c.p.regs, .slice c.p.a c.p.l.length c.p.c], .agg #[.int .i64 c.q.regs, .slice c.q.a c.q.l.length c.q.c], .int .i64 c.x, .slice a c.th.length k] w fun e w' => ∃ g, e = .returned (.tuple #[.pointer (some ⟨g, 0, none⟩), .int .i64 0]) ∧ ChAt w' g c ∧ w.heap.size ≤ g ∧ Below w.heap.size w w' := by
  have hb0 : Below w.heap.size w ((w.alloc (.cells #[.int .i64 c.p.regs, .slice c.p.a c.p.l.length c.p.c] 24)).alloc (.cells #[.int .i64 c.q.regs, .slice c.q.a c.q.l.length c.q.c] 24)) := ((below_new _ _).alloc (by simp) _)
  have hX := (Blk.new w 24 #[.int .i64 c.p.regs, .slice c.p.a c.p.l.length c.p.c]).alloc (.cells #[.int .i64 c.q.regs, .slice c.q.a c.q.l.length c.q.c] 24)
  have hY := Blk.new (w.alloc (.cells #[.int .i64 c.p.regs, .slice c.p.a c.p.l.length c.p.c] 24)) 24 #[.int .i64 c.q.regs, .slice c.q.a c.q.l.length c.q.c]
  simp only [World.size_alloc] at hY
  have h1 := h.belowN hb0
  have h2 := h'.belowN hb0
  have h4 := h3.belowN hb0
  have hP : pairS c.p c.q = 0 := by
    refine Classical.byContradiction fun hn => ?_
    unfold ChD.bad at hE
    rw [if_pos hn] at hE
    exact hn hE
  unfold ChD.bad at hE
  rw [if_neg (by simpa using hP)] at hE
  have HP := hide hP
  have HD := hide (fun w => hE ▸ Dims_calls c.p c.q c.x (c.th.length : Int) hx (by omega) w)
  clear hE hP
  go_enter Tryz.func14, Tryz.ntmps14
  go_wp2_with (first
    | (go_at_call 29; go_must ((with_reducible refine (Pair_calls c.p c.q _ h1 hl h2 hl' 0 HP.out).mono ?_); rintro e w1 ⟨rfl, hb1⟩; have hB1 := hb0.trans (hb1.mono hb0.size); have hz1 := hB1.size; obtain ⟨p0, p1, p2, p3⟩ := (hX.belowN hb1).c2; obtain ⟨q0, q1, q2, q3⟩ := (hY.belowN hb1).c2))
    | (go_at_call 30; go_must ((with_reducible refine (HD.out _).mono ?_); rintro e w2 ⟨rfl, hb2⟩; have hb3 := hb1.trans (hb2.mono hb1.size); obtain ⟨r0, r1, r2, r3⟩ := (hX.belowN hb3).c2; obtain ⟨s0, s1, s2, s3⟩ := (hY.belowN hb3).c2)))
  have hX2 := hX.belowN hb3
  have hY2 := hY.belowN hb3
  have hP2 := h1.belowN hb3
  have hQ2 := h2.belowN hb3
  have hT2 := h4.belowN hb3
  have hB3 := hb0.trans (hb3.mono hb0.size)
  have hz3 := hB3.size
  have hB := Below.drew (Below.refl w2.heap.size w2)
  clear hX hY h1 h2 h4 h h' h3 hb0 hb1 hb2 hb3 hB1 hz1 p0 p1 p2 p3 q0 q1 q2 q3
  go_region_held3 (fun w' => w'.cell? ⟨w.heap.size, 0, none⟩ = some (.int .i64 c.p.regs) ∧ w'.cell? ⟨w.heap.size, 1, none⟩ = some (.slice c.p.a c.p.l.length c.p.c) ∧ w'.cell? ⟨w.heap.size + 1, 0, none⟩ = some (.int .i64 c.q.regs) ∧ w'.cell? ⟨w.heap.size + 1, 1, none⟩ = some (.slice c.q.a c.q.l.length c.q.c)) (go_keep)
    (first
      | (go_at_call 31; refine (New1_calls c.p _ (hP2.belowN hB) hl).mono ?_; rintro e wx ⟨aP, cP, rfl, hoP, hb⟩; have hB := hB.trans (hb.mono hB.size); (try have hoQ := hoQ.belowN hb); (try have hoT := hoT.belowN hb); obtain ⟨x0, x1, x2, x3⟩ := (hX2.belowN hB).c2; obtain ⟨y0, y1, y2, y3⟩ := (hY2.belowN hB).c2)
      | (go_at_call 31; refine (New1_calls c.q _ (hQ2.belowN hB) hl').mono ?_; rintro e wx ⟨aQ, cQ, rfl, hoQ, hb⟩; have hB := hB.trans (hb.mono hB.size); (try have hoP := hoP.belowN hb); (try have hoT := hoT.belowN hb); obtain ⟨x0, x1, x2, x3⟩ := (hX2.belowN hB).c2; obtain ⟨y0, y1, y2, y3⟩ := (hY2.belowN hB).c2)
      | (go_at_call 33; refine (CloneU_calls _ _ _ c.th _ rfl (hT2.belowN hB) (by omega)).mono ?_; rintro e wx ⟨aT, cT, rfl, hoT, hb⟩; have hB := hB.trans (hb.mono hB.size); (try have hoP := hoP.belowN hb); (try have hoQ := hoQ.belowN hb); obtain ⟨x0, x1, x2, x3⟩ := (hX2.belowN hB).c2; obtain ⟨y0, y1, y2, y3⟩ := (hY2.belowN hB).c2))
  have hN := below_new wx (.cells #[.int .i64 c.p.regs, .slice aP c.p.l.length cP, .int .i64 c.q.regs, .slice aQ c.q.l.length cQ, .int .i64 c.x, .slice aT c.th.length cT] 57)
  have hBx := hB3.trans (hB.mono hz3)
  have hzx := hBx.size
  go_wp2
  go_ret2
  exact ⟨wx.heap.size, rfl, ⟨aP, aQ, aT, cP, cQ, cT, Blk.new wx _ _, hoP.at_.belowN hN, hoQ.at_.belowN hN, hoT.at_.belowN hN, hoT.cap.1⟩, hzx, hBx.trans (hN.mono hzx)⟩
end Go.Proofs.YtmmepffdjmpblaaGreat

/- Chapter 23: a step and a loss. -/
namespace Go.Proofs.YtmmepffdjmpblaaGreat
set_option linter.unusedVariables false
set_option linter.unusedSimpArgs false
open Go.RowKit
/-- lists in the cells of a block -/
theorem AtL.ofBlk {w : World} {g : Nat} {T : TypeId} {cs : Array Value} (hs : List Hd) (ls : List (List UInt64)) (h : Blk w g T cs) (hcs : cs.toList = hs.flatMap Flat.enc) (hl : hs.length = ls.length)
    (hh : ∀ (i : Nat) (h : Hd) (l : List UInt64), hs[i]? = some h → ls[i]? = some l → h.n = l.length ∧ l.length ≤ h.c ∧ At w h.a l) : AtL w (some ⟨g, 0, none⟩) ls := ⟨hs, At.ofBlk h hs hcs, hl, hh⟩
/-- what a call hands back that is its own, cut behind -/
def Fresh (B : Nat) (w : World) (a : Option Addr) : Prop := ∀ g, a.map (·.block) = some g → B ≤ g ∧ g < w.heap.size
theorem StepBad_calls (g : Nat) (c : ChD) (t : Int) (a : Option Addr) (n k : Nat) (w : World) (h : ChAt w g c) (hn : n ≤ 1000000) (E : Int) (hE : c.may t n = E) (h0 : E ≠ 0) :
    Calls Tryz.prog 54 #[.pointer (some ⟨g, 0, none⟩), .int .i64 t, .slice a n k] w fun e w' => e = .returned (.tuple #[.slice none 0 0, .int .i64 E]) ∧ w = w' := by
  have HM := hide (May_calls g c t a n k w h hn E hE)
  have e1 : (E == 0) = false := by simpa using h0
  have e2 : (E != 0) = true := by simpa using h0
  clear h0 hE
  go_enter Tryz.func54, Tryz.ntmps54
  go_wp2_with (go_at_call 19; go_must ((with_reducible refine (HM.out).mono ?_); rintro e w1 ⟨rfl, rfl⟩))
  go_ret2
  exact ⟨rfl, rfl⟩
set_option maxRecDepth 100000 in
set_option maxHeartbeats 1600000 in
theorem StepGood_calls (g : Nat) (c : ChD) (hc : c.Ok) (v : UInt64) (a : Option Addr) (n k : Nat) (xs : List UInt64) (w : World) (h : ChAt w g c) (hat : At w a xs) (hn : n = xs.length) (hnk : n ≤ k) (hx : (n : Int) = c.x) (hv : v.toNat < 65536) (R : List UInt64) (hR : c.step (v.toNat : Int) xs = R) :
    Calls Tryz.prog 54 #[.pointer (some ⟨g, 0, none⟩), .int .i64 (v.toNat : Int), .slice a n k] w fun e w' => ∃ a' k', e = .returned (.tuple #[.slice a' n k', .int .i64 0]) ∧ n ≤ k' ∧ At w' a' R ∧ Fresh w.heap.size w' a' ∧ Below w.heap.size w w' := by
  have hmay : c.may (v.toNat : Int) n = 0 := by unfold ChD.may; rw [if_neg (by omega), if_neg (by simpa using hx)]
  have hx2 := hc.x2
  have hx1 := hc.x1
  have ht2 := hc.t2
  have hr1 := hc.r1
  have HM := hide (May_calls g c (v.toNat : Int) a n k w h (by omega) 0 hmay)
  obtain ⟨d1, d2⟩ := c.step_run hc (t := (v.toNat : Int)) (xs := xs) (by rw [← hn]; exact hx)
  obtain ⟨X, hX⟩ : ∃ X, uptoS c.p.regs c.p.l (c.beg (v.toNat : Int) xs) (-1) = X := ⟨_, rfl⟩
  have hb : c.beg (v.toNat : Int) xs = [xs, c.th, [v]].flatten := by
    unfold ChD.beg
    rw [Int.toNat_natCast, UInt64.ofNat_toNat]
    simp
  rw [hX] at d2
  rw [hb] at d1 hX
  unfold ChD.step at hR
  rw [hb, hX] at hR
  have hXl : n ≤ X.length := by omega
  have hxn : c.x.toNat = n := by omega
  rw [hxn] at hR
  obtain ⟨pa, qa, ta, pc, qc, tc, h0, h1, h2, h3, h4⟩ := h
  have hpl : c.p.l.length ≤ 1000000 := by
    obtain ⟨f, hf, g⟩ := hc.hp
    rw [hf]; have := g.len; unfold Fo.size at this; omega
  obtain ⟨pl, hpln⟩ : ∃ pl, c.p.l.length = pl := ⟨_, rfl⟩
  obtain ⟨tn, htn⟩ : ∃ tn, c.th.length = tn := ⟨_, rfl⟩
  have hwr : IntKind.u64.wrap (v.toNat : Int) = (v.toNat : Int) := IntWalk.u64_in _ (by omega)
  have hpl2 : pl ≤ 1000000 := by rw [← hpln]; exact hpl
  have htn64 : tn ≤ 64 := by rw [← htn]; exact ht2
  have hn64 : n ≤ 64 := by omega
  have hfl : ([xs, c.th, [v]].flatten : List UInt64).length = n + tn + 1 := by simp; omega
  obtain ⟨L, hL⟩ : ∃ L, L = ([xs, c.th, [v]].flatten : List UInt64) := ⟨_, rfl⟩
  rw [← hL] at d1 hX hfl
  have HL := hide hL
  have HX := hide hX
  have HD := hide d1
  have HPL := hide hpln.symm
  have HFL := hide hfl.symm
  have HR := hide hR
  have hN1 : Below w.heap.size w (w.alloc (.cells #[.int .u64 (v.toNat : Int)] 50)) := (Below.refl _ _).alloc (Nat.le_refl _) _
  have hN : Below w.heap.size w ((w.alloc (.cells #[.int .u64 (v.toNat : Int)] 50)).alloc (.cells #[.slice a n k, .slice ta tn tc, .slice (some ⟨w.heap.size, 0, none⟩) 1 1] 25)).drew := (hN1.alloc (by simp) _).drew
  have hBk := Blk.new (w.alloc (.cells #[.int .u64 (v.toNat : Int)] 50)) 25 #[.slice a n k, .slice ta tn tc, .slice (some ⟨w.heap.size, 0, none⟩) 1 1]
  have hv1 : At ((w.alloc (.cells #[.int .u64 (v.toNat : Int)] 50)).alloc (.cells #[.slice a n k, .slice ta tn tc, .slice (some ⟨w.heap.size, 0, none⟩) 1 1] 25)).drew (some ⟨w.heap.size, 0, none⟩) [v] :=
    At.ofBlk (((Blk.new w 50 #[.int .u64 (v.toNat : Int)]).alloc _).belowN (Below.drew (Below.refl _ _))) [v] rfl
  have hAL : AtL ((w.alloc (.cells #[.int .u64 (v.toNat : Int)] 50)).alloc (.cells #[.slice a n k, .slice ta tn tc, .slice (some ⟨w.heap.size, 0, none⟩) 1 1] 25)).drew (some ⟨w.heap.size + 1, 0, none⟩) [xs, c.th, [v]] := by
    have hBk2 : Blk ((w.alloc (.cells #[.int .u64 (v.toNat : Int)] 50)).alloc (.cells #[.slice a n k, .slice ta tn tc, .slice (some ⟨w.heap.size, 0, none⟩) 1 1] 25)).drew (w.heap.size + 1) 25 #[.slice a n k, .slice ta tn tc, .slice (some ⟨w.heap.size, 0, none⟩) 1 1] := by have := hBk.belowN (Below.drew (Below.refl _ _)); simpa using this
    refine AtL.ofBlk [⟨a, n, k⟩, ⟨ta, tn, tc⟩, ⟨some ⟨w.heap.size, 0, none⟩, 1, 1⟩] _ hBk2 rfl rfl fun i hd l e1 e2 => ?_
    match i, e1, e2 with
    | 0, e1, e2 => simp at e1 e2; subst e1 e2; exact ⟨hn, by show xs.length ≤ k; omega, hat.belowN hN⟩
    | 1, e1, e2 => simp at e1 e2; subst e1 e2; exact ⟨htn.symm, by show c.th.length ≤ tc; omega, h3.belowN hN⟩
    | 2, e1, e2 => simp at e1 e2; subst e1 e2; exact ⟨rfl, by show 1 ≤ 1; omega, hv1⟩
    | j + 3, e1, e2 => simp at e1
  rw [htn, hpln] at h0
  have f0 := h0.cell_ (i := 0) (v := .int .i64 c.p.regs) rfl
  have f1 := h0.cell_ (i := 1) (v := .slice pa pl pc) rfl
  have f4 := h0.cell_ (i := 4) (v := .int .i64 c.x) rfl
  have f5 := h0.cell_ (i := 5) (v := .slice ta tn tc) rfl
  have HX2 := hide (show c.x = (n : Int) from hx.symm)
  rw [← hx] at f4
  have hgl := h0.lt
  clear hn hR hX d1 hb hL hmay hN1 hBk hv1 hpln htn hfl d2
  go_enter Tryz.func54, Tryz.ntmps54
  go_wp2_with (go_at_call 19; go_must ((with_reducible refine (HM.out).mono ?_); rintro e w1 ⟨rfl, rfl⟩))
  go_region_held3 (fun w' => w'.cell? ⟨g, 0, none⟩ = some (.int .i64 c.p.regs) ∧ w'.cell? ⟨g, 1, none⟩ = some (.slice pa pl pc) ∧ w'.cell? ⟨g, 5, none⟩ = some (.slice ta tn tc)) (go_keep)
    (first
      | (go_at_call 21; (try simp only [hwr]); go_must (refine (Concat_calls _ _ 3 [xs, c.th, [v]] _ rfl hAL (by omega) (by rw [← HL.out, ← HFL.out]; omega) (n + tn + 1) (by rw [← HL.out, ← HFL.out])).mono ?_; rw [← HL.out]; rintro e w3 ⟨a3, c3, rfl, hown3, hb3⟩; have hB3 := hN.trans (hb3.mono hN.size); have hz3 := hB3.size; have hg3 := h0.belowN hB3; have m0 := hg3.cell_ (i := 0) (v := .int .i64 c.p.regs) rfl; have m1 := hg3.cell_ (i := 1) (v := .slice pa pl pc) rfl; have m5 := hg3.cell_ (i := 5) (v := .slice ta tn tc) rfl))
      | (go_at_call 55; go_must (refine (RunN c.p.regs pa pc pl c.p.l a3 c3 (n + tn + 1) L w3 X 0 HPL.out HFL.out HX.out HD.out (h1.belowN hB3) hpl2 hown3.at_ (by omega)).mono ?_; rintro e w4 ⟨a4, c4, rfl, hown4, hb4⟩; have hB4 := hB3.trans (hb4.mono hz3); have hz4 := hB4.size; have hg4 := h0.belowN hB4; have l0 := hg4.cell_ (i := 0) (v := .int .i64 c.p.regs) rfl; have l1 := hg4.cell_ (i := 1) (v := .slice pa pl pc) rfl; have l5 := hg4.cell_ (i := 5) (v := .slice ta tn tc) rfl)))
  have l4 : w4.cell? ⟨g, 4, none⟩ = some (.int .i64 (n : Int)) := by rw [hx]; exact hg4.cell_ (i := 4) (v := .int .i64 c.x) rfl
  have hcap := hown4.cap
  have c1' : n ≤ c4 := by omega
  have c2' : X.length ≤ c4 := hcap.1
  have c3' : c4 ≤ 9223372036854775807 := Nat.le_trans hcap.2 (by decide)
  go_wp2
  go_quiet (fail)
  go_wp2
  go_ret2
  have hdr := below_drawn w4 w4.heap.size nq
  have hat4 := (hown4.at_.take n).belowN hdr
  rw [HR.out] at hat4
  exact ⟨a4, n, rfl, Nat.le_refl _, hat4, fun q hq => ⟨Nat.le_trans hz3 (hown4.blk q hq).1, (hown4.blk q hq).2⟩, hB4.trans (hdr.mono hz4)⟩
theorem LossBad_calls (g : Nat) (c : ChD) (a : Option Addr) (n k : Nat) (w : World) (h : ChAt w g c) (hn : n ≤ 1000000) (E : Int) (hE : c.may 0 n = E) (h0 : E ≠ 0) :
    Calls Tryz.prog 37 #[.pointer (some ⟨g, 0, none⟩), .slice a n k] w fun e w' => e = .returned (.tuple #[.int .u64 0, .int .i64 E]) ∧ w = w' := by
  have HM := hide (May_calls g c 0 a n k w h hn E hE)
  have e1 : (E == 0) = false := by simpa using h0
  have e2 : (E != 0) = true := by simpa using h0
  clear h0 hE
  go_enter Tryz.func37, Tryz.ntmps37
  go_wp2_with (go_at_call 19; go_must ((with_reducible refine (HM.out).mono ?_); rintro e w1 ⟨rfl, rfl⟩))
  go_ret2
  exact ⟨rfl, rfl⟩
set_option maxRecDepth 100000 in
set_option maxHeartbeats 1600000 in
theorem LossGood_calls (g : Nat) (c : ChD) (hc : c.Ok) (a : Option Addr) (n k : Nat) (xs : List UInt64) (w : World) (h : ChAt w g c) (hat : At w a xs) (hn : n = xs.length) (hnk : n ≤ k) (hx : (n : Int) = c.x) (R : UInt64) (hR : c.loss xs = R) :
    Calls Tryz.prog 37 #[.pointer (some ⟨g, 0, none⟩), .slice a n k] w fun e w' => e = .returned (.tuple #[.int .u64 (R.toNat : Int), .int .i64 0]) ∧ Below w.heap.size w w' := by
  have hmay : c.may 0 n = 0 := by unfold ChD.may; rw [if_neg (by omega), if_neg (by simpa using hx)]
  have hx2 := hc.x2
  have hx1 := hc.x1
  have ht2 := hc.t2
  have hr1 := hc.r2
  have HM := hide (May_calls g c 0 a n k w h (by omega) 0 hmay)
  obtain ⟨d1, d2⟩ := c.loss_run hc (xs := xs) (by rw [← hn]; exact hx)
  obtain ⟨X, hX⟩ : ∃ X, uptoS c.q.regs c.q.l (xs ++ c.th) (-1) = X := ⟨_, rfl⟩
  have hb : xs ++ c.th = [xs, c.th].flatten := by simp
  rw [hX] at d2
  rw [hb] at d1 hX
  unfold ChD.loss at hR
  rw [hb, hX] at hR
  have hXl : 0 < X.length := by omega
  have hX0 : X[0]? = some R := by
    rw [List.getD_eq_getElem?_getD, List.getElem?_eq_getElem hXl] at hR
    rw [List.getElem?_eq_getElem hXl, ← hR]; rfl
  obtain ⟨pa, qa, ta, pc, qc, tc, h0, h1, h2, h3, h4⟩ := h
  have hpl : c.q.l.length ≤ 1000000 := by
    obtain ⟨f, hf, g⟩ := hc.hq
    rw [hf]; have := g.len; unfold Fo.size at this; omega
  obtain ⟨pl, hpln⟩ : ∃ pl, c.q.l.length = pl := ⟨_, rfl⟩
  obtain ⟨tn, htn⟩ : ∃ tn, c.th.length = tn := ⟨_, rfl⟩
  have hpl2 : pl ≤ 1000000 := by rw [← hpln]; exact hpl
  have htn64 : tn ≤ 64 := by rw [← htn]; exact ht2
  have hn64 : n ≤ 64 := by omega
  have hfl : ([xs, c.th].flatten : List UInt64).length = n + tn := by simp; omega
  obtain ⟨L, hL⟩ : ∃ L, L = ([xs, c.th].flatten : List UInt64) := ⟨_, rfl⟩
  rw [← hL] at d1 hX hfl
  have HL := hide hL
  have HX := hide hX
  have HD := hide d1
  have HPL := hide hpln.symm
  have HFL := hide hfl.symm
  have HX0 := hide hX0
  have hN : Below w.heap.size w (w.alloc (.cells #[.slice a n k, .slice ta tn tc] 25)).drew := ((Below.refl _ _).alloc (Nat.le_refl _) _).drew
  have hBk := Blk.new w 25 #[.slice a n k, .slice ta tn tc]
  have hAL : AtL (w.alloc (.cells #[.slice a n k, .slice ta tn tc] 25)).drew (some ⟨w.heap.size, 0, none⟩) [xs, c.th] := by
    have hBk2 := hBk.belowN (Below.drew (Below.refl _ _))
    refine AtL.ofBlk [⟨a, n, k⟩, ⟨ta, tn, tc⟩] _ hBk2 rfl rfl fun i hd l e1 e2 => ?_
    match i, e1, e2 with
    | 0, e1, e2 => simp at e1 e2; subst e1 e2; exact ⟨hn, by show xs.length ≤ k; omega, hat.belowN hN⟩
    | 1, e1, e2 => simp at e1 e2; subst e1 e2; exact ⟨htn.symm, by show c.th.length ≤ tc; omega, h3.belowN hN⟩
    | j + 2, e1, e2 => simp at e1
  rw [htn, hpln] at h0
  have f0 := h0.cell_ (i := 2) (v := .int .i64 c.q.regs) rfl
  have f1 := h0.cell_ (i := 3) (v := .slice qa pl qc) rfl
  have f5 := h0.cell_ (i := 5) (v := .slice ta tn tc) rfl
  have hgl := h0.lt
  clear hn hR hX d1 hb hL hmay hBk hpln htn hfl d2 hX0
  go_enter Tryz.func37, Tryz.ntmps37
  go_wp2_with (go_at_call 19; go_must ((with_reducible refine (HM.out).mono ?_); rintro e w1 ⟨rfl, rfl⟩))
  go_region_held3 (fun w' => w'.cell? ⟨g, 2, none⟩ = some (.int .i64 c.q.regs) ∧ w'.cell? ⟨g, 3, none⟩ = some (.slice qa pl qc) ∧ w'.cell? ⟨g, 5, none⟩ = some (.slice ta tn tc)) (go_keep)
    (first
      | (go_at_call 21; go_must (refine (Concat_calls _ _ 2 [xs, c.th] _ rfl hAL (by omega) (by rw [← HL.out, ← HFL.out]; omega) (n + tn) (by rw [← HL.out, ← HFL.out])).mono ?_; rw [← HL.out]; rintro e w3 ⟨a3, c3, rfl, hown3, hb3⟩; have hB3 := hN.trans (hb3.mono hN.size); have hz3 := hB3.size; have hg3 := h0.belowN hB3; have m0 := hg3.cell_ (i := 2) (v := .int .i64 c.q.regs) rfl; have m1 := hg3.cell_ (i := 3) (v := .slice qa pl qc) rfl; have m5 := hg3.cell_ (i := 5) (v := .slice ta tn tc) rfl))
      | (go_at_call 55; go_must (refine (RunN c.q.regs qa qc pl c.q.l a3 c3 (n + tn) L w3 X 0 HPL.out HFL.out HX.out HD.out (h2.belowN hB3) hpl2 hown3.at_ (by omega)).mono ?_; rintro e w4 ⟨a4, c4, rfl, hown4, hb4⟩; have hB4 := hB3.trans (hb4.mono hz3); have hz4 := hB4.size; have hg4 := h0.belowN hB4; have l0 := hg4.cell_ (i := 2) (v := .int .i64 c.q.regs) rfl; have l1 := hg4.cell_ (i := 3) (v := .slice qa pl qc) rfl; have l5 := hg4.cell_ (i := 5) (v := .slice ta tn tc) rfl)))
  obtain ⟨b9, off9, x9, hba, hx9, u0⟩ := hown4.at_.getU (Below.refl _ _) hXl
  obtain rfl : R = x9 := by have := HX0.out.symm.trans hx9.out; simpa using this
  subst hba
  clear hx9
  rw [Nat.add_zero] at u0
  go_wp2
  go_ret2
  exact ⟨rfl, hB4⟩
end Go.Proofs.YtmmepffdjmpblaaGreat
