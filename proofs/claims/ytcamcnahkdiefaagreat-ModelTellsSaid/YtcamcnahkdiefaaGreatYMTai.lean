/- Several texts of mine in one file. -/
import Derived.Test.YtcamcnahkdiefaaGreatYMTag
import Derived.Test.YtcamcnahkdiefaaGreatYMTah
import Derived.Lib.AppendZeros
import Derived.Test.YtcamcnahkdiefaaGreatYMTac
import Derived.Test.YtcamcnahkdiefaaGreatYMTad
import Derived.Test.YtcamcnahkdiefaaGreatYMTaa
import Derived.Test.YtcamcnahkdiefaaGreatYMTaf
import Derived.IntWalk
import Derived.StillTailTactics
import Derived.Deep.DeepMust
import Derived.RegionTactic
import Derived.BigRegion
import Derived.Deep.OwnRows
/- Several texts of mine in one file: C23a, Ch, C23b, C23c, C23d. -/
/- Chapter 10: Pair and Dims, the program's and the document's. -/
namespace Go.Proofs.YtcamcnahkdiefaaGreat
set_option linter.unusedVariables false
set_option linter.unusedSimpArgs false
open Go.RowKit
/-- may two programs be? -/
def pairS (p q : PrD) : Int := firstS [p, q]
theorem firstL_pair (p q : PrD) : ∀ ks : List Nat, firstL [p, q] ks = 0 → firstL [p] ks = 0 ∧ firstL [q] ks = 0 := by
  intro ks
  induction ks with
  | nil => intro _; exact ⟨rfl, rfl⟩
  | cons k ks ih =>
    intro h
    simp only [firstL, rowE] at h ⊢
    by_cases h1 : errI k p = 0
    · by_cases h2 : errI k q = 0
      · simp only [h1, h2, ne_eq, not_true_eq_false, if_false] at h ⊢; exact ih h
      · simp only [h1, ne_eq, not_true_eq_false, if_false, h2, not_false_eq_true, if_true] at h
    · simp only [ne_eq, h1, not_false_eq_true, if_true] at h
theorem pairS_ok {p q : PrD} (h : pairS p q = 0) : checkS p.regs p.l = 0 ∧ checkS q.regs q.l = 0 := by
  obtain ⟨h1, h2⟩ := firstL_pair p q _ h
  exact ⟨(firstS_one p).symm.trans h1, (firstS_one q).symm.trans h2⟩
/-- are there registers enough? -/
def dimsC (r1 r2 x t : Int) : Int := if (x < 1 ∨ 64 < x ∨ t < 0 ∨ 64 < t) ∨ r1 < x + t + 1 ∨ r2 < x + t then 10 else 0
theorem Pair_calls (p q : PrD) (w : World) (h : At w p.a p.l) (hl : p.l.length ≤ 1000000) (h' : At w q.a q.l) (hl' : q.l.length ≤ 1000000) (E : Int) (hE : pairS p q = E) :
    Calls Tryz.prog 75 #[.agg #[.int .i64 p.regs, .slice p.a p.l.length p.c], .agg #[.int .i64 q.regs, .slice q.a q.l.length q.c]] w fun e w' => e = .returned (.int .i64 E) ∧ Below w.heap.size w w' := by
  obtain ⟨w0, hw0⟩ : ∃ w0, w0 = (w.alloc (.cells #[.int .i64 p.regs, .slice p.a p.l.length p.c] 24)).alloc (.cells #[.int .i64 q.regs, .slice q.a q.l.length q.c] 24) := ⟨_, rfl⟩
  have hb0 : Below w.heap.size w w0 := by rw [hw0]; exact ((below_new _ _).alloc (by simp) _)
  have hb : Below w.heap.size w (w0.alloc (.cells #[.int .i64 p.regs, .slice p.a p.l.length p.c, .int .i64 q.regs, .slice q.a q.l.length q.c] 200)) := hb0.alloc hb0.size _
  have hat : At (w0.alloc (.cells #[.int .i64 p.regs, .slice p.a p.l.length p.c, .int .i64 q.regs, .slice q.a q.l.length q.c] 200)) (some ⟨w0.heap.size, 0, none⟩) [p, q] :=
    At.ofBlk (g := w0.heap.size) (T := 200) (Blk.new w0 200 #[.int .i64 p.regs, .slice p.a p.l.length p.c, .int .i64 q.regs, .slice q.a q.l.length q.c]) ([p, q] : List PrD) rfl
  have hg : w0.heap.size = w.heap.size + 1 + 1 := by rw [hw0]; simp
  have HF : Calls Tryz.prog 123 #[.slice (some ⟨w0.heap.size, 0, none⟩) 2 2] (w0.alloc (.cells #[.int .i64 p.regs, .slice p.a p.l.length p.c, .int .i64 q.regs, .slice q.a q.l.length q.c] 200)) fun e w' => e = .returned (.int .i64 (firstS [p, q])) ∧ Below (w0.alloc (.cells #[.int .i64 p.regs, .slice p.a p.l.length p.c, .int .i64 q.regs, .slice q.a q.l.length q.c] 200)).heap.size (w0.alloc (.cells #[.int .i64 p.regs, .slice p.a p.l.length p.c, .int .i64 q.regs, .slice q.a q.l.length q.c] 200)) w' :=
    first_calls (some ⟨w0.heap.size, 0, none⟩) 2 [p, q] _ hat (by simp) (fun r hr => by
      simp at hr
      rcases hr with rfl | rfl
      · exact ⟨h.belowN hb, hl⟩
      · exact ⟨h'.belowN hb, hl'⟩)
  have e : firstS [p, q] = E := hE
  rw [e, hg] at HF
  rw [hw0] at HF hb
  have HF := hide HF
  clear e hE hat hb0 hw0 hg
  go_enter Tryz.func75, Tryz.ntmps75
  go_wp2_with (go_at_call 123; go_must ((with_reducible refine (HF.out).mono ?_); rintro e w1 ⟨rfl, hb1⟩))
  go_ret
  exact ⟨rfl, hb.trans (hb1.mono hb.size)⟩
theorem Dims_calls (p q : PrD) (x t : Int) (hx : -9223372036854775808 ≤ x ∧ x ≤ 9223372036854775807) (ht : -9223372036854775808 ≤ t ∧ t ≤ 9223372036854775807) (w : World) :
    Calls Tryz.prog 76 #[.agg #[.int .i64 p.regs, .slice p.a p.l.length p.c], .agg #[.int .i64 q.regs, .slice q.a q.l.length q.c], .int .i64 x, .int .i64 t] w fun e w' => e = .returned (.int .i64 (dimsC p.regs q.regs x t)) ∧ Below w.heap.size w w' := by
  have hb0 : Below w.heap.size w ((w.alloc (.cells #[.int .i64 p.regs, .slice p.a p.l.length p.c] 24)).alloc (.cells #[.int .i64 q.regs, .slice q.a q.l.length q.c] 24)) := ((below_new _ _).alloc (by simp) _)
  go_enter Tryz.func76, Tryz.ntmps76
  go_wp2_with (go_at_call 124; go_must ((with_reducible refine (fail_calls _ _ _).mono ?_); rintro e w1 ⟨rfl, rfl⟩))
  all_goals
    go_ret
    refine ⟨?_, hb0⟩
    unfold dimsC
    first
      | (rw [if_pos (by omega)] <;> rfl)
      | (rw [if_neg (by omega)] <;> rfl)
end Go.Proofs.YtcamcnahkdiefaaGreat

/- Chapter 23, plain: what a chain's steps and losses are. -/
namespace Go.Proofs.YtcamcnahkdiefaaGreat
set_option linter.unusedVariables false
set_option linter.unusedSimpArgs false
open Go.RowKit
/-- a chain's programs, how many numbers a state has, the fixed numbers -/
structure ChD where
  p : PrD
  q : PrD
  x : Int
  th : List UInt64
def ChD.bad (c : ChD) : Int := if pairS c.p c.q ≠ 0 then pairS c.p c.q else dimsC c.p.regs c.q.regs c.x c.th.length
structure ChD.Ok (c : ChD) : Prop where
  hp : ∃ f : Fo, c.p.l = f.flat ∧ Good c.p.regs f
  hq : ∃ f : Fo, c.q.l = f.flat ∧ Good c.q.regs f
  x1 : 1 ≤ c.x
  x2 : c.x ≤ 64
  t2 : c.th.length ≤ 64
  r1 : c.x + c.th.length + 1 ≤ c.p.regs
  r2 : c.x + c.th.length ≤ c.q.regs
theorem ChD.ok_of {c : ChD} (h : c.bad = 0) : c.Ok := by
  unfold ChD.bad at h
  by_cases h1 : pairS c.p c.q = 0
  · rw [if_neg (by simpa using h1)] at h
    obtain ⟨k1, k2⟩ := pairS_ok h1
    have hd : ¬ ((c.x < 1 ∨ 64 < c.x ∨ (c.th.length : Int) < 0 ∨ 64 < (c.th.length : Int)) ∨ c.p.regs < c.x + c.th.length + 1 ∨ c.q.regs < c.x + c.th.length) := by
      intro hh
      unfold dimsC at h
      rw [if_pos hh] at h
      omega
    exact ⟨good_of_check k1, good_of_check k2, by omega, by omega, by omega, by omega, by omega⟩
  · rw [if_pos h1] at h; exact absurd h h1
/-- may a state of so many numbers be at a time? -/
def ChD.may (c : ChD) (t : Int) (n : Nat) : Int := if t < 0 ∨ 65536 ≤ t then 2 else if (n : Int) ≠ c.x then 10 else 0
/-- what a step begins with -/
def ChD.beg (c : ChD) (t : Int) (xs : List UInt64) : List UInt64 := xs ++ c.th ++ [UInt64.ofNat t.toNat]
noncomputable def ChD.step (c : ChD) (t : Int) (xs : List UInt64) : List UInt64 := (uptoS c.p.regs c.p.l (c.beg t xs) (-1)).take c.x.toNat
noncomputable def ChD.iter (c : ChD) (xs : List UInt64) : Nat → List UInt64
  | 0 => xs
  | t + 1 => c.step (t : Int) (c.iter xs t)
section
variable {c : ChD} (hc : c.Ok)
include hc
end
end Go.Proofs.YtcamcnahkdiefaaGreat

/- Chapter 23: lists of words, one behind the other: slices.Concat, and the document's Joined. -/
namespace Go.Proofs.YtcamcnahkdiefaaGreat
set_option linter.unusedVariables false
set_option linter.unusedSimpArgs false
open Go.RowKit Go.Lib
theorem Own.takeN {α : Type} [Flat α] {w : World} {B : Nat} {E : TypeId} {a : Option Addr} {c : Nat} : ∀ (d : Nat) {l : List α} (h : Own w B E a c l) (k : Nat), l.length ≤ k + d → Own w B E a c (l.take k)
  | 0, l, h, k, hd => by rw [List.take_of_length_le (by omega)]; exact h
  | d + 1, l, h, k, hd => by
    by_cases hk : l.length ≤ k
    · rw [List.take_of_length_le hk]; exact h
    · have hl : l ≠ [] := by rintro rfl; simp at hk
      have h2 := Own.takeN d (h.pop hl) k (by rw [List.length_dropLast]; omega)
      rwa [List.dropLast_eq_take, List.take_take, Nat.min_eq_left (by omega)] at h2
set_option maxHeartbeats 1600000 in
theorem Joined_calls (a b d : Option Addr) (ca cb cd n1 n2 n3 : Nat) (l m r : List UInt64) (w : World) (e1 : n1 = l.length) (e2 : n2 = m.length) (e3 : n3 = r.length) (h0 : At w a l) (h1 : At w b m) (h2 : At w d r) (hl1 : n1 ≤ 1000000) (hl2 : n2 ≤ 1000000) (hl3 : n3 ≤ 1000000) :
    Calls Tryz.prog 56 #[.slice a n1 ca, .slice b n2 cb, .slice d n3 cd] w fun e w' => ∃ a' c', e = .returned (.slice a' (n1 + n2 + n3) c') ∧ Own w' w.heap.size 50 a' c' (l ++ m ++ r) ∧ Below w.heap.size w w' := by
  have hown : Own (w.alloc (.cells #[] 50)) w.heap.size 50 (some ⟨w.heap.size, 0, none⟩) 0 ([] : List UInt64) := Own.new w (Nat.le_refl _) _ _
  have hbr := below_new12 w (.cells #[] 50)
  have E1 := hide e1
  have E2 := hide e2
  have E3 := hide e3
  clear e1 e2 e3
  go_enter Tryz.func56, Tryz.ntmps56
  go_wp2
  go_loopw [7, 8] (fun ov iv wr => ∃ (k : Nat) (ao : Option Addr) (co : Nat), iv = .int .i64 k ∧ k ≤ n1 ∧ ov = .slice ao (k) co ∧ Own wr w.heap.size 50 ao co (l.take k) ∧ Below w.heap.size w wr) (fun _ iv _ => n1 - (intOf iv).toNat)
  case atStart => exact ⟨0, _, _, rfl, by omega, rfl, by simpa using hown, hbr⟩
  case round =>
    obtain ⟨k, ao, co, rfl, hk, rfl, hown, hbr⟩ := hrel
    have hzr := hbr.size
    by_cases hlt : k < n1
    · obtain ⟨b1, off1, x, rfl, hx, x0⟩ := h0.getU hbr (by rw [← E1.out]; exact hlt)
      have HT := hide (take_snoc' hx.out)
      have HLEN := hide (show k = (l.take k).length by have h1 := E1.out; have h2 := E2.out; have h3 := E3.out; simp only [List.length_append, List.length_take]; omega)
      go_wp2_with (at_builtin; refine wpList_push tyU hown x rfl rfl rfl rfl rfl rfl HLEN.out hzr (by omega) ?_; intro a3 c3 w3 hown3 hg3 _)
      go_roundw
      case rel => exact ⟨k + 1, a3, c3, by go_num, by omega, rfl, by rw [← HT.out]; simpa using hown3, below_push hbr hown hg3 hzr⟩
      case measure => simp [intOf]; omega
    · obtain rfl : n1 = k := by omega
      rw [E1.out, List.take_length] at hown
      clear hlt hk hzr
      obtain ⟨wo, rfl⟩ : ∃ wo : World, wo = wr := ⟨_, rfl⟩
      obtain ⟨ap, rfl⟩ : ∃ ap : Option Addr, ap = ao := ⟨_, rfl⟩
      obtain ⟨cp, rfl⟩ : ∃ cp : Nat, cp = co := ⟨_, rfl⟩
      go_wp2
      go_loopw [7, 9] (fun ov iv wr => ∃ (k : Nat) (ao : Option Addr) (co : Nat), iv = .int .i64 k ∧ k ≤ n2 ∧ ov = .slice ao (n1 + k) co ∧ Own wr w.heap.size 50 ao co (l ++ m.take k) ∧ Below w.heap.size w wr) (fun _ iv _ => n2 - (intOf iv).toNat)
      case atStart => exact ⟨0, _, _, rfl, by omega, rfl, by simpa using hown, hbr⟩
      case round =>
        obtain ⟨k, ao, co, rfl, hk, rfl, hown, hbr⟩ := hrel
        have hzr := hbr.size
        by_cases hlt : k < n2
        · obtain ⟨b1, off1, x, rfl, hx, x0⟩ := h1.getU hbr (by rw [← E2.out]; exact hlt)
          have HT := hide (take_snoc' hx.out)
          have HLEN := hide (show n1 + k = (l ++ m.take k).length by have h1 := E1.out; have h2 := E2.out; have h3 := E3.out; simp only [List.length_append, List.length_take]; omega)
          go_wp2_with (at_builtin; refine wpList_push tyU hown x rfl rfl rfl rfl rfl rfl HLEN.out hzr (by omega) ?_; intro a3 c3 w3 hown3 hg3 _)
          go_roundw
          case rel => exact ⟨k + 1, a3, c3, by go_num, by omega, rfl, by rw [← HT.out]; simpa using hown3, below_push hbr hown hg3 hzr⟩
          case measure => simp [intOf]; omega
        · obtain rfl : n2 = k := by omega
          rw [E2.out, List.take_length] at hown
          clear hlt hk hzr
          obtain ⟨wo, rfl⟩ : ∃ wo : World, wo = wr := ⟨_, rfl⟩
          obtain ⟨ap, rfl⟩ : ∃ ap : Option Addr, ap = ao := ⟨_, rfl⟩
          obtain ⟨cp, rfl⟩ : ∃ cp : Nat, cp = co := ⟨_, rfl⟩
          go_wp2
          go_loopw [7, 10] (fun ov iv wr => ∃ (k : Nat) (ao : Option Addr) (co : Nat), iv = .int .i64 k ∧ k ≤ n3 ∧ ov = .slice ao (n1 + n2 + k) co ∧ Own wr w.heap.size 50 ao co (l ++ m ++ r.take k) ∧ Below w.heap.size w wr) (fun _ iv _ => n3 - (intOf iv).toNat)
          case atStart => exact ⟨0, _, _, rfl, by omega, rfl, by simpa using hown, hbr⟩
          case round =>
            obtain ⟨k, ao, co, rfl, hk, rfl, hown, hbr⟩ := hrel
            have hzr := hbr.size
            by_cases hlt : k < n3
            · obtain ⟨b1, off1, x, rfl, hx, x0⟩ := h2.getU hbr (by rw [← E3.out]; exact hlt)
              have HT := hide (take_snoc' hx.out)
              have HLEN := hide (show n1 + n2 + k = (l ++ m ++ r.take k).length by have h1 := E1.out; have h2 := E2.out; have h3 := E3.out; simp only [List.length_append, List.length_take]; omega)
              go_wp2_with (at_builtin; refine wpList_push tyU hown x rfl rfl rfl rfl rfl rfl HLEN.out hzr (by omega) ?_; intro a3 c3 w3 hown3 hg3 _)
              go_roundw
              case rel => exact ⟨k + 1, a3, c3, by go_num, by omega, rfl, by rw [← HT.out]; simpa using hown3, below_push hbr hown hg3 hzr⟩
              case measure => simp [intOf]; omega
            · obtain rfl : n3 = k := by omega
              rw [E3.out, List.take_length] at hown
              go_wp2
              go_ret
              exact ⟨ao, co, rfl, hown, hbr⟩
end Go.Proofs.YtcamcnahkdiefaaGreat

/- Chapter 23: a chain in memory; New. -/
namespace Go.Proofs.YtcamcnahkdiefaaGreat
set_option linter.unusedVariables false
set_option linter.unusedSimpArgs false
open Go.RowKit
/-- a chain that lies somewhere -/
def ChAt (w : World) (g : Nat) (c : ChD) : Prop :=
  ∃ (a b ta : Option Addr) (ca cb tc : Nat), Blk w g 149 #[.int .i64 c.p.regs, .slice a c.p.l.length ca, .int .i64 c.q.regs, .slice b c.q.l.length cb, .int .i64 c.x, .slice ta c.th.length tc] ∧ At w a c.p.l ∧ At w b c.q.l ∧ At w ta c.th ∧ c.th.length ≤ tc
theorem ChAt.belowN {w w' : World} {g : Nat} {c : ChD} (h : ChAt w g c) (hb : Below w.heap.size w w') : ChAt w' g c := by
  obtain ⟨a, b, ta, ca, cb, tc, h0, h1, h2, h3, h4⟩ := h
  exact ⟨a, b, ta, ca, cb, tc, h0.belowN hb, h1.belowN hb, h2.belowN hb, h3.belowN hb, h4⟩
theorem ChAt.lt {w : World} {g : Nat} {c : ChD} (h : ChAt w g c) : g < w.heap.size := by
  obtain ⟨a, b, ta, ca, cb, tc, h0, _⟩ := h
  exact h0.lt
theorem results_row_one {P : Program} {fn : Func} {p : Tmp} {ty : TypeId} (h : fn.results = #[.cell p ty]) (tmps : Array Value) (w : World) (g : Nat) (t : TypeId) (cs : Array Value) (fr : Nat × Nat) (d : TypeDesc)
    (hp : tmps.getD p undef = .pointer (some ⟨g, 0, none⟩)) (hg : w.heap[g]? = some (.cells cs t fr)) (hu : P.underlying ty = some d) (hd : (match d with | .struct _ | .array _ _ => true | _ => false) = true) (hi : (P.info? ty).map (·.size) = some cs.size) :
    (results fn tmps).run P w = .ok (.agg cs) w := by
  have hp' : tmps[p]?.getD undef = .pointer (some ⟨g, 0, none⟩) := by simpa using hp
  simp only [results, h]
  simp [Sem.run_bind, hp', asAddr, run_loadVar_row w g t ty cs fr d hg hu hd hi, Result.andThen]
set_option maxHeartbeats 1600000 in
theorem New1_calls (p : PrD) (w : World) (h : At w p.a p.l) (hl : p.l.length ≤ 1000000) :
    Calls Tryz.prog 77 #[.agg #[.int .i64 p.regs, .slice p.a p.l.length p.c]] w fun e w' => ∃ a' c', e = .returned (.agg #[.int .i64 p.regs, .slice a' p.l.length c']) ∧ Own w' w.heap.size 89 a' c' p.l ∧ Below w.heap.size w w' := by
  have hb0 := (below_new w (.cells #[.int .i64 p.regs, .slice p.a p.l.length p.c] 24)).alloc (by simp) (.cells #[.int .i64 0, .slice none 0 0] 24)
  have hX := (Blk.new w 24 #[.int .i64 p.regs, .slice p.a p.l.length p.c]).alloc (.cells #[.int .i64 0, .slice none 0 0] 24)
  have hF := Blk.new (w.alloc (.cells #[.int .i64 p.regs, .slice p.a p.l.length p.c] 24)) 24 #[.int .i64 0, .slice none 0 0]
  simp only [World.size_alloc] at hF
  have h1 := h.belowN hb0
  go_enter Tryz.func77, Tryz.ntmps77
  go_wp2
  obtain ⟨w0, hw0⟩ : ∃ w0, w0 = (w.alloc (.cells #[.int .i64 p.regs, .slice p.a p.l.length p.c] 24)).alloc (.cells #[.int .i64 0, .slice none 0 0] 24) := ⟨_, rfl⟩
  rw [← hw0] at hb0 hX hF h1 ⊢
  have hz0 : w0.heap.size = w.heap.size + 2 := by rw [hw0]; simp
  clear hw0
  obtain ⟨p0, p1, p2, p3⟩ := hX.c2
  obtain ⟨q0, q1, q2, q3⟩ := hF.c2
  have hd0 := Below.drew (Below.refl w0.heap.size w0)
  have h2 := h1.belowN hd0
  go_region_held3 (fun w' => w'.cell? ⟨w.heap.size, 0, none⟩ = some (.int .i64 p.regs) ∧ w'.cell? ⟨w.heap.size, 1, none⟩ = some (.slice p.a p.l.length p.c)) (go_keep)
    ((go_at_call 78; go_must (refine (CloneO_calls _ _ _ p.l _ rfl h2 (by omega)).mono ?_; rintro e w1 ⟨a1, c1, rfl, hown1, hb1⟩; have hB1 := hd0.trans (hb1.mono hd0.size); obtain ⟨r0, r1, r2, r3⟩ := (hX.belowN hB1).c2; have hF1 := hF.belowN hB1; obtain ⟨s0, s1, s2, s3⟩ := hF1.c2)))
  have hF2 := ((hF1.set_ 0 (.int .i64 p.regs)).set_ 1 (.slice a1 p.l.length c1))
  try go_wp2
  try simp only [Exit.then, Exit.inBlock]
  have hB9 := hb0.trans (hB1.mono hb0.size)
  have hz9 := hB1.size
  refine bodyPost_ret (results_row_one rfl _ _ (w.heap.size + 1) _ #[.int .i64 p.regs, .slice a1 p.l.length c1] (0, 0) _ rfl hF2 Tryz.underlying24 rfl (by kernel_rfl)) rfl ⟨a1, c1, rfl, ?_, ?_⟩
  · have h9 : w.heap.size + 1 < w0.drew.heap.size := by show w.heap.size + 1 < w0.heap.size; omega
    exact ((hown1.setCell (p := ⟨w.heap.size + 1, 0, none⟩) h9 _).setCell (p := ⟨w.heap.size + 1, 1, none⟩) h9 _).mono (by show w.heap.size ≤ w0.heap.size; omega)
  · exact (hB9.setCell (p := ⟨w.heap.size + 1, 0, none⟩) (by simp) _).setCell (p := ⟨w.heap.size + 1, 1, none⟩) (by simp) _
theorem NewBad_calls (c : ChD) (a : Option Addr) (k : Nat) (w : World) (h : At w c.p.a c.p.l) (hl : c.p.l.length ≤ 1000000) (h' : At w c.q.a c.q.l) (hl' : c.q.l.length ≤ 1000000) (hx : -9223372036854775808 ≤ c.x ∧ c.x ≤ 9223372036854775807) (hn : c.th.length ≤ 1000000) (E : Int) (hE : c.bad = E) (h0 : E ≠ 0) :
    Calls Tryz.prog 36 #[.agg #[.int .i64 c.p.regs, .slice c.p.a c.p.l.length c.p.c], .agg #[.int .i64 c.q.regs, .slice c.q.a c.q.l.length c.q.c], .int .i64 c.x, .slice a c.th.length k] w fun e w' => e = .returned (.tuple #[.pointer none, .int .i64 E]) ∧ Below w.heap.size w w' := by
  have hb0 : Below w.heap.size w ((w.alloc (.cells #[.int .i64 c.p.regs, .slice c.p.a c.p.l.length c.p.c] 24)).alloc (.cells #[.int .i64 c.q.regs, .slice c.q.a c.q.l.length c.q.c] 24)) := ((below_new _ _).alloc (by simp) _)
  have hX := (Blk.new w 24 #[.int .i64 c.p.regs, .slice c.p.a c.p.l.length c.p.c]).alloc (.cells #[.int .i64 c.q.regs, .slice c.q.a c.q.l.length c.q.c] 24)
  have hY := Blk.new (w.alloc (.cells #[.int .i64 c.p.regs, .slice c.p.a c.p.l.length c.p.c] 24)) 24 #[.int .i64 c.q.regs, .slice c.q.a c.q.l.length c.q.c]
  simp only [World.size_alloc] at hY
  have h1 := h.belowN hb0
  have h2 := h'.belowN hb0
  obtain ⟨P, hP⟩ : ∃ P, pairS c.p c.q = P := ⟨_, rfl⟩
  unfold ChD.bad at hE
  rw [hP] at hE
  have HP := hide hP
  by_cases hP0 : P = 0
  · subst hP0
    rw [if_neg (by simp)] at hE
    have e1 : (E == 0) = false := by simpa using h0
    have e2 : (E != 0) = true := by simpa using h0
    have HD := hide (fun w => hE ▸ Dims_calls c.p c.q c.x (c.th.length : Int) hx (by omega) w)
    clear hE hP h0
    go_enter Tryz.func36, Tryz.ntmps36
    go_wp2_with (first
      | (go_at_call 75; go_must ((with_reducible refine (Pair_calls c.p c.q _ h1 hl h2 hl' 0 HP.out).mono ?_); rintro e w1 ⟨rfl, hb1⟩; have hB1 := hb0.trans (hb1.mono hb0.size); have hz1 := hB1.size; obtain ⟨p0, p1, p2, p3⟩ := (hX.belowN hb1).c2; obtain ⟨q0, q1, q2, q3⟩ := (hY.belowN hb1).c2))
      | (go_at_call 76; go_must ((with_reducible refine (HD.out _).mono ?_); rintro e w2 ⟨rfl, hb2⟩)))
    go_ret2
    exact ⟨rfl, hB1.trans (hb2.mono hz1)⟩
  · rw [if_pos hP0] at hE
    subst hE
    have e1 : (P == 0) = false := by simpa using hP0
    have e2 : (P != 0) = true := by simpa using hP0
    clear hP hP0 h0
    go_enter Tryz.func36, Tryz.ntmps36
    go_wp2_with (go_at_call 75; go_must ((with_reducible refine (Pair_calls c.p c.q _ h1 hl h2 hl' P HP.out).mono ?_); rintro e w1 ⟨rfl, hb1⟩; have hB1 := hb0.trans (hb1.mono hb0.size)))
    go_ret2
    exact ⟨rfl, hB1⟩
set_option maxRecDepth 100000 in
set_option maxHeartbeats 3200000 in
theorem NewGood_calls (c : ChD) (a : Option Addr) (k : Nat) (w : World) (h : At w c.p.a c.p.l) (hl : c.p.l.length ≤ 1000000) (h' : At w c.q.a c.q.l) (hl' : c.q.l.length ≤ 1000000) (h3 : At w a c.th) (hx : -9223372036854775808 ≤ c.x ∧ c.x ≤ 9223372036854775807) (hn : c.th.length ≤ 1000000) (hE : c.bad = 0) :
    Calls Tryz.prog 36 #[.agg #[.int .i64 c.p.regs, .slice c.p.a c.p.l.length c.p.c], .agg #[.int .i64 c.q.regs, .slice c.q.a c.q.l.length c.q.c], .int .i64 c.x, .slice a c.th.length k] w fun e w' => ∃ g, e = .returned (.tuple #[.pointer (some ⟨g, 0, none⟩), .int .i64 0]) ∧ ChAt w' g c ∧ w.heap.size ≤ g ∧ Below w.heap.size w w' := by
  have hb0 : Below w.heap.size w ((w.alloc (.cells #[.int .i64 c.p.regs, .slice c.p.a c.p.l.length c.p.c] 24)).alloc (.cells #[.int .i64 c.q.regs, .slice c.q.a c.q.l.length c.q.c] 24)) := ((below_new _ _).alloc (by simp) _)
  have hX := (Blk.new w 24 #[.int .i64 c.p.regs, .slice c.p.a c.p.l.length c.p.c]).alloc (.cells #[.int .i64 c.q.regs, .slice c.q.a c.q.l.length c.q.c] 24)
  have hY := Blk.new (w.alloc (.cells #[.int .i64 c.p.regs, .slice c.p.a c.p.l.length c.p.c] 24)) 24 #[.int .i64 c.q.regs, .slice c.q.a c.q.l.length c.q.c]
  simp only [World.size_alloc] at hY
  have h1 := h.belowN hb0
  have h2 := h'.belowN hb0
  have h4 := h3.belowN hb0
  have hP : pairS c.p c.q = 0 := by
    refine Classical.byContradiction fun hn => ?_
    unfold ChD.bad at hE
    rw [if_pos hn] at hE
    exact hn hE
  unfold ChD.bad at hE
  rw [if_neg (by simpa using hP)] at hE
  have HP := hide hP
  have HD := hide (fun w => hE ▸ Dims_calls c.p c.q c.x (c.th.length : Int) hx (by omega) w)
  clear hE hP
  go_enter Tryz.func36, Tryz.ntmps36
  go_wp2_with (first
    | (go_at_call 75; go_must ((with_reducible refine (Pair_calls c.p c.q _ h1 hl h2 hl' 0 HP.out).mono ?_); rintro e w1 ⟨rfl, hb1⟩; have hB1 := hb0.trans (hb1.mono hb0.size); have hz1 := hB1.size; obtain ⟨p0, p1, p2, p3⟩ := (hX.belowN hb1).c2; obtain ⟨q0, q1, q2, q3⟩ := (hY.belowN hb1).c2))
    | (go_at_call 76; go_must ((with_reducible refine (HD.out _).mono ?_); rintro e w2 ⟨rfl, hb2⟩; have hb3 := hb1.trans (hb2.mono hb1.size); obtain ⟨r0, r1, r2, r3⟩ := (hX.belowN hb3).c2; obtain ⟨s0, s1, s2, s3⟩ := (hY.belowN hb3).c2)))
  have hX2 := hX.belowN hb3
  have hY2 := hY.belowN hb3
  have hP2 := h1.belowN hb3
  have hQ2 := h2.belowN hb3
  have hT2 := h4.belowN hb3
  have hB3 := hb0.trans (hb3.mono hb0.size)
  have hz3 := hB3.size
  have hB := Below.drew (Below.refl w2.heap.size w2)
  clear hX hY h1 h2 h4 h h' h3 hb0 hb1 hb2 hb3 hB1 hz1 p0 p1 p2 p3 q0 q1 q2 q3
  go_region_held3 (fun w' => w'.cell? ⟨w.heap.size, 0, none⟩ = some (.int .i64 c.p.regs) ∧ w'.cell? ⟨w.heap.size, 1, none⟩ = some (.slice c.p.a c.p.l.length c.p.c) ∧ w'.cell? ⟨w.heap.size + 1, 0, none⟩ = some (.int .i64 c.q.regs) ∧ w'.cell? ⟨w.heap.size + 1, 1, none⟩ = some (.slice c.q.a c.q.l.length c.q.c)) (go_keep)
    (first
      | (go_at_call 77; refine (New1_calls c.p _ (hP2.belowN hB) hl).mono ?_; rintro e wx ⟨aP, cP, rfl, hoP, hb⟩; have hB := hB.trans (hb.mono hB.size); (try have hoQ := hoQ.belowN hb); (try have hoT := hoT.belowN hb); obtain ⟨x0, x1, x2, x3⟩ := (hX2.belowN hB).c2; obtain ⟨y0, y1, y2, y3⟩ := (hY2.belowN hB).c2)
      | (go_at_call 77; refine (New1_calls c.q _ (hQ2.belowN hB) hl').mono ?_; rintro e wx ⟨aQ, cQ, rfl, hoQ, hb⟩; have hB := hB.trans (hb.mono hB.size); (try have hoP := hoP.belowN hb); (try have hoT := hoT.belowN hb); obtain ⟨x0, x1, x2, x3⟩ := (hX2.belowN hB).c2; obtain ⟨y0, y1, y2, y3⟩ := (hY2.belowN hB).c2)
      | (go_at_call 79; refine (CloneU_calls _ _ _ c.th _ rfl (hT2.belowN hB) (by omega)).mono ?_; rintro e wx ⟨aT, cT, rfl, hoT, hb⟩; have hB := hB.trans (hb.mono hB.size); (try have hoP := hoP.belowN hb); (try have hoQ := hoQ.belowN hb); obtain ⟨x0, x1, x2, x3⟩ := (hX2.belowN hB).c2; obtain ⟨y0, y1, y2, y3⟩ := (hY2.belowN hB).c2))
  have hN := below_new wx (.cells #[.int .i64 c.p.regs, .slice aP c.p.l.length cP, .int .i64 c.q.regs, .slice aQ c.q.l.length cQ, .int .i64 c.x, .slice aT c.th.length cT] 149)
  have hBx := hB3.trans (hB.mono hz3)
  have hzx := hBx.size
  go_wp2
  go_ret2
  exact ⟨wx.heap.size, rfl, ⟨aP, aQ, aT, cP, cQ, cT, Blk.new wx _ _, hoP.at_.belowN hN, hoQ.at_.belowN hN, hoT.at_.belowN hN, hoT.cap.1⟩, hzx, hBx.trans (hN.mono hzx)⟩
end Go.Proofs.YtcamcnahkdiefaaGreat

/- Chapter 23: a step and a loss. -/
namespace Go.Proofs.YtcamcnahkdiefaaGreat
set_option linter.unusedVariables false
set_option linter.unusedSimpArgs false
open Go.RowKit
/-- lists in the cells of a block -/
theorem AtL.ofBlk {w : World} {g : Nat} {T : TypeId} {cs : Array Value} (hs : List Hd) (ls : List (List UInt64)) (h : Blk w g T cs) (hcs : cs.toList = hs.flatMap Flat.enc) (hl : hs.length = ls.length)
    (hh : ∀ (i : Nat) (h : Hd) (l : List UInt64), hs[i]? = some h → ls[i]? = some l → h.n = l.length ∧ l.length ≤ h.c ∧ At w h.a l) : AtL w (some ⟨g, 0, none⟩) ls := ⟨hs, At.ofBlk h hs hcs, hl, hh⟩
end Go.Proofs.YtcamcnahkdiefaaGreat

/- Several texts of mine in one file: C23e, C23f, C23g, C23h, C23i, C23j, C23k, C23l, C23m. -/
/- Chapter 23: each: a callee sees all states. -/
namespace Go.Proofs.YtcamcnahkdiefaaGreat
set_option linter.unusedVariables false
set_option linter.unusedSimpArgs false
open Go.RowKit
end Go.Proofs.YtcamcnahkdiefaaGreat

/- Chapter 23: what sees states: a row, the last one; States, Run. -/
namespace Go.Proofs.YtcamcnahkdiefaaGreat
set_option linter.unusedVariables false
set_option linter.unusedSimpArgs false
open Go.RowKit
theorem OwnL.mono {w : World} {B B' : Nat} {E : TypeId} {a : Option Addr} {c : Nat} {hs : List Hd} {ls : List (List UInt64)} (h : OwnL w B E a c hs ls) (hB : B' ≤ B) : OwnL w B' E a c hs ls :=
  ⟨h.1.mono hB, h.2.1, fun i x l hx hl => let ⟨e1, e2, e3, e4⟩ := h.2.2 i x l hx hl; ⟨e1, e2, e3, fun h0 => let ⟨g, g1, g2, g3⟩ := e4 h0; ⟨g, g1, Nat.le_trans hB g2, g3⟩⟩⟩
/-- a variable holds the last state -/
def JR (p n : Nat) (c : ChD) (xs : List UInt64) (j : Nat) (F : List Nat) (w : World) : Prop :=
  F = [p] ∧ ∃ v, Blk w p 46 #[v] ∧ (1 ≤ j → ∃ b d, v = .slice b n d ∧ n ≤ d ∧ At w b (c.iter xs (j - 1)))
theorem JR.keep {p n : Nat} {c : ChD} {xs : List UInt64} {j : Nat} {F : List Nat} {w w' : World} (h : JR p n c xs j F w) (hb : Below w.heap.size w w') : JR p n c xs j F w' := by
  obtain ⟨rfl, v, h1, h2⟩ := h
  exact ⟨rfl, v, h1.belowN hb, fun hj => let ⟨b, d, e1, e2, e3⟩ := h2 hj; ⟨b, d, e1, e2, e3.belowN hb⟩⟩
theorem JR.lt {p n : Nat} {c : ChD} {xs : List UInt64} {j : Nat} {F : List Nat} {w : World} (h : JR p n c xs j F w) : ∀ b ∈ F, b < w.heap.size := by
  obtain ⟨rfl, v, h1, h2⟩ := h
  intro b hb
  simp at hb
  rw [hb]; exact h1.lt
end Go.Proofs.YtcamcnahkdiefaaGreat

/- Chapters 10, 23: the document's Pair, Dims, New. -/
namespace Go.Proofs.YtcamcnahkdiefaaGreat
set_option linter.unusedVariables false
set_option linter.unusedSimpArgs false
open Go.RowKit
theorem Dims10_calls (p q : PrD) (x t : Int) (hx : -9223372036854775808 ≤ x ∧ x ≤ 9223372036854775807) (ht : -9223372036854775808 ≤ t ∧ t ≤ 9223372036854775807) (w : World) :
    Calls Tryz.prog 63 #[.agg #[.int .i64 p.regs, .slice p.a p.l.length p.c], .agg #[.int .i64 q.regs, .slice q.a q.l.length q.c], .int .i64 x, .int .i64 t] w fun e w' => e = .returned (.int .i64 (dimsC p.regs q.regs x t)) ∧ Below w.heap.size w w' := by
  have hb0 : Below w.heap.size w ((w.alloc (.cells #[.int .i64 p.regs, .slice p.a p.l.length p.c] 24)).alloc (.cells #[.int .i64 q.regs, .slice q.a q.l.length q.c] 24)) := ((below_new _ _).alloc (by simp) _)
  go_enter Tryz.func63, Tryz.ntmps63
  go_wp2
  all_goals
    go_ret
    refine ⟨?_, hb0⟩
    unfold dimsC
    first
      | (rw [if_pos (by omega)] <;> rfl)
      | (rw [if_neg (by omega)] <;> rfl)
set_option maxHeartbeats 1600000 in
theorem Pair10_calls (p q : PrD) (w : World) (h : At w p.a p.l) (hl : p.l.length ≤ 1000000) (h' : At w q.a q.l) (hl' : q.l.length ≤ 1000000) (R : Int) (hR : pairS p q = R) :
    Calls Tryz.prog 62 #[.agg #[.int .i64 p.regs, .slice p.a p.l.length p.c], .agg #[.int .i64 q.regs, .slice q.a q.l.length q.c]] w fun e w' => e = .returned (.int .i64 R) ∧ Below w.heap.size w w' := by
  have hb0 : Below w.heap.size w ((w.alloc (.cells #[.int .i64 p.regs, .slice p.a p.l.length p.c] 24)).alloc (.cells #[.int .i64 q.regs, .slice q.a q.l.length q.c] 24)) := ((below_new _ _).alloc (by simp) _)
  have hX := (Blk.new w 24 #[.int .i64 p.regs, .slice p.a p.l.length p.c]).alloc (.cells #[.int .i64 q.regs, .slice q.a q.l.length q.c] 24)
  have hY := Blk.new (w.alloc (.cells #[.int .i64 p.regs, .slice p.a p.l.length p.c] 24)) 24 #[.int .i64 q.regs, .slice q.a q.l.length q.c]
  simp only [World.size_alloc] at hY
  have h1 := h.belowN hb0
  have h2 := h'.belowN hb0
  have HL := hide (fun k hk w' (g : At w' p.a p.l) => Look_calls k hk p.regs p.a p.c p.l w' g hl)
  have HM := hide (fun k hk w' (g : At w' q.a q.l) => Look_calls k hk q.regs q.a q.c q.l w' g hl')
  have hR2 : R = firstL [p, q] [0, 1, 2, 3] := hR.symm
  have HR := hide hR2
  clear hR hR2
  go_enter Tryz.func62, Tryz.ntmps62
  go_wp2
  obtain ⟨W0, hW0⟩ : ∃ W0, W0 = (w.alloc (.cells #[.int .i64 p.regs, .slice p.a p.l.length p.c] 24)).alloc (.cells #[.int .i64 q.regs, .slice q.a q.l.length q.c] 24) := ⟨_, rfl⟩
  rw [← hW0] at hX hY h1 h2 hb0 ⊢
  clear hW0
  go_loopw [5, 6, 7] (fun i _ _ wr => ∃ k : Nat, i = .int .i64 k ∧ k ≤ 4 ∧ Hid (R = firstL [p, q] ([0, 1, 2, 3].drop k)) ∧ Below W0.heap.size W0 wr) (fun i _ _ _ => 4 - (intOf i).toNat)
  case atStart => exact ⟨0, rfl, by omega, HR.out, Below.refl _ _⟩
  case round =>
    obtain ⟨k, rfl, hk, hRk, hbr⟩ := hrel
    obtain ⟨q0, q1, q2, q3⟩ := (hX.belowN hbr).c2
    obtain ⟨r0, r1, r2, r3⟩ := (hY.belowN hbr).c2
    by_cases hlt : k < 4
    · have hR2 : R = if rowE k [p, q] ≠ 0 then rowE k [p, q] else firstL [p, q] ([0, 1, 2, 3].drop (k + 1)) := by
        rw [hRk.out]
        have h4 : k = 0 ∨ k = 1 ∨ k = 2 ∨ k = 3 := by omega
        rcases h4 with rfl | rfl | rfl | rfl <;> rfl
      have hrow : rowE k [p, q] = if errI k p ≠ 0 then errI k p else errI k q := by
        rw [rowE, rowE_one]
      rw [hrow] at hR2
      have HC := hide (HL.out k hlt wr (h1.belowN hbr))
      have HD := hide (fun w' (hb : Below wr.heap.size wr w') => HM.out k hlt w' ((h2.belowN hbr).belowN hb))
      obtain ⟨E, hE⟩ : ∃ E, E = errI k p := ⟨_, rfl⟩
      obtain ⟨F, hF⟩ : ∃ F, F = errI k q := ⟨_, rfl⟩
      have hE' : errI k ⟨p.regs, p.a, p.c, p.l⟩ = E := hE.symm
      have hF' : errI k ⟨q.regs, q.a, q.c, q.l⟩ = F := hF.symm
      rw [hE'] at HC
      simp only [hF'] at HD
      rw [← hE, ← hF] at hR2
      have HR2 := hide hR2
      clear hE hF hR2 hRk hE' hF' hrow
      by_cases hE0 : E = 0
      · obtain rfl := hE0
        by_cases hF0 : F = 0
        · obtain rfl := hF0
          go_wp2_with (go_at_call 112; first
            | ((with_reducible refine (HD.out _ hb1).mono ?_); rintro e w2 ⟨rfl, hb2⟩)
            | ((with_reducible refine (HC.out).mono ?_); rintro e w1 ⟨rfl, hb1⟩; obtain ⟨s0, s1, s2, s3⟩ := ((hX.belowN hbr).belowN hb1).c2; obtain ⟨t0, t1, t2, t3⟩ := ((hY.belowN hbr).belowN hb1).c2))
          go_roundw
          case rel => exact ⟨k + 1, by go_num, by omega, by show R = _; rw [HR2.out]; rfl, (hbr.trans (hb1.mono hbr.size)).trans (hb2.mono (Nat.le_trans hbr.size hb1.size))⟩
          case measure => simp [intOf]; omega
        · have hE1 : (F == 0) = false := by simpa using hF0
          have hE2 : (F != 0) = true := by simpa using hF0
          have HF0 := hide hF0
          clear hF0
          go_wp2_with (go_at_call 112; first
            | ((with_reducible refine (HD.out _ hb1).mono ?_); rintro e w2 ⟨rfl, hb2⟩)
            | ((with_reducible refine (HC.out).mono ?_); rintro e w1 ⟨rfl, hb1⟩; obtain ⟨s0, s1, s2, s3⟩ := ((hX.belowN hbr).belowN hb1).c2; obtain ⟨t0, t1, t2, t3⟩ := ((hY.belowN hbr).belowN hb1).c2))
          go_ret
          have hRF : R = F := by rw [HR2.out]; simp [HF0.out]
          exact ⟨by rw [hRF] <;> rfl, hb0.trans (((hbr.trans (hb1.mono hbr.size)).trans (hb2.mono (Nat.le_trans hbr.size hb1.size))).mono hb0.size)⟩
      · have hE1 : (E == 0) = false := by simpa using hE0
        have hE2 : (E != 0) = true := by simpa using hE0
        have HE0 := hide hE0
        clear hE0
        go_wp2_with (go_at_call 112; ((with_reducible refine (HC.out).mono ?_); rintro e w1 ⟨rfl, hb1⟩))
        go_ret
        exact ⟨by rw [HR2.out, if_pos HE0.out, if_pos HE0.out] <;> rfl, hb0.trans ((hbr.trans (hb1.mono hbr.size)).mono hb0.size)⟩
    · obtain rfl : k = 4 := by omega
      go_wp2
      go_ret
      exact ⟨by rw [hRk.out] <;> rfl, hb0.trans (hbr.mono hb0.size)⟩
theorem New23_calls (c : ChD) (ta : Option Addr) (tc : Nat) (w : World) (h : At w c.p.a c.p.l) (hl : c.p.l.length ≤ 1000000) (h' : At w c.q.a c.q.l) (hl' : c.q.l.length ≤ 1000000) (hx : -9223372036854775808 ≤ c.x ∧ c.x ≤ 9223372036854775807) (hn : c.th.length ≤ 1000000) (E : Int) (hE : c.bad = E) :
    Calls Tryz.prog 108 #[.agg #[.int .i64 c.p.regs, .slice c.p.a c.p.l.length c.p.c, .int .i64 c.q.regs, .slice c.q.a c.q.l.length c.q.c, .int .i64 c.x, .slice ta c.th.length tc]] w fun e w' => e = .returned (.int .i64 E) ∧ Below w.heap.size w w' := by
  have hb0 := below_new w (.cells #[.int .i64 c.p.regs, .slice c.p.a c.p.l.length c.p.c, .int .i64 c.q.regs, .slice c.q.a c.q.l.length c.q.c, .int .i64 c.x, .slice ta c.th.length tc] 48)
  have hX := Blk.new w 48 #[.int .i64 c.p.regs, .slice c.p.a c.p.l.length c.p.c, .int .i64 c.q.regs, .slice c.q.a c.q.l.length c.q.c, .int .i64 c.x, .slice ta c.th.length tc]
  have h1 := h.belowN hb0
  have h2 := h'.belowN hb0
  obtain ⟨P, hP⟩ : ∃ P, pairS c.p c.q = P := ⟨_, rfl⟩
  unfold ChD.bad at hE
  rw [hP] at hE
  have HP := hide hP
  clear hP
  by_cases hP0 : P = 0
  · subst hP0
    rw [if_neg (by simp)] at hE
    have HD := hide (fun w => hE ▸ Dims10_calls c.p c.q c.x (c.th.length : Int) hx (by omega) w)
    clear hE
    go_enter Tryz.func108, Tryz.ntmps108
    go_wp2_with (first
      | (go_at_call 62; go_must ((with_reducible refine (Pair10_calls c.p c.q _ h1 hl h2 hl' 0 HP.out).mono ?_); rintro e w1 ⟨rfl, hb1⟩; have hB1 := hb0.trans (hb1.mono hb0.size); have hz1 := hB1.size; obtain ⟨p0, p1, p2, p3, p4, p5, p6, p7, p8, p9, p10, p11⟩ := (hX.belowN hb1).c6))
      | (go_at_call 63; go_must ((with_reducible refine (HD.out _).mono ?_); rintro e w2 ⟨rfl, hb2⟩)))
    go_ret
    exact ⟨rfl, hB1.trans (hb2.mono hz1)⟩
  · rw [if_pos hP0] at hE
    subst hE
    have e1 : (P == 0) = false := by simpa using hP0
    have e2 : (P != 0) = true := by simpa using hP0
    clear hP0
    go_enter Tryz.func108, Tryz.ntmps108
    go_wp2_with (go_at_call 62; go_must ((with_reducible refine (Pair10_calls c.p c.q _ h1 hl h2 hl' P HP.out).mono ?_); rintro e w1 ⟨rfl, hb1⟩; have hB1 := hb0.trans (hb1.mono hb0.size)))
    go_ret
    exact ⟨rfl, hB1⟩
end Go.Proofs.YtcamcnahkdiefaaGreat

/- Chapter 23: the document's steps and losses. -/
namespace Go.Proofs.YtcamcnahkdiefaaGreat
set_option linter.unusedVariables false
set_option linter.unusedSimpArgs false
open Go.RowKit
end Go.Proofs.YtcamcnahkdiefaaGreat

/- Chapter 23: the document's states. -/
namespace Go.Proofs.YtcamcnahkdiefaaGreat
set_option linter.unusedVariables false
set_option linter.unusedSimpArgs false
open Go.RowKit
end Go.Proofs.YtcamcnahkdiefaaGreat

/- Chapter 23: Small, made. -/
namespace Go.Proofs.YtcamcnahkdiefaaGreat
set_option linter.unusedVariables false
set_option linter.unusedSimpArgs false
open Go.RowKit
theorem sizeW_bd (l : List OpD) : 0 ≤ sizeW l ∧ sizeW l ≤ 65536 := by
  cases hw : well l with
  | false => rw [(size_bad hw).2.1]; omega
  | true =>
    obtain ⟨f, hf, rfl⟩ := forest_of_well l hw
    rw [(sizes_flat hf).1]
    split
    · rename_i h; have := h.2; omega
    · omega
def smallC (c : ChD) (most : Int) : Bool := decide (c.p.l.length ≤ 60) && decide (c.q.l.length ≤ 60) && decide (c.th.length ≤ 100) && decide (sizeW c.p.l + sizeW c.q.l ≤ most)
set_option maxHeartbeats 1600000 in
theorem Small23_calls (c : ChD) (ta : Option Addr) (tc : Nat) (most : Int) (B : Bool) (hB : smallC c most = B) (w : World) (h : At w c.p.a c.p.l) (h' : At w c.q.a c.q.l) :
    Calls Tryz.prog 21 #[.agg #[.int .i64 c.p.regs, .slice c.p.a c.p.l.length c.p.c, .int .i64 c.q.regs, .slice c.q.a c.q.l.length c.q.c, .int .i64 c.x, .slice ta c.th.length tc], .int .i64 most] w fun e w' => e = .returned (.bool B) ∧ Below w.heap.size w w' := by
  have hb0 := below_new w (.cells #[.int .i64 c.p.regs, .slice c.p.a c.p.l.length c.p.c, .int .i64 c.q.regs, .slice c.q.a c.q.l.length c.q.c, .int .i64 c.x, .slice ta c.th.length tc] 48)
  have hX := Blk.new w 48 #[.int .i64 c.p.regs, .slice c.p.a c.p.l.length c.p.c, .int .i64 c.q.regs, .slice c.q.a c.q.l.length c.q.c, .int .i64 c.x, .slice ta c.th.length tc]
  have h1 := h.belowN hb0
  have h2 := h'.belowN hb0
  subst hB
  unfold smallC
  by_cases hs : c.p.l.length ≤ 60 ∧ c.q.l.length ≤ 60 ∧ c.th.length ≤ 100
  · obtain ⟨s1, s2, s3⟩ := hs
    have t1 : ¬ ((60 : Int) < (c.p.l.length : Int)) := by omega
    have t2 : ¬ ((60 : Int) < (c.q.l.length : Int)) := by omega
    have t3 : ¬ ((100 : Int) < (c.th.length : Int)) := by omega
    obtain ⟨P, hP⟩ : ∃ P, sizeW c.p.l = P := ⟨_, rfl⟩
    obtain ⟨Q, hQ⟩ : ∃ Q, sizeW c.q.l = Q := ⟨_, rfl⟩
    have b1 := sizeW_bd c.p.l
    have b2 := sizeW_bd c.q.l
    have HP := hide (Writes9_calls c.p.a c.p.c c.p.l _ h1 (by omega))
    have HQ := hide (fun w' (hb : Below (w.alloc (.cells #[.int .i64 c.p.regs, .slice c.p.a c.p.l.length c.p.c, .int .i64 c.q.regs, .slice c.q.a c.q.l.length c.q.c, .int .i64 c.x, .slice ta c.th.length tc] 48)).heap.size (w.alloc (.cells #[.int .i64 c.p.regs, .slice c.p.a c.p.l.length c.p.c, .int .i64 c.q.regs, .slice c.q.a c.q.l.length c.q.c, .int .i64 c.x, .slice ta c.th.length tc] 48)) w') => Writes9_calls c.q.a c.q.c c.q.l w' (h2.belowN hb) (by omega))
    rw [hP] at HP b1
    simp only [hQ] at HQ
    rw [hQ] at b2
    rw [hP, hQ]
    have hsum : IntKind.i64.wrap (P + Q) = P + Q := IntWalk.i64_in _ (by omega)
    have hd : (decide (c.p.l.length ≤ 60) && decide (c.q.l.length ≤ 60) && decide (c.th.length ≤ 100) && decide (P + Q ≤ most)) = decide (P + Q ≤ most) := by simp [s1, s2, s3]
    rw [hd]
    generalize sizeE c.p.l = E1 at *
    generalize sizeE c.q.l = E2 at *
    clear hP hQ hd
    go_enter Tryz.func21, Tryz.ntmps21
    go_wp2_with (go_at_call 51; first
      | ((with_reducible refine (HQ.out _ hb1).mono ?_); rintro e w2 ⟨rfl, hb2⟩)
      | ((with_reducible refine (HP.out).mono ?_); rintro e w1 ⟨rfl, hb1⟩; have hB1 := hb0.trans (hb1.mono hb0.size); have hz1 := hB1.size; obtain ⟨p0, p1, p2, p3, p4, p5, p6, p7, p8, p9, p10, p11⟩ := (hX.belowN hb1).c6))
    go_ret
    exact ⟨rfl, hB1.trans (hb2.mono hz1)⟩
  · have hd : (decide (c.p.l.length ≤ 60) && decide (c.q.l.length ≤ 60) && decide (c.th.length ≤ 100) && decide (sizeW c.p.l + sizeW c.q.l ≤ most)) = false := by
      rw [Bool.eq_false_iff]
      intro h
      simp only [Bool.and_eq_true, decide_eq_true_eq] at h
      exact hs ⟨h.1.1.1, h.1.1.2, h.1.2⟩
    rw [hd]
    clear hd
    by_cases u1 : c.p.l.length ≤ 60
    · by_cases u2 : c.q.l.length ≤ 60
      · have u3 : ¬ (c.th.length ≤ 100) := fun u3 => hs ⟨u1, u2, u3⟩
        clear hs
        have t1 : ¬ ((60 : Int) < (c.p.l.length : Int)) := by omega
        have t2 : ¬ ((60 : Int) < (c.q.l.length : Int)) := by omega
        have t3 : ((100 : Int) < (c.th.length : Int)) := by omega
        go_enter Tryz.func21, Tryz.ntmps21
        go_wp2
        go_ret
        exact ⟨rfl, hb0⟩
      · clear hs
        have t1 : ¬ ((60 : Int) < (c.p.l.length : Int)) := by omega
        have t2 : ((60 : Int) < (c.q.l.length : Int)) := by omega
        go_enter Tryz.func21, Tryz.ntmps21
        go_wp2
        go_ret
        exact ⟨rfl, hb0⟩
    · clear hs
      have t1 : ((60 : Int) < (c.p.l.length : Int)) := by omega
      go_enter Tryz.func21, Tryz.ntmps21
      go_wp2
      go_ret
      exact ⟨rfl, hb0⟩
end Go.Proofs.YtcamcnahkdiefaaGreat

/- Chapter 23: the page's example, plain; Sum. -/
namespace Go.Proofs.YtcamcnahkdiefaaGreat
set_option linter.unusedVariables false
set_option linter.unusedSimpArgs false
open Go.RowKit
theorem firstL_zero (p : PrD) : ∀ ks : List Nat, firstL [p] ks = 0 → ∀ k ∈ ks, errI k p = 0
  | [], _, k, hk => by simp at hk
  | j :: ks, h, k, hk => by
    simp only [firstL, rowE_one] at h
    by_cases h0 : errI j p = 0
    · rw [if_neg (by simpa using h0)] at h
      rcases List.mem_cons.1 hk with rfl | hk
      · exact h0
      · exact firstL_zero p ks h k hk
    · rw [if_pos h0] at h; exact absurd h h0
theorem firstL_both {p q : PrD} : ∀ ks : List Nat, (∀ k ∈ ks, errI k p = 0 ∧ errI k q = 0) → firstL [p, q] ks = 0
  | [], _ => rfl
  | j :: ks, h => by
    obtain ⟨h1, h2⟩ := h j (by simp)
    simp only [firstL, rowE, h1, h2, ne_eq, not_true_eq_false, if_false]
    exact firstL_both ks fun k hk => h k (by simp [hk])
theorem pairS_of {p q : PrD} (hp : checkS p.regs p.l = 0) (hq : checkS q.regs q.l = 0) : pairS p q = 0 :=
  firstL_both _ fun k hk => ⟨firstL_zero p _ ((firstS_one p).trans hp) k hk, firstL_zero q _ ((firstS_one q).trans hq) k hk⟩
end Go.Proofs.YtcamcnahkdiefaaGreat

/- Chapter 23: the page's example. -/
namespace Go.Proofs.YtcamcnahkdiefaaGreat
set_option linter.unusedVariables false
set_option linter.unusedSimpArgs false
open Go.RowKit
end Go.Proofs.YtcamcnahkdiefaaGreat

/- Chapter 23: ChainSteps. -/
namespace Go.Proofs.YtcamcnahkdiefaaGreat
set_option linter.unusedVariables false
set_option linter.unusedSimpArgs false
open Go.RowKit
theorem small_lens {c : ChD} {m : Int} (h : smallC c m = true) : c.p.l.length ≤ 60 ∧ c.q.l.length ≤ 60 ∧ c.th.length ≤ 100 := by
  unfold smallC at h
  simp only [Bool.and_eq_true, decide_eq_true_eq] at h
  exact ⟨h.1.1.1, h.1.1.2, h.1.2⟩
end Go.Proofs.YtcamcnahkdiefaaGreat

/- append of so many noughts: append(s, make([]T, n)...), onto a slice of the call's own. -/
namespace Go.Proofs.YtcamcnahkdiefaaGreat
set_option linter.unusedVariables false
set_option linter.unusedSimpArgs false
open Go.RowKit
section
variable {P : Program} (w : World)
end
section
variable {P : Program} {α : Type} [Flat α]
theorem zeroCells_flat {z : Value} {z0 : α} (h : z.cells.toList = Flat.enc z0) (n : Nat) : (Builtin.zeroCells z.cells n).toList = (List.replicate n z0).flatMap Flat.enc := by
  have hs : z.cells.size = Flat.n α := by rw [← Array.length_toList, h, Flat.len]
  apply List.ext_getElem?
  intro j
  have hp : 0 < Flat.n α := Flat.pos
  have hsz : (Builtin.zeroCells z.cells n).size = n * Flat.n α := by rw [size_zeroCells, hs]
  by_cases hj : j < n * Flat.n α
  · have hd : j / Flat.n α < n := (Nat.div_lt_iff_lt_mul hp).2 hj
    have hf : j % Flat.n α < Flat.n α := Nat.mod_lt _ hp
    have hg : (Flat.enc z0)[j % Flat.n α]? = some ((Flat.enc z0)[j % Flat.n α]'(by rw [Flat.len]; exact hf)) := List.getElem?_eq_getElem _
    have h2 := enc_flat (List.replicate n z0) (j / Flat.n α) z0 (by rw [List.getElem?_replicate, if_pos hd]) (j % Flat.n α) _ hg
    rw [show j / Flat.n α * Flat.n α + j % Flat.n α = j by rw [Nat.mul_comm]; exact Nat.div_add_mod j _] at h2
    rw [h2, Array.getElem?_toList, Array.getElem?_eq_getElem (by omega)]
    congr 1
    simp only [Builtin.zeroCells, Array.getElem_map, Array.getElem_range, hs]
    rw [getElem!_pos _ _ (by rw [hs]; exact hf)]
    have : z.cells[j % Flat.n α]'(by rw [hs]; exact hf) = z.cells.toList[j % Flat.n α]'(by rw [Array.length_toList, hs]; exact hf) := by simp
    rw [this]
    congr 1
  · rw [List.getElem?_eq_none (by rw [Array.length_toList]; omega), List.getElem?_eq_none (by rw [enc_length, List.length_replicate]; omega)]
/-- A slice type, its elements' row, its elements' nought. -/
structure TyN (P : Program) (T E : TypeId) (z0 : α) : Prop where
  und : P.underlying T = some (.slice E)
  info : ∃ i z, P.info? E = some i ∧ i.zero = some z ∧ i.size = Flat.n α ∧ i.bytes ≤ 128 ∧ z.cells.toList = Flat.enc z0
theorem TyN.of {T E : TypeId} {z0 : α} {z : Value} {size bytes : Nat} (h0 : P.underlying T = some (.slice E)) (h : (P.info? E).map (fun i => (i.zero, i.size, i.bytes)) = some (some z, size, bytes))
    (h1 : size = Flat.n α) (h2 : bytes ≤ 128) (h3 : z.cells.toList = Flat.enc z0) : TyN P T E z0 := by
  obtain ⟨i, hi, hz0, hz1, hz2⟩ := info_parts h
  exact ⟨h0, i, z, hi, hz0, hz1.trans h1, by omega, h3⟩
end
end Go.Proofs.YtcamcnahkdiefaaGreat

/- Plain facts on the machine that goes back through code; tapes; adjoints. No program is named here. -/
namespace Go.Proofs.YtcamcnahkdiefaaGreat
set_option linter.unusedVariables false
set_option linter.unusedSimpArgs false
open Go.RowKit

/-- a code's value at a place -/
def vC (c : List (OpD × Int)) (i : Int) : UInt64 := (c[i.toNat]?.map (·.1.v)).getD 0
/-- a step back -/
def Tk.back (c : List (OpD × Int)) (x : Tk) : Int × List UInt64 :=
  if x.op.kind = 0 then ((x.at' : Int) - 1, x.st ++ [vC c (x.to - 1)])
  else if x.op.kind = 7 then (if 1 < (x.st.getLast?.getD 0).toNat then (x.to - 2, x.st.dropLast ++ [x.st.getLast?.getD 0 - 1]) else ((x.at' : Int) - 1, x.st.dropLast))
  else ((x.at' : Int) - 1, x.st)
def ChnB (c : List (OpD × Int)) : Int × List UInt64 → List Tk → Int × List UInt64 → Prop
  | s, [], e => s = e
  | s, x :: r, e => s = ((x.at' : Int), x.st) ∧ c[x.at']? = some (x.op, x.to) ∧ ChnB c (x.back c) r e
theorem ChnB.append {c : List (OpD × Int)} {s m e : Int × List UInt64} {a b : List Tk} (h1 : ChnB c s a m) (h2 : ChnB c m b e) : ChnB c s (a ++ b) e := by
  induction a generalizing s with
  | nil => obtain rfl : s = m := h1; exact h2
  | cons x r ih => exact ⟨h1.1, h1.2.1, ih h1.2.2⟩
/-- What each step back is like. -/
def TkB (n D : Nat) (ops : List OpD) (x : Tk) : Prop := x.at' < n ∧ x.st.length ≤ D ∧ (x.op.kind = 0 → x.st.length < D ∧ 1 ≤ x.to ∧ x.to ≤ (n : Int)) ∧ (x.op.kind = 7 → x.st ≠ [] ∧ 2 ≤ x.to ∧ x.to ≤ (n : Int)) ∧ x.op ∈ ops ∧ 0 ≤ x.op.kind ∧ x.op.kind ≤ 7
theorem TkB.mono {n m D : Nat} {a b : List OpD} {x : Tk} (h : TkB n D a x) (hn : n ≤ m) (hs : ∀ y ∈ a, y ∈ b) : TkB m D b x :=
  ⟨by have := h.1; omega, h.2.1, fun hk => by have := h.2.2.1 hk; omega, fun hk => ⟨(h.2.2.2.1 hk).1, by have := h.2.2.2.1 hk; omega⟩, hs _ h.2.2.2.2.1, h.2.2.2.2.2⟩
end Go.Proofs.YtcamcnahkdiefaaGreat

/- Plain facts on derivatives: tangents, adjoints, and that they are each other's transposed. No program is named here. -/
namespace Go.Proofs.YtcamcnahkdiefaaGreat
set_option linter.unusedVariables false
set_option linter.unusedSimpArgs false
open Go.RowKit

/-! ### The product of two rows -/
/-! ### Linearity -/
/-! ### Tapes -/
/-- what a run overwrites -/
def tapeR : List OpD → List UInt64 → List UInt64
  | [], _ => []
  | x :: l, r => getR r x.d :: tapeR l (stepR r x)
end Go.Proofs.YtcamcnahkdiefaaGreat

/- Plain facts on tapes: what a run has written so far, what has been taken back so far; the machine's steps back. No program is named here. -/
namespace Go.Proofs.YtcamcnahkdiefaaGreat
set_option linter.unusedVariables false
set_option linter.unusedSimpArgs false
open Go.RowKit

/-- a tape, as far as it is written -/
def tpR (P : List OpD) (r t : List UInt64) : List UInt64 := tapeR P r ++ t.drop P.length
/-! ### The machine's steps back -/
end Go.Proofs.YtcamcnahkdiefaaGreat

/- Chapter 21: the machine that runs and keeps. -/
namespace Go.Proofs.YtcamcnahkdiefaaGreat
set_option linter.unusedVariables false
set_option linter.unusedSimpArgs false
open Go.RowKit

/-- the block of a slice, if there is one -/
def blkL (a : Option Addr) : List Nat := (a.map (·.block)).toList
/-- Where the machine stands when `N` steps are to come. -/
def TxJ (code : List (OpD × Int)) (steps : List Tk) (ac : Option Addr) (cc gr nr cr : Nat) (ta : Option Addr) (nt ct Br Bt Bl : Nat) (r0 t0 : List UInt64) (W : World) (N : Nat) (a' : Act) (wr : World) : Prop :=
  ∃ (pre rest : List Tk) (p d k : Nat) (st : List UInt64), a'.defers = [] ∧ a'.tmps.size = 79 ∧
    a'.tmps.getD 0 undef = .slice ac code.length cc ∧ a'.tmps.getD 1 undef = .slice (some ⟨gr, 0, none⟩) nr cr ∧ a'.tmps.getD 2 undef = .slice ta nt ct ∧ a'.tmps.getD 7 undef = .pointer (some ⟨Bl, 0, none⟩) ∧
    a'.tmps.getD 8 undef = .int .i64 (p : Int) ∧ a'.tmps.getD 9 undef = .int .i64 (k : Int) ∧ a'.tmps.getD 10 undef = .int .i64 (d : Int) ∧
    rest.length = N ∧ p ≤ code.length ∧ k = st.length ∧ k ≤ 8 ∧ Chn code (p, st) rest (code.length, []) ∧ steps = pre ++ rest ∧ d = (wrs (pre.map (·.op))).length ∧ d ≤ 1200000 ∧
    LeftAt wr Bl st ∧ Own wr Br 50 (some ⟨gr, 0, none⟩) cr (runR (wrs (pre.map (·.op))) r0) ∧ Own wr Bt 50 ta ct (tpR (wrs (pre.map (·.op))) r0 t0) ∧ Turned (gr :: blkL ta) W wr
theorem TxJ.measure {J : Nat → Act → World → Prop} {N : Nat} {a a' : Act} {w w' : World} (hN : N + 1 = leastOf (fun N => J N a w)) (h : J N a' w') : leastOf (fun N => J N a' w') < leastOf (fun N => J N a w) := by
  have := (leastOf_spec (p := fun N => J N a' w') ⟨N, h⟩).2 N h
  omega

end Go.Proofs.YtcamcnahkdiefaaGreat

/- Chapter 21: ready, Record, Undo. -/
namespace Go.Proofs.YtcamcnahkdiefaaGreat
set_option linter.unusedVariables false
set_option linter.unusedSimpArgs false
open Go.RowKit

theorem Good.sizeW {regs : Int} {f : Fo} (g : Good regs f) : sizeW f.flat = (f.unroll.length : Int) ∧ sizeE f.flat = 0 := by
  obtain ⟨z1, z2, z3, z4⟩ := W9_ok g.ok ⟨g.may, g.few⟩
  exact ⟨by rw [z2, Fo.unroll_length], z1⟩
end Go.Proofs.YtcamcnahkdiefaaGreat

/- A region that draws its order: reads, then several calls that leave what is read, one behind the other, then what waits for all reads. -/
namespace Go.Proofs.YtcamcnahkdiefaaGreat
set_option linter.unusedVariables false
set_option linter.unusedSimpArgs false
open Go.RowKit
section
variable {P : Program} {ops : Array Oper} {Q : Exit → Act → World → Prop} {md : Region.Mode} {S : World → Prop} {late : Nat → Bool}

/-- Calls, one behind the other, behind each of which the condition holds; then the rest. -/
def midK (P : Program) (ops : Array Oper) (Q : Exit → Act → World → Prop) (S : World → Prop) : List Oper → List Oper → Act → World → Prop
  | [], tl, a, w => wpList P ops Q tl a w
  | o :: mid, tl, a, w => ∀ K : Act → World → Prop, (∀ a2 w2, S w2 → midK P ops Q S mid tl a2 w2 → K a2 w2) → if Region.wanted o (yielded ops a.tmps) = true then Oper.wp P o a w K Q else K (a.put o.dst undef) w
theorem anyK_mid {tl : List Oper} : ∀ (mid : List Oper) (k : Nat) (done : Array Bool) (a : Act) (w : World), (∀ j, (mid ++ tl)[j]? = ops[k + j]?) → (∀ j, k + mid.length ≤ j → late j = true) →
    Region.seqB md ops (mid ++ tl).length k done = true → midK P ops Q S mid tl a w → anyK P md ops Q S late (mid ++ tl).length done a w
  | [], k, done, a, w, hl, hL, hB, h => anyK_seq tl k done a w hl (fun j hj => hL j (by simpa using hj)) hB h
  | o :: mid, k, done, a, w, hl, hL, hB, h => by
    have h0 : ops[k]? = some o := by simpa using (hl 0).symm
    simp only [List.cons_append, List.length_cons, Region.seqB, Bool.and_eq_true, decide_eq_true_eq] at hB
    refine ⟨fun h1 => (by rw [hB.1] at h1; cases h1), fun i hi => ?_⟩
    rw [hB.1] at hi
    have hik : i = k := by simpa using hi
    subst hik
    unfold wpOp
    simp only [h0]
    have h1 := h (fun a' w' => (late i = true ∨ S w') ∧ anyK P md ops Q S late (mid ++ tl).length (done.setIfInBounds i true) a' w') (fun a2 w2 hs2 hw2 => ⟨.inr hs2,
      anyK_mid mid (i + 1) _ a2 w2 (fun j => by have := hl (j + 1); simpa [Nat.add_assoc, Nat.add_comm 1 j] using this) (fun j hj => hL j (by simp only [List.length_cons]; omega)) hB.2 hw2⟩)
    split
    · rename_i hw; rw [if_pos hw] at h1; exact .inl h1
    · rename_i hw; rw [if_neg hw] at h1; exact h1
/-- Does each operation from number `m` on wait for all of the first `n`? -/
def lateB2 (md : Region.Mode) (ops : Array Oper) (n m : Nat) : Bool :=
  (List.range ops.size).all fun j => decide (j < m) || (List.range n).all fun i => Region.waitsFor md ops j i
def callsB (ops : Array Oper) (n m : Nat) : Bool :=
  Region.noSelect ops && decide (n ≤ m ∧ m ≤ ops.size) && lateB2 .any ops n m && match goHead .any ops n 0 (Array.replicate ops.size false) with
    | some fin => Region.seqB .any ops (ops.size - n) n fin
    | none => false
/-- Reads, calls up to number `m`, what waits for all reads: by the reads in their order, the calls, and the rest in its order. -/
theorem wp_region_calls {id : Nat} {a : Act} {w : World} {l : List Oper} (n m : Nat) (S : World → Prop) (hm : P.follows .mixedOrders = true) (hB : callsB l.toArray n m = true) (hS : S w.drew)
    (h : headK P l.toArray S (fun a' => midK P l.toArray (NoPanic Q) S ((l.drop n).take (m - n)) (l.drop m) a' w.drew) (l.take n) a) : (Code.region id l.toArray true).wp P Q a w := by
  refine wp_region_noPanic (wp_region_any hm ?_)
  simp only [callsB, Bool.and_eq_true, decide_eq_true_eq] at hB
  obtain ⟨⟨⟨hs, hn, hms⟩, hlB⟩, hg⟩ := hB
  cases hgo : goHead .any l.toArray n 0 (Array.replicate l.toArray.size false) with
  | none => rw [hgo] at hg; cases hg
  | some fin =>
    rw [hgo] at hg
    simp only at hg
    have hms' : m ≤ l.length := by simpa using hms
    have htl : (l.take n).length = n := by simp; omega
    have hcat : (l.drop n).take (m - n) ++ l.drop m = l.drop n := by
      have := List.take_append_drop (m - n) (l.drop n)
      rw [List.drop_drop, show n + (m - n) = m by omega] at this
      exact this
    have hdl : (l.drop n).length = l.toArray.size - n := by simp
    have hsz : l.toArray.size = (l.take n).length + (l.toArray.size - n) := by simp; omega
    refine anyK_any (S := S) (late := fun j => decide (m ≤ j)) _ _ _ _ ?_
    rw [hsz]
    have hsz2 : Array.replicate ((l.take n).length + (l.toArray.size - n)) false = Array.replicate l.toArray.size false := by rw [← hsz]
    rw [hsz2]
    refine anyK_head (fin := fin) hs (fun c a w i v hq => by cases hq) (l.take n) 0 _ a _ (fun j hj => ?_) (fun i _ hi j oj hj hlt => ?_) (by rw [htl]; exact hgo) hS ?_
    · have hj' : j < n := by rw [htl] at hj; exact hj
      simp [hj']
    · have hjn : m ≤ j := by simpa using hlt
      have hjs : j < l.toArray.size := (Array.getElem?_eq_some_iff.1 hj).1
      have h1 := List.all_eq_true.1 hlB j (List.mem_range.2 hjs)
      simp only [Bool.or_eq_true, decide_eq_true_eq] at h1
      have h2 := h1.resolve_left (by omega)
      have h3 := List.all_eq_true.1 h2 i (List.mem_range.2 (by rw [htl] at hi; omega))
      obtain ⟨o', ho', e, he, hb, hon⟩ := Region.waitsFor_spec h3
      obtain rfl : o' = oj := Option.some.inj (ho'.symm.trans hj)
      exact ⟨e, he, hb, hon⟩
    · have key : ∀ (ll : List Oper) (a0 : Act), headK P l.toArray S (fun a' => midK P l.toArray (NoPanic Q) S ((l.drop n).take (m - n)) (l.drop m) a' w.drew) ll a0 →
          headK P l.toArray S (fun a' => anyK P .any l.toArray (NoPanic Q) S (fun j => decide (m ≤ j)) (l.toArray.size - n) fin a' w.drew) ll a0 := by
        intro ll
        induction ll with
        | nil =>
          intro a0 h0
          have hlen : ((l.drop n).take (m - n) ++ l.drop m).length = l.toArray.size - n := by rw [hcat, hdl]
          show anyK P .any l.toArray (NoPanic Q) S (fun j => decide (m ≤ j)) (l.toArray.size - n) fin a0 w.drew
          rw [← hlen]
          refine anyK_mid _ n fin a0 _ (fun j => ?_) (fun j hj => ?_) (by rw [hlen]; exact hg) h0
          · rw [hcat]; simp
          · have : ((l.drop n).take (m - n)).length = m - n := by simp; omega
            simp; omega
        | cons o ll ih =>
          intro a0 h0
          obtain ⟨v, hy, hK⟩ := h0
          exact ⟨v, hy, ih _ hK⟩
      exact key _ _ h
end
end Go.Proofs.YtcamcnahkdiefaaGreat
