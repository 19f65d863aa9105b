/- Chapter 7: what an operation writes and reads, what it makes of numbers. -/
import Derived.Test.YtoklehndfncmnaaOc
namespace Go.Proofs.Ytoklehndfncmnaa
set_option linter.unusedVariables false
set_option linter.unusedSimpArgs false
open Go.RowKit

theorem fld_d (a b c d : Bool) (w : World) : (Instr.field 114 (.agg #[.bool a, .bool b, .bool c, .bool d]) 0).run Try.prog w = .ok (.bool a) w := by kernel_rfl
theorem Writes7_calls (x : OpD) (w : World) : Calls Try.prog 56 #[.agg #[.int .i64 x.kind, .int .i64 x.d, .int .i64 x.a, .int .i64 x.b, .int .u64 (x.v.toNat : Int)]] w fun e w' => e = .returned (.tuple #[.int .i64 (if dOf x.kind = true then x.d else 0), .bool (dOf x.kind)]) ∧ Below w.heap.size w w' := by
  have HO := hide (of_calls x.kind)
  obtain ⟨k, rd, ra, rb, v⟩ := x
  simp only at *
  have hfl := fld_d
  generalize dOf k = d at *
  cases d
  all_goals
    go_enter Try.func56, Try.ntmps56
    go_wp2_with (go_at_call 68; ((with_reducible refine (HO.out _).mono ?_); rintro e w1 ⟨rfl, hb⟩; obtain ⟨hz, hB1, hX⟩ := box5 hb; obtain ⟨x0, x1, x2, x3, x4, y0, y1, y2, y3, y4⟩ := hX.c5; clear hb hX))
    go_ret2
    exact ⟨rfl, hB1⟩

theorem Rev1_calls (a : Option Addr) (n c : Nat) (w : World) (hn : n ≤ 1) : Calls Try.prog 90 #[.slice a n c] w fun e w' => e = .returned (.tuple #[]) ∧ w = w' := by
  go_enter Try.func90, Try.ntmps90
  go_wp2
  go_loopw [2, 3] (fun i j wr => i = .int .i64 0 ∧ j = .int .i64 ((n : Int) - 1) ∧ w = wr) (fun _ _ _ => 0)
  case atStart => exact ⟨rfl, rfl, rfl⟩
  case round =>
    obtain ⟨rfl, rfl, rfl⟩ := hrel
    have h1 : n = 0 ∨ n = 1 := by omega
    rcases h1 with rfl | rfl
    all_goals
      go_wp2
      go_end0
      exact ⟨rfl, rfl⟩
theorem Rev2_calls (g c B : Nat) (x y : Int) (w : World) (h : Own w B 3 (some ⟨g, 0, none⟩) c [x, y]) : Calls Try.prog 90 #[.slice (some ⟨g, 0, none⟩) 2 c] w fun e w' => e = .returned (.tuple #[]) ∧
    Own w' B 3 (some ⟨g, 0, none⟩) c [y, x] ∧ Turned [g] w w' := by
  have hc0 : w.cell? ⟨g, 0, none⟩ = some (.int .i64 x) := by obtain ⟨x1, u, e1, e2, e3⟩ := h.cell1 (i := 0) (by simp) rfl; simp at e1; subst e1; simp [Flat.enc] at e2; subst e2; exact e3
  have hc1 : w.cell? ⟨g, 1, none⟩ = some (.int .i64 y) := by obtain ⟨x1, u, e1, e2, e3⟩ := h.cell1 (i := 1) (by simp) rfl; simp at e1; subst e1; simp [Flat.enc] at e2; subst e2; exact e3
  have hf0 := h.frozen 0
  have hf1 := h.frozen 1
  go_enter Try.func90, Try.ntmps90
  go_wp2
  go_loopw [2, 3] (fun i j wr => (i = .int .i64 0 ∧ j = .int .i64 1 ∧ w = wr) ∨ (i = .int .i64 1 ∧ j = .int .i64 0 ∧ Own wr B 3 (some ⟨g, 0, none⟩) c [y, x] ∧ Turned [g] w wr)) (fun i _ _ => 1 - (intOf i).toNat)
  case atStart => exact .inl ⟨rfl, rfl, rfl⟩
  case round =>
    rcases hrel with ⟨rfl, rfl, rfl⟩ | ⟨rfl, rfl, h1, h2⟩
    · go_wp2
      go_region
      all_goals go_wp2
      all_goals go_roundw
      case rel =>
        right
        refine ⟨rfl, rfl, ?_, ?_⟩
        · have := ((h.set1 0 y (.int .i64 y) rfl).set1 1 x (.int .i64 x) rfl).drew
          simpa using this
        · have t1 : ∀ (w : World) (i : Nat) (u : Value), Turned [g] w (w.setCell ⟨g, i, none⟩ u) := fun w i u => Turned.ofGrown (grown_setCell w g i u) (fun g hg => by injection hg with hg; simp [hg])
          exact Turned.drew ((t1 _ _ _).trans (t1 _ _ _) (fun k hk => .inl hk))
      case measure => simp [intOf]
    · go_wp2
      go_end0
      exact ⟨rfl, h1, h2⟩

def ReadsPost (w : World) (x : OpD) (e : Ending) (w' : World) : Prop := ∃ a c, e = .returned (.slice a (readsL x).length c) ∧ Own w' w.heap.size 3 a c (readsL x) ∧ Below w.heap.size w w'
theorem reads_no {x : OpD} (h : aOf x.kind = false) : readsL x = [] := by simp [readsL, h]
theorem reads_two {x : OpD} (h : aOf x.kind = true) (h2 : bOf x.kind = true) : readsL x = [x.a, x.b] := by simp [readsL, h, h2]
theorem reads_one {x : OpD} (h : aOf x.kind = true) (h2 : bOf x.kind = false) : readsL x = [x.a] := by simp [readsL, h, h2]
set_option maxHeartbeats 1600000 in
theorem Reads_calls (x : OpD) (w : World) : Calls Try.prog 83 #[.agg #[.int .i64 x.kind, .int .i64 x.d, .int .i64 x.a, .int .i64 x.b, .int .u64 (x.v.toNat : Int)]] w (ReadsPost w x) := by
  obtain ⟨k, rd, ra, rb, v⟩ := x
  simp only
  have h0 : Own (w.alloc (.cells #[.int .i64 k, .int .i64 rd, .int .i64 ra, .int .i64 rb, .int .u64 (v.toNat : Int)] 34)) w.heap.size 3 none 0 ([] : List Int) := Own.none _ _ _
  rcases kind8 k with h | rfl | rfl | rfl | rfl | rfl | rfl | rfl | rfl | h
  case inl =>
    obtain ⟨h0, h1, h2, h3, h4, h5, h6, h7⟩ := kind_no (.inl h)
    obtain ⟨e1, e2, e3, e4⟩ := asks_no (.inl h)
    have HE := hide (reads_no (x := ⟨k, rd, ra, rb, v⟩) e2)
    clear e1 e2 e3 e4
    go_enter Try.func83, Try.ntmps83
    go_wp2_with (go_at_call 90; ((with_reducible refine (Rev1_calls none 0 0 _ (by omega)).mono ?_); rintro e w1 ⟨rfl, rfl⟩))
    go_ret
    unfold ReadsPost
    rw [HE.out]
    exact ⟨_, _, rfl, Own.none _ _ _, (by with_reducible repeat first | exact Below.refl _ _ | assumption | refine below_drewN ?_ _ | refine Below.drew ?_ | refine Below.alloc ?_ (by simp <;> omega) _ | refine Below.setCell ?_ (by simp <;> omega) _)⟩
  case inr.inr.inr.inr.inr.inr.inr.inr.inr =>
    obtain ⟨h0, h1, h2, h3, h4, h5, h6, h7⟩ := kind_no (.inr h)
    obtain ⟨e1, e2, e3, e4⟩ := asks_no (.inr h)
    have HE := hide (reads_no (x := ⟨k, rd, ra, rb, v⟩) e2)
    clear e1 e2 e3 e4
    go_enter Try.func83, Try.ntmps83
    go_wp2_with (go_at_call 90; ((with_reducible refine (Rev1_calls none 0 0 _ (by omega)).mono ?_); rintro e w1 ⟨rfl, rfl⟩))
    go_ret
    unfold ReadsPost
    rw [HE.out]
    exact ⟨_, _, rfl, Own.none _ _ _, (by with_reducible repeat first | exact Below.refl _ _ | assumption | refine below_drewN ?_ _ | refine Below.drew ?_ | refine Below.alloc ?_ (by simp <;> omega) _ | refine Below.setCell ?_ (by simp <;> omega) _)⟩
  case inr.inl | inr.inr.inr.inr.inr.inr.inl | inr.inr.inr.inr.inr.inr.inr.inr.inl =>
    go_enter Try.func83, Try.ntmps83
    go_wp2_with (go_at_call 90; ((with_reducible refine (Rev1_calls none 0 0 _ (by omega)).mono ?_); rintro e w1 ⟨rfl, rfl⟩))
    go_ret
    unfold ReadsPost
    exact ⟨_, _, rfl, Own.none _ _ _, (by with_reducible repeat first | exact Below.refl _ _ | assumption | refine below_drewN ?_ _ | refine Below.drew ?_ | refine Below.alloc ?_ (by simp <;> omega) _ | refine Below.setCell ?_ (by simp <;> omega) _)⟩
  case inr.inr.inr.inr.inr.inl | inr.inr.inr.inr.inr.inr.inr.inl =>
    go_enter Try.func83, Try.ntmps83
    go_wp2_with (first
      | (at_builtin; refine wpList_push tyI h0 ra rfl rfl rfl rfl rfl (by simp) rfl (by simp) (by omega) ?_; intro a1 c1 w1 own1 hg1 hm1)
      | (go_at_call 90; ((with_reducible refine (Rev1_calls _ _ _ _ (by omega)).mono ?_); rintro e w2 ⟨rfl, rfl⟩)))
    go_ret
    unfold ReadsPost
    exact ⟨_, _, rfl, own1, (Below.alloc (Below.refl _ _) (Nat.le_refl _) _).trans ((below_of_grown hg1).mono (by simp))⟩
  all_goals
    go_enter Try.func83, Try.ntmps83
    go_wp2_with (first
      | (at_builtin; refine wpList_push tyI h0 rb rfl rfl rfl rfl rfl (by simp) rfl (by simp) (by omega) ?_; intro a1 c1 w1 own1 hg1 hm1; clear h0; obtain ⟨x0, x1, x2, x3, x4, y0, y1, y2, y3, y4⟩ := ((Blk.new w 34 _).grown hg1 (by simp)).c5; have hB1 : Below w.heap.size w w1 := (Below.alloc (Below.refl _ _) (Nat.le_refl _) _).trans ((below_of_grown hg1).mono (by simp)); have hz1 := hB1.size)
      | (at_builtin; refine wpList_push tyI own1 ra rfl rfl rfl rfl rfl (by simp) rfl hz1 (by omega) ?_; intro a2 c2 w2 own2 hg2 hm2; obtain ⟨g, rfl, hg3, hg4⟩ := own2.some_ (by simp); have hB2 := below_push hB1 own1 hg2 hz1; clear own1)
      | (go_at_call 90; ((with_reducible refine (Rev2_calls g _ _ _ _ _ own2).mono ?_); rintro e w3 ⟨rfl, own3, hT3⟩)))
    go_ret
    unfold ReadsPost
    exact ⟨_, _, rfl, own3, hT3.below hB2 (by simpa using hg3) hB2.size⟩

/-- the unsigned words as the walk writes them -/
theorem u64_wrap (n : Int) : IntKind.u64.wrap n = n % 18446744073709551616 := by simp [IntKind.wrap, IntKind.signed, IntKind.bits]
theorem u64_add (a b : UInt64) : IntKind.u64.wrap ((a.toNat : Int) + (b.toNat : Int)) = ((a + b).toNat : Int) := by
  rw [u64_wrap, UInt64.toNat_add]; omega
theorem u64_sub (a b : UInt64) : IntKind.u64.wrap ((a.toNat : Int) - (b.toNat : Int)) = ((a - b).toNat : Int) := by
  have ha := a.toNat_lt
  have hb := b.toNat_lt
  rw [u64_wrap, UInt64.toNat_sub]; omega
theorem u64_mul (a b : UInt64) : IntKind.u64.wrap ((a.toNat : Int) * (b.toNat : Int)) = ((a * b).toNat : Int) := by
  rw [u64_wrap, UInt64.toNat_mul, ← Int.natCast_mul]; omega
theorem u64_neg (a : UInt64) : IntKind.u64.wrap (-(a.toNat : Int)) = ((0 - a).toNat : Int) := by
  have ha := a.toNat_lt
  have := u64_sub 0 a
  rw [← this, u64_wrap, u64_wrap]; simp
theorem ret_u {a b : Int} (h : a = b) : Ending.returned (.int .u64 a) = .returned (.int .u64 b) := by rw [h]
theorem apply_no {x : OpD} (a b : UInt64) (h : x.kind < 0 ∨ 7 < x.kind) : applyU x a b = 0 := by
  unfold applyU
  rw [if_neg (by omega), if_neg (by omega), if_neg (by omega), if_neg (by omega), if_neg (by omega), if_neg (by omega)]

theorem Apply_calls (x : OpD) (a b : UInt64) (w : World) : Calls Try.prog 57 #[.agg #[.int .i64 x.kind, .int .i64 x.d, .int .i64 x.a, .int .i64 x.b, .int .u64 (x.v.toNat : Int)], .int .u64 (a.toNat : Int), .int .u64 (b.toNat : Int)] w fun e w' => e = .returned (.int .u64 ((applyU x a b).toNat : Int)) ∧ Below w.heap.size w w' := by
  obtain ⟨k, rd, ra, rb, v⟩ := x
  simp only
  rcases kind8 k with h | rfl | rfl | rfl | rfl | rfl | rfl | rfl | rfl | h
  case inl =>
    obtain ⟨h0, h1, h2, h3, h4, h5, h6, h7⟩ := kind_no (.inl h)
    go_enter Try.func57, Try.ntmps57
    go_wp2
    go_ret
    exact ⟨ret_u (by rw [apply_no a b (.inl h)]; rfl), (by with_reducible repeat first | exact Below.refl _ _ | assumption | refine below_drewN ?_ _ | refine Below.drew ?_ | refine Below.alloc ?_ (by simp <;> omega) _ | refine Below.setCell ?_ (by simp <;> omega) _)⟩
  case inr.inr.inr.inr.inr.inr.inr.inr.inr =>
    obtain ⟨h0, h1, h2, h3, h4, h5, h6, h7⟩ := kind_no (.inr h)
    go_enter Try.func57, Try.ntmps57
    go_wp2
    go_ret
    exact ⟨ret_u (by rw [apply_no a b (.inr h)]; rfl), (by with_reducible repeat first | exact Below.refl _ _ | assumption | refine below_drewN ?_ _ | refine Below.drew ?_ | refine Below.alloc ?_ (by simp <;> omega) _ | refine Below.setCell ?_ (by simp <;> omega) _)⟩
  all_goals
    go_enter Try.func57, Try.ntmps57
    go_wp2
    go_ret
    first
      | exact ⟨ret_u (by simp only [applyU]; first | rfl | exact u64_add a b | exact u64_sub a b | exact u64_mul a b | exact u64_neg a), (by with_reducible repeat first | exact Below.refl _ _ | assumption | refine below_drewN ?_ _ | refine Below.drew ?_ | refine Below.alloc ?_ (by simp <;> omega) _ | refine Below.setCell ?_ (by simp <;> omega) _)⟩
      | trace_state
end Go.Proofs.Ytoklehndfncmnaa
