/- Several texts of mine in one file. -/
import Derived.Test.YtcamcnahkdiefaaGreatYMCac
import Derived.StillTailTactics
import Derived.IntWalk
import Derived.Test.YtcamcnahkdiefaaGreatYMCaa
/- Several texts of mine in one file: Oc, Od, R7, R1, R1b. -/
/- Chapter 7: what a kind asks for, whether an operation is one, what it writes and reads. -/
namespace Go.Proofs.YtcamcnahkdiefaaGreat
set_option linter.unusedVariables false
set_option linter.unusedSimpArgs false
open Go.RowKit

theorem box5 {w w1 : World} {T : TypeId} {v0 v1 v2 v3 v4 : Value} (hb : Below (w.alloc (.cells #[v0, v1, v2, v3, v4] T)).heap.size (w.alloc (.cells #[v0, v1, v2, v3, v4] T)) w1) :
    w.heap.size < w1.heap.size ∧ Below w.heap.size w w1 ∧ Blk w1 w.heap.size T #[v0, v1, v2, v3, v4] :=
  ⟨Nat.lt_of_lt_of_le (by simp) hb.size, (Below.alloc (Below.refl _ _) (Nat.le_refl _) _).trans (hb.mono (by simp)), (Blk.new w T _).belowN hb⟩
theorem u64_zero (v : UInt64) : ((v.toNat : Int) == 0) = decide (v = 0) := by
  by_cases h : v = 0
  · simp [h]
  · have : v.toNat ≠ 0 := fun e => h (UInt64.toNat_inj.1 (by simpa using e))
    simp [h]; omega
theorem kind_no {k : Int} (h : k < 0 ∨ 7 < k) : (k == 0) = false ∧ (k == 1) = false ∧ (k == 2) = false ∧ (k == 3) = false ∧ (k == 4) = false ∧ (k == 5) = false ∧ (k == 6) = false ∧ (k == 7) = false := by
  refine ⟨?_, ?_, ?_, ?_, ?_, ?_, ?_, ?_⟩ <;> simp <;> omega
theorem asks_no {k : Int} (h : k < 0 ∨ 7 < k) : dOf k = false ∧ aOf k = false ∧ bOf k = false ∧ vOf k = false := by
  unfold dOf aOf bOf vOf
  simp
  omega

theorem of_calls (k : Int) (w : World) : Calls Tryz.prog 168 #[.int .i64 k] w fun e w' => e = .returned (.agg #[.bool (dOf k), .bool (aOf k), .bool (bOf k), .bool (vOf k)]) ∧ Below w.heap.size w w' := by
  rcases kind8 k with h | rfl | rfl | rfl | rfl | rfl | rfl | rfl | rfl | h
  case inl =>
    obtain ⟨h0, h1, h2, h3, h4, h5, h6, h7⟩ := kind_no (.inl h)
    obtain ⟨e1, e2, e3, e4⟩ := asks_no (.inl h)
    rw [e1, e2, e3, e4]
    clear e1 e2 e3 e4
    go_enter Tryz.func168, Tryz.ntmps168
    go_wp2
    exact bodyPost_ret (v := .agg #[.bool false, .bool false, .bool false, .bool false]) (by simp [results, Tryz.results168, go_sem]) rfl ⟨rfl, (by with_reducible repeat first | exact Below.refl _ _ | assumption | refine below_drewN ?_ _ | refine Below.drew ?_ | refine Below.alloc ?_ (by simp <;> omega) _ | refine Below.setCell ?_ (by simp <;> omega) _)⟩
  case inr.inr.inr.inr.inr.inr.inr.inr.inr =>
    obtain ⟨h0, h1, h2, h3, h4, h5, h6, h7⟩ := kind_no (.inr h)
    obtain ⟨e1, e2, e3, e4⟩ := asks_no (.inr h)
    rw [e1, e2, e3, e4]
    clear e1 e2 e3 e4
    go_enter Tryz.func168, Tryz.ntmps168
    go_wp2
    exact bodyPost_ret (v := .agg #[.bool false, .bool false, .bool false, .bool false]) (by simp [results, Tryz.results168, go_sem]) rfl ⟨rfl, (by with_reducible repeat first | exact Below.refl _ _ | assumption | refine below_drewN ?_ _ | refine Below.drew ?_ | refine Below.alloc ?_ (by simp <;> omega) _ | refine Below.setCell ?_ (by simp <;> omega) _)⟩
  all_goals
    go_enter Tryz.func168, Tryz.ntmps168
    go_wp2
    first
      | exact bodyPost_ret (v := .agg #[.bool false, .bool false, .bool false, .bool false]) (by simp [results, Tryz.results168, go_sem]) rfl ⟨rfl, (by with_reducible repeat first | exact Below.refl _ _ | assumption | refine below_drewN ?_ _ | refine Below.drew ?_ | refine Below.alloc ?_ (by simp <;> omega) _ | refine Below.setCell ?_ (by simp <;> omega) _)⟩
      | exact bodyPost_ret (v := .agg #[.bool true, .bool true, .bool true, .bool false]) (by simp [results, Tryz.results168, go_sem]) rfl ⟨rfl, (by with_reducible repeat first | exact Below.refl _ _ | assumption | refine below_drewN ?_ _ | refine Below.drew ?_ | refine Below.alloc ?_ (by simp <;> omega) _ | refine Below.setCell ?_ (by simp <;> omega) _)⟩
      | exact bodyPost_ret (v := .agg #[.bool true, .bool true, .bool false, .bool false]) (by simp [results, Tryz.results168, go_sem]) rfl ⟨rfl, (by with_reducible repeat first | exact Below.refl _ _ | assumption | refine below_drewN ?_ _ | refine Below.drew ?_ | refine Below.alloc ?_ (by simp <;> omega) _ | refine Below.setCell ?_ (by simp <;> omega) _)⟩
      | exact bodyPost_ret (v := .agg #[.bool true, .bool false, .bool false, .bool true]) (by simp [results, Tryz.results168, go_sem]) rfl ⟨rfl, (by with_reducible repeat first | exact Below.refl _ _ | assumption | refine below_drewN ?_ _ | refine Below.drew ?_ | refine Below.alloc ?_ (by simp <;> omega) _ | refine Below.setCell ?_ (by simp <;> omega) _)⟩
      | exact bodyPost_ret (v := .agg #[.bool false, .bool false, .bool false, .bool true]) (by simp [results, Tryz.results168, go_sem]) rfl ⟨rfl, (by with_reducible repeat first | exact Below.refl _ _ | assumption | refine below_drewN ?_ _ | refine Below.drew ?_ | refine Below.alloc ?_ (by simp <;> omega) _ | refine Below.setCell ?_ (by simp <;> omega) _)⟩

theorem known_calls (k : Int) (w : World) : Calls Tryz.prog 204 #[.int .i64 k] w fun e w' => e = .returned (.bool (decide (0 ≤ k) && decide (k ≤ 7))) ∧ w = w' := by
  by_cases h : 0 ≤ k
  · by_cases h2 : k < 8
    · have e : (decide (0 ≤ k) && decide (k ≤ 7)) = true := by simp; omega
      rw [e]
      clear e
      go_enter Tryz.func204, Tryz.ntmps204
      go_wp2
      go_ret
      exact ⟨rfl, rfl⟩
    · have e : (decide (0 ≤ k) && decide (k ≤ 7)) = false := by simp; omega
      rw [e]
      clear e
      go_enter Tryz.func204, Tryz.ntmps204
      go_wp2
      go_ret
      exact ⟨rfl, rfl⟩
  · have e : (decide (0 ≤ k) && decide (k ≤ 7)) = false := by simp; omega
    rw [e]
    clear e
    go_enter Tryz.func204, Tryz.ntmps204
    go_wp2
    go_ret
    exact ⟨rfl, rfl⟩
theorem register_calls (n : Int) (b : Bool) (w : World) : Calls Tryz.prog 205 #[.int .i64 n, .bool b] w fun e w' => e = .returned (.bool (regB n b)) ∧ w = w' := by
  cases b with
  | false =>
    by_cases h : n = 0
    · subst h
      go_enter Tryz.func205, Tryz.ntmps205
      go_wp2
      go_ret
      exact ⟨rfl, rfl⟩
    · have e : regB n false = false := by simp [regB, h]
      have h2 : (n == 0) = false := by simpa using h
      rw [e]
      clear e h
      go_enter Tryz.func205, Tryz.ntmps205
      go_wp2
      go_ret
      exact ⟨rfl, rfl⟩
  | true =>
    by_cases h : 0 ≤ n
    · by_cases h2 : n ≤ 2147483647
      · have e : regB n true = true := by simp [regB, h, h2]
        rw [e]
        clear e
        go_enter Tryz.func205, Tryz.ntmps205
        go_wp2
        go_ret
        exact ⟨rfl, rfl⟩
      · have e : regB n true = false := by simp [regB, h2]
        rw [e]
        clear e
        go_enter Tryz.func205, Tryz.ntmps205
        go_wp2
        go_ret
        exact ⟨rfl, rfl⟩
    · have e : regB n true = false := by simp [regB, h]
      rw [e]
      clear e
      go_enter Tryz.func205, Tryz.ntmps205
      go_wp2
      go_ret
      exact ⟨rfl, rfl⟩

set_option maxHeartbeats 800000 in
theorem Right_calls (x : OpD) (w : World) : Calls Tryz.prog 196 #[.agg #[.int .i64 x.kind, .int .i64 x.d, .int .i64 x.a, .int .i64 x.b, .int .u64 (x.v.toNat : Int)]] w fun e w' => e = .returned (.bool (rightB x)) ∧ Below w.heap.size w w' := by
  obtain ⟨K, hK⟩ : ∃ K, K = (decide (0 ≤ x.kind) && decide (x.kind ≤ 7)) := ⟨_, rfl⟩
  obtain ⟨D, hD⟩ : ∃ D, D = regB x.d (dOf x.kind) := ⟨_, rfl⟩
  obtain ⟨A, hA⟩ : ∃ A, A = regB x.a (aOf x.kind) := ⟨_, rfl⟩
  obtain ⟨B, hB⟩ : ∃ B, B = regB x.b (bOf x.kind) := ⟨_, rfl⟩
  obtain ⟨V, hV⟩ : ∃ V, V = vOf x.kind := ⟨_, rfl⟩
  have hR : rightB x = (K && D && A && B && (V || decide (x.v = 0))) := by rw [hK, hD, hA, hB, hV]; rfl
  have HR := hide hR
  have HO : ∀ w, Calls Tryz.prog 168 #[.int .i64 x.kind] w fun e w' => e = .returned (.agg #[.bool (dOf x.kind), .bool (aOf x.kind), .bool (bOf x.kind), .bool V]) ∧ Below w.heap.size w w' := by rw [hV]; exact of_calls x.kind
  have HK : ∀ w, Calls Tryz.prog 204 #[.int .i64 x.kind] w fun e w' => e = .returned (.bool K) ∧ w = w' := by rw [hK]; exact known_calls x.kind
  have HD : ∀ w, Calls Tryz.prog 205 #[.int .i64 x.d, .bool (dOf x.kind)] w fun e w' => e = .returned (.bool D) ∧ w = w' := by rw [hD]; exact register_calls _ _
  have HA : ∀ w, Calls Tryz.prog 205 #[.int .i64 x.a, .bool (aOf x.kind)] w fun e w' => e = .returned (.bool A) ∧ w = w' := by rw [hA]; exact register_calls _ _
  have HB : ∀ w, Calls Tryz.prog 205 #[.int .i64 x.b, .bool (bOf x.kind)] w fun e w' => e = .returned (.bool B) ∧ w = w' := by rw [hB]; exact register_calls _ _
  have HO := hide HO
  have HK := hide HK
  have HD := hide HD
  have HA := hide HA
  have HB := hide HB
  rw [hR]
  clear hR hK hD hA hB hV
  generalize dOf x.kind = d at *
  generalize aOf x.kind = a at *
  generalize bOf x.kind = b at *
  obtain ⟨k, rd, ra, rb, v⟩ := x
  simp only at *
  have hcase : K = false ∨ (K = true ∧ D = false) ∨ (K = true ∧ D = true ∧ A = false) ∨ (K = true ∧ D = true ∧ A = true ∧ B = false) ∨ (K = true ∧ D = true ∧ A = true ∧ B = true ∧ V = true) ∨ (K = true ∧ D = true ∧ A = true ∧ B = true ∧ V = false) := by
    cases K <;> cases D <;> cases A <;> cases B <;> cases V <;> simp
  have H : True := trivial
  rcases hcase with rfl | ⟨rfl, rfl⟩ | ⟨rfl, rfl, rfl⟩ | ⟨rfl, rfl, rfl, rfl⟩ | ⟨rfl, rfl, rfl, rfl, rfl⟩ | ⟨rfl, rfl, rfl, rfl, rfl⟩
  all_goals
    go_enter Tryz.func196, Tryz.ntmps196
    go_wp2_with (first | (go_at_call 168; ((with_reducible refine (HO.out _).mono ?_); rintro e w1 ⟨rfl, hb⟩; obtain ⟨hz, hB1, hX⟩ := box5 hb; obtain ⟨x0, x1, x2, x3, x4, y0, y1, y2, y3, y4⟩ := hX.c5; clear hb hX)) | (go_at_call 204; ((with_reducible refine (HK.out _).mono ?_); rintro e w2 ⟨rfl, rfl⟩)) | (go_at_call 205; first | ((with_reducible refine (HD.out _).mono ?_); rintro e w2 ⟨rfl, rfl⟩) | ((with_reducible refine (HA.out _).mono ?_); rintro e w2 ⟨rfl, rfl⟩) | ((with_reducible refine (HB.out _).mono ?_); rintro e w2 ⟨rfl, rfl⟩)))
    go_ret
    exact ⟨by simp [u64_zero], hB1.alloc (Nat.le_of_lt hz) _⟩

end Go.Proofs.YtcamcnahkdiefaaGreat

/- Chapter 7: what an operation writes and reads, what it makes of numbers. -/
namespace Go.Proofs.YtcamcnahkdiefaaGreat
set_option linter.unusedVariables false
set_option linter.unusedSimpArgs false
open Go.RowKit

theorem fld_d (a b c d : Bool) (w : World) : (Instr.field 254 (.agg #[.bool a, .bool b, .bool c, .bool d]) 0).run Tryz.prog w = .ok (.bool a) w := by kernel_rfl
theorem Writes7_calls (x : OpD) (w : World) : Calls Tryz.prog 149 #[.agg #[.int .i64 x.kind, .int .i64 x.d, .int .i64 x.a, .int .i64 x.b, .int .u64 (x.v.toNat : Int)]] w fun e w' => e = .returned (.tuple #[.int .i64 (if dOf x.kind = true then x.d else 0), .bool (dOf x.kind)]) ∧ Below w.heap.size w w' := by
  have HO := hide (of_calls x.kind)
  obtain ⟨k, rd, ra, rb, v⟩ := x
  simp only at *
  have hfl := fld_d
  generalize dOf k = d at *
  cases d
  all_goals
    go_enter Tryz.func149, Tryz.ntmps149
    go_wp2_with (go_at_call 168; ((with_reducible refine (HO.out _).mono ?_); rintro e w1 ⟨rfl, hb⟩; obtain ⟨hz, hB1, hX⟩ := box5 hb; obtain ⟨x0, x1, x2, x3, x4, y0, y1, y2, y3, y4⟩ := hX.c5; clear hb hX))
    go_ret2
    exact ⟨rfl, hB1⟩

theorem Rev1_calls (a : Option Addr) (n c : Nat) (w : World) (hn : n ≤ 1) : Calls Tryz.prog 207 #[.slice a n c] w fun e w' => e = .returned (.tuple #[]) ∧ w = w' := by
  go_enter Tryz.func207, Tryz.ntmps207
  go_wp2
  go_loopw [2, 3] (fun i j wr => i = .int .i64 0 ∧ j = .int .i64 ((n : Int) - 1) ∧ w = wr) (fun _ _ _ => 0)
  case atStart => exact ⟨rfl, rfl, rfl⟩
  case round =>
    obtain ⟨rfl, rfl, rfl⟩ := hrel
    have h1 : n = 0 ∨ n = 1 := by omega
    rcases h1 with rfl | rfl
    all_goals
      go_wp2
      go_end0
      exact ⟨rfl, rfl⟩
theorem Rev2_calls (g c B : Nat) (x y : Int) (w : World) (h : Own w B 3 (some ⟨g, 0, none⟩) c [x, y]) : Calls Tryz.prog 207 #[.slice (some ⟨g, 0, none⟩) 2 c] w fun e w' => e = .returned (.tuple #[]) ∧
    Own w' B 3 (some ⟨g, 0, none⟩) c [y, x] ∧ Turned [g] w w' := by
  have hc0 : w.cell? ⟨g, 0, none⟩ = some (.int .i64 x) := by obtain ⟨x1, u, e1, e2, e3⟩ := h.cell1 (i := 0) (by simp) rfl; simp at e1; subst e1; simp [Flat.enc] at e2; subst e2; exact e3
  have hc1 : w.cell? ⟨g, 1, none⟩ = some (.int .i64 y) := by obtain ⟨x1, u, e1, e2, e3⟩ := h.cell1 (i := 1) (by simp) rfl; simp at e1; subst e1; simp [Flat.enc] at e2; subst e2; exact e3
  have hf0 := h.frozen 0
  have hf1 := h.frozen 1
  go_enter Tryz.func207, Tryz.ntmps207
  go_wp2
  go_loopw [2, 3] (fun i j wr => (i = .int .i64 0 ∧ j = .int .i64 1 ∧ w = wr) ∨ (i = .int .i64 1 ∧ j = .int .i64 0 ∧ Own wr B 3 (some ⟨g, 0, none⟩) c [y, x] ∧ Turned [g] w wr)) (fun i _ _ => 1 - (intOf i).toNat)
  case atStart => exact .inl ⟨rfl, rfl, rfl⟩
  case round =>
    rcases hrel with ⟨rfl, rfl, rfl⟩ | ⟨rfl, rfl, h1, h2⟩
    · go_wp2
      go_region
      all_goals go_wp2
      all_goals go_roundw
      case rel =>
        right
        refine ⟨rfl, rfl, ?_, ?_⟩
        · have := ((h.set1 0 y (.int .i64 y) rfl).set1 1 x (.int .i64 x) rfl).drew
          simpa using this
        · have t1 : ∀ (w : World) (i : Nat) (u : Value), Turned [g] w (w.setCell ⟨g, i, none⟩ u) := fun w i u => Turned.ofGrown (grown_setCell w g i u) (fun g hg => by injection hg with hg; simp [hg])
          exact Turned.drew ((t1 _ _ _).trans (t1 _ _ _) (fun k hk => .inl hk))
      case measure => simp [intOf]
    · go_wp2
      go_end0
      exact ⟨rfl, h1, h2⟩

def ReadsPost (w : World) (x : OpD) (e : Ending) (w' : World) : Prop := ∃ a c, e = .returned (.slice a (readsL x).length c) ∧ Own w' w.heap.size 3 a c (readsL x) ∧ Below w.heap.size w w'
theorem reads_no {x : OpD} (h : aOf x.kind = false) : readsL x = [] := by simp [readsL, h]
set_option maxHeartbeats 1600000 in
theorem Reads_calls (x : OpD) (w : World) : Calls Tryz.prog 199 #[.agg #[.int .i64 x.kind, .int .i64 x.d, .int .i64 x.a, .int .i64 x.b, .int .u64 (x.v.toNat : Int)]] w (ReadsPost w x) := by
  obtain ⟨k, rd, ra, rb, v⟩ := x
  simp only
  have h0 : Own (w.alloc (.cells #[.int .i64 k, .int .i64 rd, .int .i64 ra, .int .i64 rb, .int .u64 (v.toNat : Int)] 89)) w.heap.size 3 none 0 ([] : List Int) := Own.none _ _ _
  rcases kind8 k with h | rfl | rfl | rfl | rfl | rfl | rfl | rfl | rfl | h
  case inl =>
    obtain ⟨h0, h1, h2, h3, h4, h5, h6, h7⟩ := kind_no (.inl h)
    obtain ⟨e1, e2, e3, e4⟩ := asks_no (.inl h)
    have HE := hide (reads_no (x := ⟨k, rd, ra, rb, v⟩) e2)
    clear e1 e2 e3 e4
    go_enter Tryz.func199, Tryz.ntmps199
    go_wp2_with (go_at_call 207; ((with_reducible refine (Rev1_calls none 0 0 _ (by omega)).mono ?_); rintro e w1 ⟨rfl, rfl⟩))
    go_ret
    unfold ReadsPost
    rw [HE.out]
    exact ⟨_, _, rfl, Own.none _ _ _, (by with_reducible repeat first | exact Below.refl _ _ | assumption | refine below_drewN ?_ _ | refine Below.drew ?_ | refine Below.alloc ?_ (by simp <;> omega) _ | refine Below.setCell ?_ (by simp <;> omega) _)⟩
  case inr.inr.inr.inr.inr.inr.inr.inr.inr =>
    obtain ⟨h0, h1, h2, h3, h4, h5, h6, h7⟩ := kind_no (.inr h)
    obtain ⟨e1, e2, e3, e4⟩ := asks_no (.inr h)
    have HE := hide (reads_no (x := ⟨k, rd, ra, rb, v⟩) e2)
    clear e1 e2 e3 e4
    go_enter Tryz.func199, Tryz.ntmps199
    go_wp2_with (go_at_call 207; ((with_reducible refine (Rev1_calls none 0 0 _ (by omega)).mono ?_); rintro e w1 ⟨rfl, rfl⟩))
    go_ret
    unfold ReadsPost
    rw [HE.out]
    exact ⟨_, _, rfl, Own.none _ _ _, (by with_reducible repeat first | exact Below.refl _ _ | assumption | refine below_drewN ?_ _ | refine Below.drew ?_ | refine Below.alloc ?_ (by simp <;> omega) _ | refine Below.setCell ?_ (by simp <;> omega) _)⟩
  case inr.inl | inr.inr.inr.inr.inr.inr.inl | inr.inr.inr.inr.inr.inr.inr.inr.inl =>
    go_enter Tryz.func199, Tryz.ntmps199
    go_wp2_with (go_at_call 207; ((with_reducible refine (Rev1_calls none 0 0 _ (by omega)).mono ?_); rintro e w1 ⟨rfl, rfl⟩))
    go_ret
    unfold ReadsPost
    exact ⟨_, _, rfl, Own.none _ _ _, (by with_reducible repeat first | exact Below.refl _ _ | assumption | refine below_drewN ?_ _ | refine Below.drew ?_ | refine Below.alloc ?_ (by simp <;> omega) _ | refine Below.setCell ?_ (by simp <;> omega) _)⟩
  case inr.inr.inr.inr.inr.inl | inr.inr.inr.inr.inr.inr.inr.inl =>
    go_enter Tryz.func199, Tryz.ntmps199
    go_wp2_with (first
      | (at_builtin; refine wpList_push tyI h0 ra rfl rfl rfl rfl rfl (by simp) rfl (by simp) (by omega) ?_; intro a1 c1 w1 own1 hg1 hm1)
      | (go_at_call 207; ((with_reducible refine (Rev1_calls _ _ _ _ (by omega)).mono ?_); rintro e w2 ⟨rfl, rfl⟩)))
    go_ret
    unfold ReadsPost
    exact ⟨_, _, rfl, own1, (Below.alloc (Below.refl _ _) (Nat.le_refl _) _).trans ((below_of_grown hg1).mono (by simp))⟩
  all_goals
    go_enter Tryz.func199, Tryz.ntmps199
    go_wp2_with (first
      | (at_builtin; refine wpList_push tyI h0 rb rfl rfl rfl rfl rfl (by simp) rfl (by simp) (by omega) ?_; intro a1 c1 w1 own1 hg1 hm1; clear h0; obtain ⟨x0, x1, x2, x3, x4, y0, y1, y2, y3, y4⟩ := ((Blk.new w 89 _).grown hg1 (by simp)).c5; have hB1 : Below w.heap.size w w1 := (Below.alloc (Below.refl _ _) (Nat.le_refl _) _).trans ((below_of_grown hg1).mono (by simp)); have hz1 := hB1.size)
      | (at_builtin; refine wpList_push tyI own1 ra rfl rfl rfl rfl rfl (by simp) rfl hz1 (by omega) ?_; intro a2 c2 w2 own2 hg2 hm2; obtain ⟨g, rfl, hg3, hg4⟩ := own2.some_ (by simp); have hB2 := below_push hB1 own1 hg2 hz1; clear own1)
      | (go_at_call 207; ((with_reducible refine (Rev2_calls g _ _ _ _ _ own2).mono ?_); rintro e w3 ⟨rfl, own3, hT3⟩)))
    go_ret
    unfold ReadsPost
    exact ⟨_, _, rfl, own3, hT3.below hB2 (by simpa using hg3) hB2.size⟩

theorem u64_wrap (n : Int) : IntKind.u64.wrap n = n % 18446744073709551616 := by simp [IntKind.wrap, IntKind.signed, IntKind.bits]
theorem u64_add (a b : UInt64) : IntKind.u64.wrap ((a.toNat : Int) + (b.toNat : Int)) = ((a + b).toNat : Int) := by
  rw [u64_wrap, UInt64.toNat_add]; omega
theorem u64_sub (a b : UInt64) : IntKind.u64.wrap ((a.toNat : Int) - (b.toNat : Int)) = ((a - b).toNat : Int) := by
  have ha := a.toNat_lt
  have hb := b.toNat_lt
  rw [u64_wrap, UInt64.toNat_sub]; omega
theorem u64_mul (a b : UInt64) : IntKind.u64.wrap ((a.toNat : Int) * (b.toNat : Int)) = ((a * b).toNat : Int) := by
  rw [u64_wrap, UInt64.toNat_mul, ← Int.natCast_mul]; omega
theorem u64_neg (a : UInt64) : IntKind.u64.wrap (-(a.toNat : Int)) = ((0 - a).toNat : Int) := by
  have ha := a.toNat_lt
  have := u64_sub 0 a
  rw [← this, u64_wrap, u64_wrap]; simp
theorem ret_u {a b : Int} (h : a = b) : Ending.returned (.int .u64 a) = .returned (.int .u64 b) := by rw [h]
theorem apply_no {x : OpD} (a b : UInt64) (h : x.kind < 0 ∨ 7 < x.kind) : applyU x a b = 0 := by
  unfold applyU
  rw [if_neg (by omega), if_neg (by omega), if_neg (by omega), if_neg (by omega), if_neg (by omega), if_neg (by omega)]

theorem Apply_calls (x : OpD) (a b : UInt64) (w : World) : Calls Tryz.prog 114 #[.agg #[.int .i64 x.kind, .int .i64 x.d, .int .i64 x.a, .int .i64 x.b, .int .u64 (x.v.toNat : Int)], .int .u64 (a.toNat : Int), .int .u64 (b.toNat : Int)] w fun e w' => e = .returned (.int .u64 ((applyU x a b).toNat : Int)) ∧ Below w.heap.size w w' := by
  obtain ⟨k, rd, ra, rb, v⟩ := x
  simp only
  rcases kind8 k with h | rfl | rfl | rfl | rfl | rfl | rfl | rfl | rfl | h
  case inl =>
    obtain ⟨h0, h1, h2, h3, h4, h5, h6, h7⟩ := kind_no (.inl h)
    go_enter Tryz.func114, Tryz.ntmps114
    go_wp2
    go_ret
    exact ⟨ret_u (by rw [apply_no a b (.inl h)]; rfl), (by with_reducible repeat first | exact Below.refl _ _ | assumption | refine below_drewN ?_ _ | refine Below.drew ?_ | refine Below.alloc ?_ (by simp <;> omega) _ | refine Below.setCell ?_ (by simp <;> omega) _)⟩
  case inr.inr.inr.inr.inr.inr.inr.inr.inr =>
    obtain ⟨h0, h1, h2, h3, h4, h5, h6, h7⟩ := kind_no (.inr h)
    go_enter Tryz.func114, Tryz.ntmps114
    go_wp2
    go_ret
    exact ⟨ret_u (by rw [apply_no a b (.inr h)]; rfl), (by with_reducible repeat first | exact Below.refl _ _ | assumption | refine below_drewN ?_ _ | refine Below.drew ?_ | refine Below.alloc ?_ (by simp <;> omega) _ | refine Below.setCell ?_ (by simp <;> omega) _)⟩
  all_goals
    go_enter Tryz.func114, Tryz.ntmps114
    go_wp2
    go_ret
    first
      | exact ⟨ret_u (by simp only [applyU]; first | rfl | exact u64_add a b | exact u64_sub a b | exact u64_mul a b | exact u64_neg a), (by with_reducible repeat first | exact Below.refl _ _ | assumption | refine below_drewN ?_ _ | refine Below.drew ?_ | refine Below.alloc ?_ (by simp <;> omega) _ | refine Below.setCell ?_ (by simp <;> omega) _)⟩
      | trace_state
end Go.Proofs.YtcamcnahkdiefaaGreat

/- Chapter 7, the document's answers: what a kind asks for, whether an operation is one. -/
namespace Go.Proofs.YtcamcnahkdiefaaGreat
set_option linter.unusedVariables false
set_option linter.unusedSimpArgs false
open Go.RowKit

theorem Asks_calls (k : Int) (w : World) : Calls Tryz.prog 143 #[.int .i64 k] w fun e w' => e = .returned (.agg #[.bool (dOf k), .bool (aOf k), .bool (bOf k), .bool (vOf k)]) ∧ Below w.heap.size w w' := by
  rcases kind8 k with h | rfl | rfl | rfl | rfl | rfl | rfl | rfl | rfl | h
  case inl =>
    obtain ⟨h0, h1, h2, h3, h4, h5, h6, h7⟩ := kind_no (.inl h)
    obtain ⟨e1, e2, e3, e4⟩ := asks_no (.inl h)
    rw [e1, e2, e3, e4]
    clear e1 e2 e3 e4
    have h8 : ¬ (1 ≤ k) := by omega
    go_enter Tryz.func143, Tryz.ntmps143
    go_wp2
    exact bodyPost_ret (v := .agg #[.bool false, .bool false, .bool false, .bool false]) (by simp [results, Tryz.results143, go_sem]) rfl ⟨rfl, (by with_reducible repeat first | exact Below.refl _ _ | assumption | refine below_drewN ?_ _ | refine Below.drew ?_ | refine Below.alloc ?_ (by simp <;> omega) _ | refine Below.setCell ?_ (by simp <;> omega) _)⟩
  case inr.inr.inr.inr.inr.inr.inr.inr.inr =>
    obtain ⟨h0, h1, h2, h3, h4, h5, h6, h7⟩ := kind_no (.inr h)
    obtain ⟨e1, e2, e3, e4⟩ := asks_no (.inr h)
    rw [e1, e2, e3, e4]
    clear e1 e2 e3 e4
    have h8 : 1 ≤ k := by omega
    have h9 : ¬ (k ≤ 3) := by omega
    go_enter Tryz.func143, Tryz.ntmps143
    go_wp2
    exact bodyPost_ret (v := .agg #[.bool false, .bool false, .bool false, .bool false]) (by simp [results, Tryz.results143, go_sem]) rfl ⟨rfl, (by with_reducible repeat first | exact Below.refl _ _ | assumption | refine below_drewN ?_ _ | refine Below.drew ?_ | refine Below.alloc ?_ (by simp <;> omega) _ | refine Below.setCell ?_ (by simp <;> omega) _)⟩
  all_goals
    go_enter Tryz.func143, Tryz.ntmps143
    go_wp2
    first
      | exact bodyPost_ret (v := .agg #[.bool false, .bool false, .bool false, .bool false]) (by simp [results, Tryz.results143, go_sem]) rfl ⟨rfl, (by with_reducible repeat first | exact Below.refl _ _ | assumption | refine below_drewN ?_ _ | refine Below.drew ?_ | refine Below.alloc ?_ (by simp <;> omega) _ | refine Below.setCell ?_ (by simp <;> omega) _)⟩
      | exact bodyPost_ret (v := .agg #[.bool true, .bool true, .bool true, .bool false]) (by simp [results, Tryz.results143, go_sem]) rfl ⟨rfl, (by with_reducible repeat first | exact Below.refl _ _ | assumption | refine below_drewN ?_ _ | refine Below.drew ?_ | refine Below.alloc ?_ (by simp <;> omega) _ | refine Below.setCell ?_ (by simp <;> omega) _)⟩
      | exact bodyPost_ret (v := .agg #[.bool true, .bool true, .bool false, .bool false]) (by simp [results, Tryz.results143, go_sem]) rfl ⟨rfl, (by with_reducible repeat first | exact Below.refl _ _ | assumption | refine below_drewN ?_ _ | refine Below.drew ?_ | refine Below.alloc ?_ (by simp <;> omega) _ | refine Below.setCell ?_ (by simp <;> omega) _)⟩
      | exact bodyPost_ret (v := .agg #[.bool true, .bool false, .bool false, .bool true]) (by simp [results, Tryz.results143, go_sem]) rfl ⟨rfl, (by with_reducible repeat first | exact Below.refl _ _ | assumption | refine below_drewN ?_ _ | refine Below.drew ?_ | refine Below.alloc ?_ (by simp <;> omega) _ | refine Below.setCell ?_ (by simp <;> omega) _)⟩
      | exact bodyPost_ret (v := .agg #[.bool false, .bool false, .bool false, .bool true]) (by simp [results, Tryz.results143, go_sem]) rfl ⟨rfl, (by with_reducible repeat first | exact Below.refl _ _ | assumption | refine below_drewN ?_ _ | refine Below.drew ?_ | refine Below.alloc ?_ (by simp <;> omega) _ | refine Below.setCell ?_ (by simp <;> omega) _)⟩
theorem idx_d (a b c d : Bool) (w : World) : (Instr.index 221 (.agg #[.bool a, .bool b, .bool c, .bool d]) (.int .i64 0)).run Tryz.prog w = .ok (.bool a) w := by kernel_rfl

theorem wpList_idx {ops : Array Oper} {rest : List Oper} {o : Oper} {act : Act} {Q : Exit → Act → World → Prop} {w : World} (x i : Operand) (hgd : o.guard = none) (ho : o.op = .index 221 x i) (a b c d : Bool)
    (hx : act.eval x = .agg #[.bool a, .bool b, .bool c, .bool d]) (hi : act.eval i = .int .i64 0) (h : wpList Tryz.prog ops Q rest (act.put o.dst (.bool a)) w) : wpList Tryz.prog ops Q (o :: rest) act w := by
  refine wpList_plain hgd fun K hK => ?_
  unfold Oper.wp execOp
  simp only [ho, hx, hi, Sem.run_bind, idx_d, Result.andThen_ok, Sem.run_pure]
  exact hK _ _ h
theorem regB_no {n : Int} {b : Bool} (h : n < 0 ∨ 2147483647 < n ∨ (b = false ∧ n ≠ 0)) : regB n b = false := by
  unfold regB
  cases b
  · simp; omega
  · simp at h ⊢; omega
theorem regB_yes {n : Int} {b : Bool} (h0 : 0 ≤ n) (h1 : n ≤ 2147483647) (h : b = true ∨ n = 0) : regB n b = true := by
  unfold regB
  cases b
  · simp at h ⊢; exact h
  · simp; omega


set_option maxHeartbeats 1600000 in
theorem Right7_calls (x : OpD) (w : World) : Calls Tryz.prog 169 #[.agg #[.int .i64 x.kind, .int .i64 x.d, .int .i64 x.a, .int .i64 x.b, .int .u64 (x.v.toNat : Int)]] w fun e w' => e = .returned (.bool (rightB x)) ∧ Below w.heap.size w w' := by
  obtain ⟨k, rd, ra, rb, v⟩ := x
  have HO := hide (Asks_calls k)
  obtain ⟨R, hR⟩ : ∃ R, R = rightB ⟨k, rd, ra, rb, v⟩ := ⟨_, rfl⟩
  rw [← hR]
  have hR' : R = (decide (0 ≤ k) && decide (k ≤ 7) && regB rd (dOf k) && regB ra (aOf k) && regB rb (bOf k) && (vOf k || decide (v = 0))) := hR
  have HR := hide hR'
  clear hR hR'
  generalize dOf k = D at *
  generalize aOf k = A at *
  generalize bOf k = B at *
  generalize vOf k = V at *
  by_cases k0 : k < 0
  · have e : decide (0 ≤ k) = false := by simp; omega
    have E := hide e
    clear e
    go_enter Tryz.func169, Tryz.ntmps169
    go_wp2
    go_ret
    exact ⟨by rw [HR.out, E.out]; simp, (by with_reducible repeat first | exact Below.refl _ _ | assumption | refine below_drewN ?_ _ | refine Below.drew ?_ | refine Below.alloc ?_ (by simp <;> omega) _ | refine Below.setCell ?_ (by simp <;> omega) _)⟩
  by_cases k1 : 7 < k
  · have e : decide (k ≤ 7) = false := by simp; omega
    have E := hide e
    clear e
    go_enter Tryz.func169, Tryz.ntmps169
    go_wp2
    go_ret
    exact ⟨by rw [HR.out, E.out]; simp, (by with_reducible repeat first | exact Below.refl _ _ | assumption | refine below_drewN ?_ _ | refine Below.drew ?_ | refine Below.alloc ?_ (by simp <;> omega) _ | refine Below.setCell ?_ (by simp <;> omega) _)⟩
  go_enter Tryz.func169, Tryz.ntmps169
  go_wp2_with (go_at_call 143; ((with_reducible refine (HO.out _).mono ?_); rintro e w1 ⟨rfl, hb⟩; obtain ⟨hz, hB1, hX⟩ := box5 hb; obtain ⟨x0, x1, x2, x3, x4, y0, y1, y2, y3, y4⟩ := hX.c5; clear hb hX))
  have hB : Below w.heap.size w ((w1.alloc (.cells #[.bool D, .bool A, .bool B, .bool V] 221)).alloc (.cells #[.int .i64 rd, .int .i64 ra, .int .i64 rb] 270)) := (hB1.alloc (Nat.le_of_lt hz) _).alloc (by simp; omega) _
  go_loopw [5] (fun s wr => ∃ j : Nat, s = .int .i64 j ∧ j ≤ 3 ∧ Hid ((0 < j → regB rd D = true) ∧ (1 < j → regB ra A = true) ∧ (2 < j → regB rb B = true)) ∧ wr = ((w1.alloc (.cells #[.bool D, .bool A, .bool B, .bool V] 221)).alloc (.cells #[.int .i64 rd, .int .i64 ra, .int .i64 rb] 270))) (fun s _ => 3 - (intOf s).toNat)
  case atStart => exact ⟨0, rfl, by omega, ⟨by omega, by omega, by omega⟩, rfl⟩
  case round =>
    obtain ⟨j, rfl, hj3, hj, rfl⟩ := hrel
    have hc : j = 0 ∨ j = 1 ∨ j = 2 ∨ j = 3 := by omega
    rcases hc with rfl | rfl | rfl | rfl
    · by_cases c1 : rd < 0
      · have e : regB rd D = false := regB_no (.inl c1)
        have E := hide e
        clear e
        go_wp2
        go_ret
        exact ⟨by rw [HR.out, E.out]; simp, hB⟩
      by_cases c2 : 2147483647 < rd
      · have e : regB rd D = false := regB_no (.inr (.inl c2))
        have E := hide e
        clear e
        go_wp2
        go_ret
        exact ⟨by rw [HR.out, E.out]; simp, hB⟩
      cases D with
      | false =>
        by_cases c3 : rd = 0
        · have c4 : (rd == 0) = true := by simpa using c3
          have c5 : (rd != 0) = false := by simpa using c3
          have HC := hide c3
          clear c3
          go_wp2
          go_roundw
          case rel => exact ⟨0 + 1, rfl, by omega, by have := regB_yes (n := rd) (b := false) (by omega) (by omega) (.inr HC.out); simp [Hid] at hj ⊢; simp [hj, this], by trivial⟩
          case measure => simp [intOf]
        · have c4 : (rd == 0) = false := by simpa using c3
          have c5 : (rd != 0) = true := by simpa using c3
          have e : regB rd false = false := regB_no (.inr (.inr ⟨rfl, c3⟩))
          have E := hide e
          clear e c3
          go_wp2
          go_ret
          exact ⟨by rw [HR.out, E.out]; simp, hB⟩
      | true =>
        go_wp2
        go_roundw
        case rel => exact ⟨0 + 1, rfl, by omega, by have := regB_yes (n := rd) (b := true) (by omega) (by omega) (.inl rfl); simp [Hid] at hj ⊢; simp [hj, this], by trivial⟩
        case measure => simp [intOf]
    · by_cases c1 : ra < 0
      · have e : regB ra A = false := regB_no (.inl c1)
        have E := hide e
        clear e
        go_wp2
        go_ret
        exact ⟨by rw [HR.out, E.out]; simp, hB⟩
      by_cases c2 : 2147483647 < ra
      · have e : regB ra A = false := regB_no (.inr (.inl c2))
        have E := hide e
        clear e
        go_wp2
        go_ret
        exact ⟨by rw [HR.out, E.out]; simp, hB⟩
      cases A with
      | false =>
        by_cases c3 : ra = 0
        · have c4 : (ra == 0) = true := by simpa using c3
          have c5 : (ra != 0) = false := by simpa using c3
          have HC := hide c3
          clear c3
          go_wp2
          go_roundw
          case rel => exact ⟨1 + 1, rfl, by omega, by have := regB_yes (n := ra) (b := false) (by omega) (by omega) (.inr HC.out); simp [Hid] at hj ⊢; simp [hj, this], by trivial⟩
          case measure => simp [intOf]
        · have c4 : (ra == 0) = false := by simpa using c3
          have c5 : (ra != 0) = true := by simpa using c3
          have e : regB ra false = false := regB_no (.inr (.inr ⟨rfl, c3⟩))
          have E := hide e
          clear e c3
          go_wp2
          go_ret
          exact ⟨by rw [HR.out, E.out]; simp, hB⟩
      | true =>
        go_wp2
        go_roundw
        case rel => exact ⟨1 + 1, rfl, by omega, by have := regB_yes (n := ra) (b := true) (by omega) (by omega) (.inl rfl); simp [Hid] at hj ⊢; simp [hj, this], by trivial⟩
        case measure => simp [intOf]
    · by_cases c1 : rb < 0
      · have e : regB rb B = false := regB_no (.inl c1)
        have E := hide e
        clear e
        go_wp2
        go_ret
        exact ⟨by rw [HR.out, E.out]; simp, hB⟩
      by_cases c2 : 2147483647 < rb
      · have e : regB rb B = false := regB_no (.inr (.inl c2))
        have E := hide e
        clear e
        go_wp2
        go_ret
        exact ⟨by rw [HR.out, E.out]; simp, hB⟩
      cases B with
      | false =>
        by_cases c3 : rb = 0
        · have c4 : (rb == 0) = true := by simpa using c3
          have c5 : (rb != 0) = false := by simpa using c3
          have HC := hide c3
          clear c3
          go_wp2
          go_roundw
          case rel => exact ⟨2 + 1, rfl, by omega, by have := regB_yes (n := rb) (b := false) (by omega) (by omega) (.inr HC.out); simp [Hid] at hj ⊢; simp [hj, this], by trivial⟩
          case measure => simp [intOf]
        · have c4 : (rb == 0) = false := by simpa using c3
          have c5 : (rb != 0) = true := by simpa using c3
          have e : regB rb false = false := regB_no (.inr (.inr ⟨rfl, c3⟩))
          have E := hide e
          clear e c3
          go_wp2
          go_ret
          exact ⟨by rw [HR.out, E.out]; simp, hB⟩
      | true =>
        go_wp2
        go_roundw
        case rel => exact ⟨2 + 1, rfl, by omega, by have := regB_yes (n := rb) (b := true) (by omega) (by omega) (.inl rfl); simp [Hid] at hj ⊢; simp [hj, this], by trivial⟩
        case measure => simp [intOf]
    · have hk0 : decide (0 ≤ k) = true := by simp; omega
      have hk1 : decide (k ≤ 7) = true := by simp; omega
      have E := hide (And.intro hk0 hk1)
      clear hk0 hk1
      have hu := u64_zero v
      cases V with
      | true =>
        go_wp2
        go_ret
        obtain ⟨q1, q2, q3⟩ := hj.out
        exact ⟨by rw [HR.out, E.out.1, E.out.2, q1 (by omega), q2 (by omega), q3 (by omega)]; rfl, hB⟩
      | false =>
        go_wp2
        go_ret
        obtain ⟨q1, q2, q3⟩ := hj.out
        exact ⟨by rw [HR.out, E.out.1, E.out.2, q1 (by omega), q2 (by omega), q3 (by omega)]; simp [u64_zero], hB⟩
end Go.Proofs.YtcamcnahkdiefaaGreat

/- Chapter 1, the document's answers: sums, negatives, products of words. -/
namespace Go.Proofs.YtcamcnahkdiefaaGreat
set_option linter.unusedVariables false
set_option linter.unusedSimpArgs false
open Go.RowKit

def cellsD (D : List Nat) : Array Value := (D.map fun (x : Nat) => Value.int .i64 (x : Int)).toArray
theorem cellsD_get {D : List Nat} {k x : Nat} (h : D[k]? = some x) : (cellsD D)[k]? = some (.int .i64 (x : Int)) := by simp [cellsD, h]
theorem cellsD_set (D : List Nat) (k x : Nat) : (cellsD D).setIfInBounds k (.int .i64 (x : Int)) = cellsD (D.set k x) := by
  unfold cellsD
  simp [List.map_set]
theorem list8 (D : List Nat) (h : D.length = 8) : ∃ x0 x1 x2 x3 x4 x5 x6 x7, D = [x0, x1, x2, x3, x4, x5, x6, x7] := by
  match D, h with
  | [x0, x1, x2, x3, x4, x5, x6, x7], _ => exact ⟨x0, x1, x2, x3, x4, x5, x6, x7, rfl⟩
def Dig (w : World) (g : Nat) (D : List Nat) : Prop := Blk w g 213 (cellsD D) ∧ D.length = 8
theorem Dig.c8 {w : World} {g : Nat} {x0 x1 x2 x3 x4 x5 x6 x7 : Nat} (h : Dig w g [x0, x1, x2, x3, x4, x5, x6, x7]) :
    w.cell? ⟨g, 0, none⟩ = some (.int .i64 (x0 : Int)) ∧ w.cell? ⟨g, 1, none⟩ = some (.int .i64 (x1 : Int)) ∧ w.cell? ⟨g, 2, none⟩ = some (.int .i64 (x2 : Int)) ∧ w.cell? ⟨g, 3, none⟩ = some (.int .i64 (x3 : Int)) ∧
    w.cell? ⟨g, 4, none⟩ = some (.int .i64 (x4 : Int)) ∧ w.cell? ⟨g, 5, none⟩ = some (.int .i64 (x5 : Int)) ∧ w.cell? ⟨g, 6, none⟩ = some (.int .i64 (x6 : Int)) ∧ w.cell? ⟨g, 7, none⟩ = some (.int .i64 (x7 : Int)) :=
  ⟨h.1.cell 0, h.1.cell 1, h.1.cell 2, h.1.cell 3, h.1.cell 4, h.1.cell 5, h.1.cell 6, h.1.cell 7⟩
theorem Dig.at_ {w : World} {g : Nat} {D : List Nat} (h : Dig w g D) {k : Nat} (hk : k < 8) : ∃ x, Hid (D[k]? = some x) ∧ w.cell? ⟨g, k, none⟩ = some (.int .i64 (x : Int)) ∧ w.frozen? ⟨g, k, none⟩ = false := by
  have hl : k < D.length := by rw [h.2]; exact hk
  exact ⟨D[k], List.getElem?_eq_getElem hl, h.1.cell_ (cellsD_get (List.getElem?_eq_getElem hl)), h.1.frozen k⟩
theorem Dig.set_ {w : World} {g : Nat} {D : List Nat} (h : Dig w g D) (k x : Nat) : Dig (w.setCell ⟨g, k, none⟩ (.int .i64 (x : Int))) g (D.set k x) :=
  ⟨by rw [← cellsD_set]; exact h.1.set_ k _, by simp [h.2]⟩
theorem Dig.far {w : World} {g : Nat} {D : List Nat} (h : Dig w g D) {p : Addr} (hp : g ≠ p.block) (u : Value) : Dig (w.setCell p u) g D := ⟨h.1.far hp u, h.2⟩
theorem Dig.belowN {w w' : World} {g : Nat} {D : List Nat} (h : Dig w g D) (hb : Below w.heap.size w w') : Dig w' g D := ⟨h.1.belowN hb, h.2⟩
theorem Dig.drewN {w : World} {g : Nat} {D : List Nat} (h : Dig w g D) (n : Nat) : Dig (w.drewN n) g D := h
theorem below_new1 (w : World) (o : Obj) : Below w.heap.size w (w.alloc o) := Below.alloc (Below.refl _ _) (Nat.le_refl _) _
def aggD (D : List Nat) : Value := .agg (cellsD D)

theorem Dig.zero (w : World) : Dig (w.alloc (.cells #[.int .i64 0, .int .i64 0, .int .i64 0, .int .i64 0, .int .i64 0, .int .i64 0, .int .i64 0, .int .i64 0] 213)) w.heap.size [0, 0, 0, 0, 0, 0, 0, 0] := ⟨Blk.new w _ _, rfl⟩
theorem digN_step (V k r : Nat) (D : List Nat) (hk : k < 8) (hl : D.length = 8) (h : digN V 8 = D.take k ++ digN r (8 - k)) : digN V 8 = (D.set k (r % 256)).take (k + 1) ++ digN (r / 256) (8 - (k + 1)) := by
  rw [h, show 8 - k = (8 - (k + 1)) + 1 by omega, digN]
  rw [List.take_add_one, List.getElem?_set_self (by omega), List.take_set_of_le (Nat.le_refl _)]
  simp

set_option maxRecDepth 100000 in
set_option maxHeartbeats 800000 in
theorem digits_calls (v : UInt64) (w : World) : Calls Tryz.prog 136 #[.int .u64 (v.toNat : Int)] w fun e w' => e = .returned (aggD (digN v.toNat 8)) ∧ Below w.heap.size w w' := by
  have hvl := v.toNat_lt
  generalize v.toNat = V at *
  have hD := Dig.zero (w.alloc (.cells #[.int .i64 0, .int .i64 0, .int .i64 0, .int .i64 0, .int .i64 0, .int .i64 0, .int .i64 0, .int .i64 0] 213))
  have hR := Blk.new w 213 #[.int .i64 0, .int .i64 0, .int .i64 0, .int .i64 0, .int .i64 0, .int .i64 0, .int .i64 0, .int .i64 0]
  have hR := hR.alloc (.cells #[.int .i64 0, .int .i64 0, .int .i64 0, .int .i64 0, .int .i64 0, .int .i64 0, .int .i64 0, .int .i64 0] 213)
  simp only [World.size_alloc] at hD
  have hB := (below_new1 w (.cells #[.int .i64 0, .int .i64 0, .int .i64 0, .int .i64 0, .int .i64 0, .int .i64 0, .int .i64 0, .int .i64 0] 213)).alloc (by simp) (.cells #[.int .i64 0, .int .i64 0, .int .i64 0, .int .i64 0, .int .i64 0, .int .i64 0, .int .i64 0, .int .i64 0] 213)
  go_enter Tryz.func136, Tryz.ntmps136
  go_wp2
  go_loopw [0, 4] (fun tv iv wr => ∃ (k r : Nat) (D : List Nat), iv = .int .i64 (k : Int) ∧ k ≤ 8 ∧ tv = .int .u64 (r : Int) ∧ r < 18446744073709551616 ∧ Hid (digN V 8 = D.take k ++ digN r (8 - k)) ∧ Dig wr (w.heap.size + 1) D ∧
      Blk wr w.heap.size 213 #[.int .i64 0, .int .i64 0, .int .i64 0, .int .i64 0, .int .i64 0, .int .i64 0, .int .i64 0, .int .i64 0] ∧ Below w.heap.size w wr) (fun _ iv _ => 8 - (intOf iv).toNat)
  case atStart => exact ⟨0, V, _, rfl, by omega, rfl, hvl, rfl, hD, hR, hB⟩
  case round =>
    obtain ⟨k, r, D, rfl, hk, rfl, hr, hds, hD, hR, hB⟩ := hrel
    have hz := hB.size
    have hl1 := hD.1.lt
    by_cases hlt : k < 8
    · obtain ⟨x, hx, c0, c1⟩ := hD.at_ hlt
      have HN := hide (digN_step V k r D hlt hD.2 hds.out)
      have hm : ((r : Int) % 256) = ((r % 256 : Nat) : Int) := by omega
      have hq : ((r : Int) / 256) = ((r / 256 : Nat) : Int) := by omega
      have HM := hide hm
      have HQ := hide hq
      clear hx hm hq
      go_wp2
      go_roundw
      case rel => exact ⟨k + 1, r / 256, D.set k (r % 256), by go_num, by omega, by rw [HQ.out], by omega, HN.out, by rw [HM.out]; exact hD.set_ k (r % 256), hR.far (by simp) _, hB.setCell (by simp) _⟩
      case measure => simp [intOf]; omega
    · obtain rfl : k = 8 := by omega
      have hd := hds.out
      rw [List.take_of_length_le (by rw [hD.2]; omega)] at hd
      simp only [digN, Nat.sub_self, List.append_nil] at hd
      obtain ⟨x0, x1, x2, x3, x4, x5, x6, x7, rfl⟩ := list8 D hD.2
      obtain ⟨c0, c1, c2, c3, c4, c5, c6, c7⟩ := hD.c8
      have HD := hide hd
      obtain ⟨e0, e1, e2, e3, e4, e5, e6, e7⟩ := Dig.c8 (g := w.heap.size) (w := wr) (x0 := 0) (x1 := 0) (x2 := 0) (x3 := 0) (x4 := 0) (x5 := 0) (x6 := 0) (x7 := 0) ⟨hR, rfl⟩
      have f0 := hR.frozen 0
      have f1 := hR.frozen 1
      have f2 := hR.frozen 2
      have f3 := hR.frozen 3
      have f4 := hR.frozen 4
      have f5 := hR.frozen 5
      have f6 := hR.frozen 6
      have f7 := hR.frozen 7
      clear hd
      go_wp2
      have q0 := Dig.set_ (g := w.heap.size) (w := wr) (D := [0, 0, 0, 0, 0, 0, 0, 0]) ⟨hR, rfl⟩ 0 x0
      have p0 := q0.1.cell_ (i := 0) (v := .int .i64 (x0 : Int)) rfl
      have q1 := q0.set_ 1 x1
      have p1 := q1.1.cell_ (i := 1) (v := .int .i64 (x1 : Int)) rfl
      have q2 := q1.set_ 2 x2
      have p2 := q2.1.cell_ (i := 2) (v := .int .i64 (x2 : Int)) rfl
      have q3 := q2.set_ 3 x3
      have p3 := q3.1.cell_ (i := 3) (v := .int .i64 (x3 : Int)) rfl
      have q4 := q3.set_ 4 x4
      have p4 := q4.1.cell_ (i := 4) (v := .int .i64 (x4 : Int)) rfl
      have q5 := q4.set_ 5 x5
      have p5 := q5.1.cell_ (i := 5) (v := .int .i64 (x5 : Int)) rfl
      have q6 := q5.set_ 6 x6
      have p6 := q6.1.cell_ (i := 6) (v := .int .i64 (x6 : Int)) rfl
      have q7 := q6.set_ 7 x7
      have p7 := q7.1.cell_ (i := 7) (v := .int .i64 (x7 : Int)) rfl
      refine bodyPost_ret (v := aggD [x0, x1, x2, x3, x4, x5, x6, x7]) (by simp [results, Tryz.results136, go_sem, aggD, cellsD, p0, p1, p2, p3, p4, p5, p6, p7]) rfl ⟨?_, ?_⟩
      · rw [← HD.out]; rfl
      · exact (((((((hB.setCell (by simp) _).setCell (by simp) _).setCell (by simp) _).setCell (by simp) _).setCell (by simp) _).setCell (by simp) _).setCell (by simp) _).setCell (by simp) _

set_option maxRecDepth 100000 in
set_option maxHeartbeats 800000 in
theorem number_calls (D : List Nat) (hD : D.length = 8) (hb : ∀ x ∈ D, x ≤ 100000000) (w : World) : Calls Tryz.prog 137 #[aggD D] w fun e w' => e = .returned (.int .u64 ((numU D).toNat : Int)) ∧ Below w.heap.size w w' := by
  have hX : Dig (w.alloc (.cells (cellsD D) 213)) w.heap.size D := ⟨Blk.new w _ _, hD⟩
  have hB0 := below_new1 w (.cells (cellsD D) 213)
  have HB := hide hb
  unfold aggD
  obtain ⟨C, hC⟩ : ∃ C, C = cellsD D := ⟨_, rfl⟩
  have hlit : ∃ x0 x1 x2 x3 x4 x5 x6 x7 : Value, C = #[x0, x1, x2, x3, x4, x5, x6, x7] := by
    obtain ⟨x0, x1, x2, x3, x4, x5, x6, x7, rfl⟩ := list8 D hD
    exact ⟨_, _, _, _, _, _, _, _, hC⟩
  rw [← hC] at hB0 ⊢
  unfold Dig at hX
  have hX' := hX
  rw [← hC] at hX'
  obtain ⟨x0, x1, x2, x3, x4, x5, x6, x7, rfl⟩ := hlit
  have hX2 : Dig (w.alloc (.cells #[x0, x1, x2, x3, x4, x5, x6, x7] 213)) w.heap.size D := by rw [hC]; exact hX
  clear hX hX' hC hb
  go_enter Tryz.func137, Tryz.ntmps137
  go_wp2
  go_loopw [3, 4, 5, 6] (fun av pv cv iv wr => ∃ (k c : Nat) (A P : UInt64), iv = .int .i64 (k : Int) ∧ k ≤ 8 ∧ cv = .int .i64 (c : Int) ∧ c ≤ 100000000 ∧ av = .int .u64 (A.toNat : Int) ∧ pv = .int .u64 (P.toNat : Int) ∧ Hid (P = 256 ^ k) ∧ Hid (A + P * (UInt64.ofNat c + numU (D.drop k)) = numU D) ∧ wr = w.alloc (.cells #[x0, x1, x2, x3, x4, x5, x6, x7] 213)) (fun _ _ _ iv _ => 8 - (intOf iv).toNat)
  case atStart => exact ⟨0, 0, 0, 1, rfl, by omega, rfl, by omega, rfl, rfl, by show _ = _; simp, by show _ = _; simp, rfl⟩
  case round =>
    obtain ⟨k, c, A, P, rfl, hk, rfl, hc, rfl, rfl, hP, hA, rfl⟩ := hrel
    by_cases hlt : k < 8
    · obtain ⟨x, hx, c0, c1⟩ := hX2.at_ hlt
      have hxb := HB.out x (List.mem_of_getElem? hx.out)
      obtain ⟨s, hs⟩ : ∃ s : Nat, s = c + x := ⟨_, rfl⟩
      have hsi : (c : Int) + (x : Int) = (s : Int) := by omega
      have hs5 : s ≤ 200000000 := by omega
      have e1 : (s : Int) % 256 = ((s % 256 : Nat) : Int) := by omega
      have e2 : (s : Int) / 256 = ((s / 256 : Nat) : Int) := by omega
      have HNX : Hid (A + UInt64.ofNat (s % 256) * P + P * 256 * (UInt64.ofNat (s / 256) + numU (D.drop (k + 1))) = numU D) := by
        show _ = _
        rw [hs, num_step, ← hA.out, List.drop_eq_getElem?_toList_append (l := D) (i := k), hx.out]
        rfl
      have HP2 : Hid (P * 256 = 256 ^ (k + 1)) := by show _ = _; rw [hP.out, UInt64.pow_succ]
      have hlow : s % 256 < 256 := Nat.mod_lt _ (by omega)
      have hhi : s / 256 ≤ 100000000 := by omega
      have hmt : (UInt64.ofNat (s % 256)).toNat = s % 256 := by rw [UInt64.toNat_ofNat']; omega
      have HMT := hide hmt
      have HSI := hide hsi
      have HE1 := hide e1
      have HE2 := hide e2
      clear hx hs e1 e2 hmt
      generalize hlo : s % 256 = lo at *
      generalize hhi' : s / 256 = hi at *
      clear hlo hhi'
      go_wp2
      go_roundw
      case rel =>
        refine ⟨k + 1, hi, A + UInt64.ofNat lo * P, P * 256, by go_num, by omega, by rw [HE2.out], hhi, ?_, ?_, HP2.out, HNX.out, by trivial⟩
        · rw [HE1.out, show ((lo : Nat) : Int) = ((UInt64.ofNat lo).toNat : Int) by rw [HMT.out], u64_mul, u64_add]
        · rw [show (256 : Int) = ((256 : UInt64).toNat : Int) by rfl, u64_mul]
      case measure => simp [intOf]; omega
    · obtain rfl : k = 8 := by omega
      have hz : A = numU D := by
        have h1 := hA.out
        rw [hP.out, p256] at h1
        rw [← h1]; simp
      have HZ := hide hz
      clear hz
      go_wp2
      go_ret
      exact ⟨by rw [← HZ.out] <;> rfl, hB0⟩

theorem dig_lit (v : UInt64) : ∃ x0 x1 x2 x3 x4 x5 x6 x7 : Nat, digN v.toNat 8 = [x0, x1, x2, x3, x4, x5, x6, x7] ∧ x0 < 256 ∧ x1 < 256 ∧ x2 < 256 ∧ x3 < 256 ∧ x4 < 256 ∧ x5 < 256 ∧ x6 < 256 ∧ x7 < 256 ∧ numU [x0, x1, x2, x3, x4, x5, x6, x7] = v := by
  obtain ⟨x0, x1, x2, x3, x4, x5, x6, x7, e⟩ := list8 (digN v.toNat 8) (digN_length _ _)
  have h := digN_lt v.toNat 8
  have h2 := numU_dig8 v
  rw [e] at h h2
  exact ⟨x0, x1, x2, x3, x4, x5, x6, x7, e, h _ (by simp), h _ (by simp), h _ (by simp), h _ (by simp), h _ (by simp), h _ (by simp), h _ (by simp), h _ (by simp), h2⟩
theorem digits_lit (v : UInt64) (w : World) {x0 x1 x2 x3 x4 x5 x6 x7 : Nat} (e : digN v.toNat 8 = [x0, x1, x2, x3, x4, x5, x6, x7]) :
    Calls Tryz.prog 136 #[.int .u64 (v.toNat : Int)] w fun e w' => e = .returned (.agg #[.int .i64 (x0 : Int), .int .i64 (x1 : Int), .int .i64 (x2 : Int), .int .i64 (x3 : Int), .int .i64 (x4 : Int), .int .i64 (x5 : Int), .int .i64 (x6 : Int), .int .i64 (x7 : Int)]) ∧ Below w.heap.size w w' := by
  have := digits_calls v w
  rw [e] at this
  exact this
theorem number_lit (x0 x1 x2 x3 x4 x5 x6 x7 : Nat) (hb : ∀ x ∈ [x0, x1, x2, x3, x4, x5, x6, x7], x ≤ 100000000) (w : World) :
    Calls Tryz.prog 137 #[.agg #[.int .i64 (x0 : Int), .int .i64 (x1 : Int), .int .i64 (x2 : Int), .int .i64 (x3 : Int), .int .i64 (x4 : Int), .int .i64 (x5 : Int), .int .i64 (x6 : Int), .int .i64 (x7 : Int)]] w fun e w' => e = .returned (.int .u64 ((numU [x0, x1, x2, x3, x4, x5, x6, x7]).toNat : Int)) ∧ Below w.heap.size w w' :=
  number_calls [x0, x1, x2, x3, x4, x5, x6, x7] rfl hb w

theorem zip_step (X Y : List Nat) (k x y : Nat) (hx : X[k]? = some x) (hy : Y[k]? = some y) (hl : X.length = Y.length) (D : List Nat) (hD : D = (List.zipWith (· + ·) X Y).take k ++ X.drop k) :
    D[k]? = some x ∧ D.set k (x + y) = (List.zipWith (· + ·) X Y).take (k + 1) ++ X.drop (k + 1) := by
  obtain ⟨hk, e⟩ := List.getElem?_eq_some_iff.1 hx
  obtain ⟨hk2, e2⟩ := List.getElem?_eq_some_iff.1 hy
  have hz : (List.zipWith (· + ·) X Y)[k]? = some (x + y) := by rw [List.getElem?_zipWith, hx, hy]
  have hzl : ((List.zipWith (· + ·) X Y).take k).length = k := by simp; omega
  subst hD
  constructor
  · rw [List.getElem?_append_right (by omega), hzl, Nat.sub_self, List.getElem?_drop, Nat.add_zero, hx]
  · rw [List.set_append_right _ _ (by omega), hzl, Nat.sub_self, List.drop_eq_getElem_cons hk, List.set_cons_zero, List.take_add_one, hz]
    simp
set_option maxRecDepth 100000 in
set_option maxHeartbeats 1600000 in
theorem Plus_calls (a b : UInt64) (w : World) : Calls Tryz.prog 167 #[.int .u64 (a.toNat : Int), .int .u64 (b.toNat : Int)] w fun e w' => e = .returned (.int .u64 ((a + b).toNat : Int)) ∧ Below w.heap.size w w' := by
  obtain ⟨x0, x1, x2, x3, x4, x5, x6, x7, ex, hx0, hx1, hx2, hx3, hx4, hx5, hx6, hx7, hxv⟩ := dig_lit a
  obtain ⟨y0, y1, y2, y3, y4, y5, y6, y7, ey, hy0, hy1, hy2, hy3, hy4, hy5, hy6, hy7, hyv⟩ := dig_lit b
  have HX := hide (fun w => digits_lit a w ex)
  have HY := hide (fun w => digits_lit b w ey)
  have HXB : Hid (∀ x ∈ [x0, x1, x2, x3, x4, x5, x6, x7], x < 256) := by show ∀ x ∈ _, _; rw [← ex]; exact digN_lt _ _
  have HYB : Hid (∀ x ∈ [y0, y1, y2, y3, y4, y5, y6, y7], x < 256) := by show ∀ x ∈ _, _; rw [← ey]; exact digN_lt _ _
  have HXV := hide hxv
  have HYV := hide hyv
  generalize a.toNat = an at *
  generalize b.toNat = bn at *
  clear ex ey hxv hyv hx0 hx1 hx2 hx3 hx4 hx5 hx6 hx7 hy0 hy1 hy2 hy3 hy4 hy5 hy6 hy7
  go_enter Tryz.func167, Tryz.ntmps167
  go_wp2_with (go_at_call 136; first
    | ((with_reducible refine (HX.out _).mono ?_); clear HX; rintro e w1 ⟨rfl, hb1⟩)
    | ((with_reducible refine (HY.out _).mono ?_); rintro e w2 ⟨rfl, hb2⟩))
  have hz1 := hb1.size
  have hz2 := hb2.size
  simp only [World.size_alloc] at hz2
  have hB1 := hb1.alloc hz1 (.cells #[.int .i64 (x0 : Int), .int .i64 (x1 : Int), .int .i64 (x2 : Int), .int .i64 (x3 : Int), .int .i64 (x4 : Int), .int .i64 (x5 : Int), .int .i64 (x6 : Int), .int .i64 (x7 : Int)] 213)
  have hB2 := hB1.trans (hb2.mono (by simp; omega))
  have hB3 := hB2.alloc (by omega) (.cells #[.int .i64 (y0 : Int), .int .i64 (y1 : Int), .int .i64 (y2 : Int), .int .i64 (y3 : Int), .int .i64 (y4 : Int), .int .i64 (y5 : Int), .int .i64 (y6 : Int), .int .i64 (y7 : Int)] 213)
  have hDX : Dig (w2.alloc (.cells #[.int .i64 (y0 : Int), .int .i64 (y1 : Int), .int .i64 (y2 : Int), .int .i64 (y3 : Int), .int .i64 (y4 : Int), .int .i64 (y5 : Int), .int .i64 (y6 : Int), .int .i64 (y7 : Int)] 213)) w1.heap.size [x0, x1, x2, x3, x4, x5, x6, x7] := ⟨((Blk.new w1 _ _).belowN hb2).alloc _, rfl⟩
  have hDY : Dig (w2.alloc (.cells #[.int .i64 (y0 : Int), .int .i64 (y1 : Int), .int .i64 (y2 : Int), .int .i64 (y3 : Int), .int .i64 (y4 : Int), .int .i64 (y5 : Int), .int .i64 (y6 : Int), .int .i64 (y7 : Int)] 213)) w2.heap.size [y0, y1, y2, y3, y4, y5, y6, y7] := ⟨Blk.new w2 _ _, rfl⟩
  have HXL : Hid ([x0, x1, x2, x3, x4, x5, x6, x7].length = 8) := rfl
  have HYL : Hid ([y0, y1, y2, y3, y4, y5, y6, y7].length = 8) := rfl
  have HV : Hid (numU (List.zipWith (· + ·) [x0, x1, x2, x3, x4, x5, x6, x7] [y0, y1, y2, y3, y4, y5, y6, y7]) = a + b) := by show _ = _; rw [numU_add [x0, x1, x2, x3, x4, x5, x6, x7] [y0, y1, y2, y3, y4, y5, y6, y7] (by rfl), HXV.out, HYV.out]
  clear hb1 hb2 hB1 hB2 HY
  obtain ⟨X, hX⟩ : ∃ X, X = [x0, x1, x2, x3, x4, x5, x6, x7] := ⟨_, rfl⟩
  obtain ⟨Y, hY⟩ : ∃ Y, Y = [y0, y1, y2, y3, y4, y5, y6, y7] := ⟨_, rfl⟩
  rw [← hX] at hDX HXB HXL HV
  rw [← hY] at hDY HYB HYL HV
  have hgg : w1.heap.size < w2.heap.size := by omega
  have hgw : w.heap.size ≤ w1.heap.size := by omega
  clear hX hY hz1 hz2
  generalize w1.heap.size = g1 at *
  generalize w2.heap.size = g2 at *
  go_loopw [7] (fun iv wr => ∃ (k : Nat) (D : List Nat), iv = .int .i64 (k : Int) ∧ k ≤ 8 ∧ Dig wr g1 D ∧ Hid (D = (List.zipWith (· + ·) X Y).take k ++ X.drop k) ∧ Dig wr g2 Y ∧ Below w.heap.size w wr) (fun iv _ => 8 - (intOf iv).toNat)
  case atStart => exact ⟨0, X, rfl, by omega, hDX, by show _ = _; simp, hDY, hB3⟩
  case round =>
    obtain ⟨k, D, rfl, hk, hD, hDk, hDY, hB⟩ := hrel
    have hz := hB.size
    by_cases hlt : k < 8
    · obtain ⟨y, hy, c0, c1⟩ := hDY.at_ hlt
      obtain ⟨x, hx⟩ : ∃ x, X[k]? = some x := ⟨X[k]'(by rw [HXL.out]; exact hlt), List.getElem?_eq_getElem _⟩
      obtain ⟨z1, z2⟩ := zip_step X Y k x y hx hy.out (by rw [HXL.out, HYL.out]) D hDk.out
      have c2 := hD.1.cell_ (cellsD_get z1)
      have c3 := hD.1.frozen k
      have hxb := HXB.out x (List.mem_of_getElem? hx)
      have hyb := HYB.out y (List.mem_of_getElem? hy.out)
      have HZ2 := hide z2
      have hl1 := hD.1.lt
      clear hx hy z1 z2
      go_wp2
      go_still_tail 9, (by kernel_rfl)
      change wpList _ _ _ _ _ wr.drew
      go_wp2
      go_roundw
      case rel =>
        have hs := hD.set_ k (x + y)
        rw [Int.natCast_add] at hs
        exact ⟨k + 1, D.set k (x + y), by go_num, by omega, hs, HZ2.out, hDY.far (by simp; omega) _, (hB.setCell (by simpa using hgw) _).drew⟩
      case measure => simp [intOf]; omega
    · obtain rfl : k = 8 := by omega
      have hd := hDk.out
      rw [List.take_of_length_le (by have := HXL.out; have := HYL.out; simp; omega), List.drop_eq_nil_of_le (by rw [HXL.out]; omega), List.append_nil] at hd
      have hbd : ∀ x ∈ D, x ≤ 100000000 := by
        rw [hd]
        intro z hz
        rw [List.mem_iff_getElem?] at hz
        obtain ⟨i, hi⟩ := hz
        rw [List.getElem?_zipWith] at hi
        cases h1 : X[i]? with
        | none => rw [h1] at hi; cases hi
        | some u =>
          cases h2 : Y[i]? with
          | none => rw [h1, h2] at hi; cases hi
          | some v =>
            rw [h1, h2] at hi
            have := HXB.out u (List.mem_of_getElem? h1)
            have := HYB.out v (List.mem_of_getElem? h2)
            injection hi with hi
            omega
      have hv : numU D = a + b := by rw [hd]; exact HV.out
      obtain ⟨z0, z1, z2, z3, z4, z5, z6, z7, rfl⟩ := list8 D hD.2
      obtain ⟨c0, c1, c2, c3, c4, c5, c6, c7⟩ := hD.c8
      have HN := hide (fun w => number_lit z0 z1 z2 z3 z4 z5 z6 z7 hbd w)
      rw [hv] at HN
      clear hd hbd hv
      go_wp2_with (go_at_call 137; ((with_reducible refine (HN.out _).mono ?_); rintro e w3 ⟨rfl, hb3⟩))
      go_ret
      exact ⟨rfl, hB.trans (hb3.mono hz)⟩

theorem map_step (X : List Nat) (k x : Nat) (hx : X[k]? = some x) (D : List Nat) (hD : D = (X.map (255 - ·)).take k ++ X.drop k) :
    D[k]? = some x ∧ D.set k (255 - x) = (X.map (255 - ·)).take (k + 1) ++ X.drop (k + 1) := by
  obtain ⟨hk, e⟩ := List.getElem?_eq_some_iff.1 hx
  have hz : (X.map (255 - ·))[k]? = some (255 - x) := by rw [List.getElem?_map, hx]; rfl
  have hzl : ((X.map (255 - ·)).take k).length = k := by simp; omega
  subst hD
  constructor
  · rw [List.getElem?_append_right (by omega), hzl, Nat.sub_self, List.getElem?_drop, Nat.add_zero, hx]
  · rw [List.set_append_right _ _ (by omega), hzl, Nat.sub_self, List.drop_eq_getElem_cons hk, List.set_cons_zero, List.take_add_one, hz]
    simp
set_option maxRecDepth 100000 in
set_option maxHeartbeats 1600000 in
theorem Neg_calls (a : UInt64) (w : World) : Calls Tryz.prog 164 #[.int .u64 (a.toNat : Int)] w fun e w' => e = .returned (.int .u64 ((0 - a).toNat : Int)) ∧ Below w.heap.size w w' := by
  obtain ⟨x0, x1, x2, x3, x4, x5, x6, x7, ex, hx0, hx1, hx2, hx3, hx4, hx5, hx6, hx7, hxv⟩ := dig_lit a
  have HX := hide (fun w => digits_lit a w ex)
  have HXB : Hid (∀ x ∈ [x0, x1, x2, x3, x4, x5, x6, x7], x < 256) := by show ∀ x ∈ _, _; rw [← ex]; exact digN_lt _ _
  have HXV := hide hxv
  generalize a.toNat = an at *
  clear ex hxv hx0 hx1 hx2 hx3 hx4 hx5 hx6 hx7
  go_enter Tryz.func164, Tryz.ntmps164
  go_wp2_with (go_at_call 136; ((with_reducible refine (HX.out _).mono ?_); rintro e w1 ⟨rfl, hb1⟩))
  have hz1 := hb1.size
  have hB3 := hb1.alloc hz1 (.cells #[.int .i64 (x0 : Int), .int .i64 (x1 : Int), .int .i64 (x2 : Int), .int .i64 (x3 : Int), .int .i64 (x4 : Int), .int .i64 (x5 : Int), .int .i64 (x6 : Int), .int .i64 (x7 : Int)] 213)
  have hDX : Dig (w1.alloc (.cells #[.int .i64 (x0 : Int), .int .i64 (x1 : Int), .int .i64 (x2 : Int), .int .i64 (x3 : Int), .int .i64 (x4 : Int), .int .i64 (x5 : Int), .int .i64 (x6 : Int), .int .i64 (x7 : Int)] 213)) w1.heap.size [x0, x1, x2, x3, x4, x5, x6, x7] := ⟨Blk.new w1 _ _, rfl⟩
  have HXL : Hid ([x0, x1, x2, x3, x4, x5, x6, x7].length = 8) := rfl
  have hnv := numU_neg [x0, x1, x2, x3, x4, x5, x6, x7] (fun y hy => by have := HXB.out y hy; omega)
  rw [HXV.out, HXL.out, p256] at hnv
  have HV : Hid (numU ([x0, x1, x2, x3, x4, x5, x6, x7].map (255 - ·)) + 1 = 0 - a) := by show _ = _; generalize numU ([x0, x1, x2, x3, x4, x5, x6, x7].map (255 - ·)) = Q at *; grind
  clear hb1 hnv
  obtain ⟨X, hX⟩ : ∃ X, X = [x0, x1, x2, x3, x4, x5, x6, x7] := ⟨_, rfl⟩
  rw [← hX] at hDX HXB HXL HV
  clear hX
  generalize w1.heap.size = g1 at *
  go_loopw [4] (fun iv wr => ∃ (k : Nat) (D : List Nat), iv = .int .i64 (k : Int) ∧ k ≤ 8 ∧ Dig wr g1 D ∧ Hid (D = (X.map (255 - ·)).take k ++ X.drop k) ∧ Below w.heap.size w wr) (fun iv _ => 8 - (intOf iv).toNat)
  case atStart => exact ⟨0, X, rfl, by omega, hDX, by show _ = _; simp, hB3⟩
  case round =>
    obtain ⟨k, D, rfl, hk, hD, hDk, hB⟩ := hrel
    have hz := hB.size
    by_cases hlt : k < 8
    · obtain ⟨x, hx⟩ : ∃ x, X[k]? = some x := ⟨X[k]'(by rw [HXL.out]; exact hlt), List.getElem?_eq_getElem _⟩
      obtain ⟨z1, z2⟩ := map_step X k x hx D hDk.out
      have c2 := hD.1.cell_ (cellsD_get z1)
      have c3 := hD.1.frozen k
      have hxb := HXB.out x (List.mem_of_getElem? hx)
      have HZ2 := hide z2
      have hl1 := hD.1.lt
      have HE : Hid (255 - (x : Int) = ((255 - x : Nat) : Int)) := by show _ = _; omega
      clear hx z1 z2
      go_wp2
      go_roundw
      case rel =>
        have hs := hD.set_ k (255 - x)
        rw [← HE.out] at hs
        exact ⟨k + 1, D.set k (255 - x), by go_num, by omega, hs, HZ2.out, hB.setCell (by simpa using hz1) _⟩
      case measure => simp [intOf]; omega
    · obtain rfl : k = 8 := by omega
      have hd := hDk.out
      rw [List.take_of_length_le (by have := HXL.out; simp; omega), List.drop_eq_nil_of_le (by rw [HXL.out]; omega), List.append_nil] at hd
      have hbd : ∀ x ∈ D, x ≤ 255 := by
        rw [hd]
        intro z hz
        obtain ⟨u, hu, rfl⟩ := List.mem_map.1 hz
        omega
      have hv : numU D + 1 = 0 - a := by rw [hd]; exact HV.out
      obtain ⟨z0, z1, z2, z3, z4, z5, z6, z7, rfl⟩ := list8 D hD.2
      have hset := numU_set [z0, z1, z2, z3, z4, z5, z6, z7] 0 z0 1 rfl
      have hv2 : numU [z0 + 1, z1, z2, z3, z4, z5, z6, z7] = 0 - a := by rw [← hv]; simpa using hset
      have hD2 := hD.set_ 0 (z0 + 1)
      simp only [List.set_cons_zero, Int.natCast_add, Int.natCast_one] at hD2
      have hz0 := hbd z0 (by simp)
      obtain ⟨c0, c1, c2, c3, c4, c5, c6, c7⟩ := hD.c8
      obtain ⟨e0, e1, e2, e3, e4, e5, e6, e7⟩ := hD2.c8
      have f0 := hD.1.frozen 0
      have HN := hide (fun w => number_lit (z0 + 1) z1 z2 z3 z4 z5 z6 z7 (fun x hx => by
        simp only [List.mem_cons, List.not_mem_nil, or_false] at hx
        rcases hx with rfl | hx
        · omega
        · have := hbd x (by simp only [List.mem_cons, List.not_mem_nil, or_false]; exact .inr hx); omega) w)
      rw [hv2, Int.natCast_add, Int.natCast_one] at HN
      clear hd hbd hv hv2 hset hD2
      go_wp2_with (go_at_call 137; ((with_reducible refine (HN.out _).mono ?_); rintro e w3 ⟨rfl, hb3⟩))
      go_ret
      exact ⟨rfl, (hB.setCell (by simpa using hz1) _).trans (hb3.mono (by simpa using hz))⟩

set_option maxRecDepth 100000 in
set_option maxHeartbeats 3200000 in
theorem Times_calls (a b : UInt64) (w : World) : Calls Tryz.prog 94 #[.int .u64 (a.toNat : Int), .int .u64 (b.toNat : Int)] w fun e w' => e = .returned (.int .u64 ((a * b).toNat : Int)) ∧ Below w.heap.size w w' := by
  obtain ⟨x0, x1, x2, x3, x4, x5, x6, x7, ex, hx0, hx1, hx2, hx3, hx4, hx5, hx6, hx7, hxv⟩ := dig_lit a
  obtain ⟨y0, y1, y2, y3, y4, y5, y6, y7, ey, hy0, hy1, hy2, hy3, hy4, hy5, hy6, hy7, hyv⟩ := dig_lit b
  have HX := hide (fun w => digits_lit a w ex)
  have HY := hide (fun w => digits_lit b w ey)
  have HXB : Hid (∀ x ∈ [x0, x1, x2, x3, x4, x5, x6, x7], x < 256) := by show ∀ x ∈ _, _; rw [← ex]; exact digN_lt _ _
  have HYB : Hid (∀ x ∈ [y0, y1, y2, y3, y4, y5, y6, y7], x < 256) := by show ∀ x ∈ _, _; rw [← ey]; exact digN_lt _ _
  have HXV := hide hxv
  have HYV := hide hyv
  generalize a.toNat = an at *
  generalize b.toNat = bn at *
  clear ex ey hxv hyv hx0 hx1 hx2 hx3 hx4 hx5 hx6 hx7 hy0 hy1 hy2 hy3 hy4 hy5 hy6 hy7
  go_enter Tryz.func94, Tryz.ntmps94
  go_wp2_with (go_at_call 136; first
    | ((with_reducible refine (HX.out _).mono ?_); clear HX; rintro e w1 ⟨rfl, hb1⟩)
    | ((with_reducible refine (HY.out _).mono ?_); rintro e w2 ⟨rfl, hb2⟩))
  have hz1 := hb1.size
  have hz2 := hb2.size
  simp only [World.size_alloc] at hz2
  have hB1 := hb1.alloc hz1 (.cells #[.int .i64 (x0 : Int), .int .i64 (x1 : Int), .int .i64 (x2 : Int), .int .i64 (x3 : Int), .int .i64 (x4 : Int), .int .i64 (x5 : Int), .int .i64 (x6 : Int), .int .i64 (x7 : Int)] 213)
  have hB2 := hB1.trans (hb2.mono (by simp; omega))
  have hB3 := hB2.alloc (by omega) (.cells #[.int .i64 (y0 : Int), .int .i64 (y1 : Int), .int .i64 (y2 : Int), .int .i64 (y3 : Int), .int .i64 (y4 : Int), .int .i64 (y5 : Int), .int .i64 (y6 : Int), .int .i64 (y7 : Int)] 213)
  have hB4 := hB3.alloc (by simp; omega) (.cells #[.int .i64 0, .int .i64 0, .int .i64 0, .int .i64 0, .int .i64 0, .int .i64 0, .int .i64 0, .int .i64 0] 213)
  have hDX : Dig ((w2.alloc (.cells #[.int .i64 (y0 : Int), .int .i64 (y1 : Int), .int .i64 (y2 : Int), .int .i64 (y3 : Int), .int .i64 (y4 : Int), .int .i64 (y5 : Int), .int .i64 (y6 : Int), .int .i64 (y7 : Int)] 213)).alloc (.cells #[.int .i64 0, .int .i64 0, .int .i64 0, .int .i64 0, .int .i64 0, .int .i64 0, .int .i64 0, .int .i64 0] 213)) w1.heap.size [x0, x1, x2, x3, x4, x5, x6, x7] := ⟨(((Blk.new w1 _ _).belowN hb2).alloc _).alloc _, rfl⟩
  have hDY : Dig ((w2.alloc (.cells #[.int .i64 (y0 : Int), .int .i64 (y1 : Int), .int .i64 (y2 : Int), .int .i64 (y3 : Int), .int .i64 (y4 : Int), .int .i64 (y5 : Int), .int .i64 (y6 : Int), .int .i64 (y7 : Int)] 213)).alloc (.cells #[.int .i64 0, .int .i64 0, .int .i64 0, .int .i64 0, .int .i64 0, .int .i64 0, .int .i64 0, .int .i64 0] 213)) w2.heap.size [y0, y1, y2, y3, y4, y5, y6, y7] := ⟨(Blk.new w2 _ _).alloc _, rfl⟩
  have hDZ := Dig.zero (w2.alloc (.cells #[.int .i64 (y0 : Int), .int .i64 (y1 : Int), .int .i64 (y2 : Int), .int .i64 (y3 : Int), .int .i64 (y4 : Int), .int .i64 (y5 : Int), .int .i64 (y6 : Int), .int .i64 (y7 : Int)] 213))
  simp only [World.size_alloc] at hDZ
  have HXL : Hid ([x0, x1, x2, x3, x4, x5, x6, x7].length = 8) := rfl
  have HYL : Hid ([y0, y1, y2, y3, y4, y5, y6, y7].length = 8) := rfl
  have hgg : w1.heap.size < w2.heap.size := by omega
  have hgw : w.heap.size ≤ w1.heap.size := by omega
  clear hb1 hb2 hB1 hB2 hB3 HY hz1 hz2
  generalize hX : [x0, x1, x2, x3, x4, x5, x6, x7] = X at *
  generalize hY : [y0, y1, y2, y3, y4, y5, y6, y7] = Y at *
  generalize w1.heap.size = g1 at *
  generalize w2.heap.size = g2 at *
  clear hX hY
  go_loopw [8] (fun iv wr => ∃ (i : Nat) (D : List Nat), iv = .int .i64 (i : Int) ∧ i ≤ 8 ∧ Dig wr g1 X ∧ Dig wr g2 Y ∧ Dig wr (g2 + 1) D ∧ Hid (numU D = numU (X.take i) * numU Y) ∧ Hid (∀ z ∈ D, z ≤ 65025 * (8 * i)) ∧ Below w.heap.size w wr) (fun iv _ => 8 - (intOf iv).toNat)
  case atStart => exact ⟨0, [0, 0, 0, 0, 0, 0, 0, 0], rfl, by omega, hDX, hDY, hDZ, by show _ = _; simp [numU], by show ∀ z ∈ _, _; intro z hz; simp at hz; omega, hB4⟩
  case round =>
    obtain ⟨i, D, rfl, hi, hD1, hD2, hD3, hDi, hDb, hB⟩ := hrel
    clear hDX hDY hDZ hB4
    have hz := hB.size
    by_cases hlt : i < 8
    · obtain ⟨x, hx, c0, c1⟩ := hD1.at_ hlt
      have HXI := hide (numU_take X i x hx.out)
      have hxb := HXB.out x (List.mem_of_getElem? hx.out)
      have di : decide ((i : Int) < 8) = true := decide_eq_true (by omega)
      have di2 : (i : Int) < 8 := by omega
      go_wp2
      go_loopw [9] (fun jv wr2 => ∃ (j : Nat) (D : List Nat), jv = .int .i64 (j : Int) ∧ i + j ≤ 8 ∧ Dig wr2 g1 X ∧ Dig wr2 g2 Y ∧ Dig wr2 (g2 + 1) D ∧ Hid (numU D = numU (X.take i) * numU Y + 256 ^ i * UInt64.ofNat x * numU (Y.take j)) ∧ Hid (∀ z ∈ D, z ≤ 65025 * (8 * i + j)) ∧ Below w.heap.size w wr2) (fun jv _ => 8 - (intOf jv).toNat)
      case atStart => exact ⟨0, D, rfl, by omega, hD1, hD2, hD3, by show _ = _; rw [hDi.out]; simp [numU], by show ∀ z ∈ _, _; simpa using hDb.out, hB⟩
      case round =>
        obtain ⟨j, D', rfl, hj, hE1, hE2, hE3, hEj, hEb, hB'⟩ := hrel
        have hz' := hB'.size
        by_cases hlj : i + j < 8
        · obtain ⟨x', hx', d0, d1⟩ := hE1.at_ hlt
          obtain rfl : x = x' := by have := hx.out.symm.trans hx'.out; simpa using this
          obtain ⟨y, hy, d2, d3⟩ := hE2.at_ (show j < 8 by omega)
          obtain ⟨q, hq⟩ : ∃ q, q = i + j := ⟨_, rfl⟩
          obtain ⟨d, hd, d4, d5⟩ := hE3.at_ (k := q) (by omega)
          have hyb := HYB.out y (List.mem_of_getElem? hy.out)
          have hdb := hEb.out d (List.mem_of_getElem? hd.out)
          obtain ⟨m, hm⟩ : ∃ m : Nat, m = x * y := ⟨_, rfl⟩
          have hm5 : m ≤ 65025 := by rw [hm]; have : x * y ≤ 255 * 255 := Nat.mul_le_mul (by omega) (by omega); omega
          have hmi : (x : Int) * (y : Int) = (m : Int) := by rw [hm]; simp
          have hj8 : (j : Int) < 8 := by omega
          have hq8 : (q : Int) < 8 := by omega
          have hset := numU_set D' q d m hd.out
          rw [hq] at hset
          have hd5 : d ≤ 10000000 := by omega
          have HS : Hid (numU (D'.set (i + j) (d + m)) = numU (X.take i) * numU Y + 256 ^ i * UInt64.ofNat x * numU (Y.take (j + 1))) := by
            show _ = _
            rw [hset, hEj.out, numU_take Y j y hy.out, hm, ofNat_mul', pow_add']
            grind
          have HBD : Hid (∀ z ∈ D'.set (i + j) (d + m), z ≤ 65025 * (8 * i + (j + 1))) := by
            show ∀ z ∈ _, _
            intro z hz
            rcases List.mem_or_eq_of_mem_set hz with h | h
            · have := hEb.out z h; omega
            · omega
          have hl3 := hE3.1.lt
          have HX' := hide hx'.out
          have HQ := hide hq
          have HWQ : Hid (IntKind.i64.wrap ((i : Int) + (j : Int)) = (q : Int)) := by show _ = _; rw [IntWalk.i64_in _ (by omega)]; omega
          clear hset hm hy hd hx' hdb
          rw [← hq] at HS HBD
          clear hq
          go_wp2
          have hwq := HWQ.out
          go_still_tail 17, (by kernel_rfl)
          change wpList _ _ _ _ _ (World.drew _)
          clear hwq
          go_wp2
          go_roundw
          case rel =>
            have hs := hE3.set_ q (d + m)
            rw [Int.natCast_add] at hs
            exact ⟨j + 1, D'.set q (d + m), by go_num, by omega, hE1.far (by simp; omega) _, hE2.far (by simp) _, hs, HS.out, HBD.out, (hB'.setCell (by simp; omega) _).drew⟩
          case measure => simp [intOf]; omega
        · obtain rfl : j = 8 - i := by omega
          have hfin : numU D' = numU (X.take (i + 1)) * numU Y := by
            have h1 := numU_cut Y i hi HYL.out
            rw [hEj.out, HXI.out]
            grind
          have HF := hide hfin
          clear hfin
          go_wp2
          go_roundw
          case rel => exact ⟨i + 1, D', by go_num, by omega, hE1, hE2, hE3, HF.out, by show ∀ z ∈ _, _; intro z hz; have := hEb.out z hz; omega, hB'⟩
          case measure => simp [intOf]; omega
    · obtain rfl : i = 8 := by omega
      have hv : numU D = a * b := by
        rw [hDi.out, List.take_of_length_le (by rw [HXL.out]; omega), HXV.out, HYV.out]
      have hbd : ∀ x ∈ D, x ≤ 100000000 := fun z hz => by have := hDb.out z hz; omega
      obtain ⟨z0, z1, z2, z3, z4, z5, z6, z7, rfl⟩ := list8 D hD3.2
      obtain ⟨c0, c1, c2, c3, c4, c5, c6, c7⟩ := hD3.c8
      have HN := hide (fun w => number_lit z0 z1 z2 z3 z4 z5 z6 z7 hbd w)
      rw [hv] at HN
      clear hbd hv
      go_wp2_with (go_at_call 137; ((with_reducible refine (HN.out _).mono ?_); rintro e w3 ⟨rfl, hb3⟩))
      go_ret
      exact ⟨rfl, hB.trans (hb3.mono hz)⟩
end Go.Proofs.YtcamcnahkdiefaaGreat

/- Chapter 7, the document's answers: what an operation makes of numbers. -/
namespace Go.Proofs.YtcamcnahkdiefaaGreat
set_option linter.unusedVariables false
set_option linter.unusedSimpArgs false
open Go.RowKit
end Go.Proofs.YtcamcnahkdiefaaGreat

/- Several texts of mine in one file: N8e, N8g, N8h. -/
/- Chapter 8: Around. -/
namespace Go.Proofs.YtcamcnahkdiefaaGreat
set_option linter.unusedVariables false
set_option linter.unusedSimpArgs false
open Go.RowKit

end Go.Proofs.YtcamcnahkdiefaaGreat

/- Chapter 8, the document's answers: Well, height, Match. -/
namespace Go.Proofs.YtcamcnahkdiefaaGreat
set_option linter.unusedVariables false
set_option linter.unusedSimpArgs false
open Go.RowKit

theorem kind_cases (x : OpD) : (x.kind = 7 ∧ (x.kind == 7) = true ∧ (x.kind == 0) = false) ∨ (x.kind = 0 ∧ (x.kind == 7) = false ∧ (x.kind == 0) = true) ∨ (x.kind ≠ 7 ∧ x.kind ≠ 0 ∧ (x.kind == 7) = false ∧ (x.kind == 0) = false) := by
  by_cases h7 : x.kind = 7
  · left; simp [h7]
  · by_cases h0 : x.kind = 0
    · right; left; simp [h0]
    · right; right; simp [h7, h0]

set_option maxRecDepth 100000 in
set_option maxHeartbeats 800000 in
theorem Well8_calls (a : Option Addr) (c : Nat) (l : List OpD) (w : World) (h : At w a l) (hl : l.length ≤ 1000000) :
    Calls Tryz.prog 131 #[.slice a l.length c] w fun e w' => e = .returned (.bool (well l)) ∧ w = w' := by
  obtain ⟨R, hR⟩ : ∃ R, R = well l := ⟨_, rfl⟩
  rw [← hR]
  have HR := hide hR
  clear hR
  go_enter Tryz.func131, Tryz.ntmps131
  go_wp2
  go_loopw [3, 4] (fun nv i wr => ∃ (k n : Nat), i = .int .i64 k ∧ nv = .int .i64 n ∧ k ≤ l.length ∧ n ≤ k ∧ Hid (R = wellF n (l.drop k)) ∧ w = wr) (fun _ i _ => l.length - (intOf i).toNat)
  case atStart => exact ⟨0, 0, rfl, rfl, by omega, by omega, HR.out, rfl⟩
  case round =>
    obtain ⟨k, n, rfl, rfl, hk, hnk, hRk, rfl⟩ := hrel
    by_cases hlt : k < l.length
    · obtain ⟨b1, off1, x, rfl, hx, x0, x1, x2, x3, x4⟩ := h.getOp (Below.refl _ _) hlt
      have hstep : R = if x.kind < 0 ∨ 7 < x.kind then false else if x.kind = 7 then wellF (n + 1) (l.drop (k + 1)) else if x.kind = 0 then (if n = 0 then false else wellF (n - 1) (l.drop (k + 1))) else wellF n (l.drop (k + 1)) := by
        rw [hRk.out, drop_at hx.out]; rfl
      have HS := hide hstep
      clear hstep hRk
      by_cases hk1 : x.kind < 0
      · have e : R = false := by rw [HS.out, if_pos (by omega)]
        have E := hide e
        clear e
        go_wp2
        go_ret
        exact ⟨by rw [E.out]; rfl, rfl⟩
      by_cases hk2 : 7 < x.kind
      · have e : R = false := by rw [HS.out, if_pos (by omega)]
        have E := hide e
        clear e
        go_wp2
        go_ret
        exact ⟨by rw [E.out]; rfl, rfl⟩
      rcases kind_cases x with ⟨k7, b7, b0⟩ | ⟨k0, b7, b0⟩ | ⟨k7, k0, b7, b0⟩
      · have e : R = wellF (n + 1) (l.drop (k + 1)) := by rw [HS.out, if_neg (by omega), if_pos k7]
        have E := hide e
        clear e k7
        go_wp2
        go_roundw
        case rel => exact ⟨k + 1, n + 1, by go_num, by go_num, by omega, by omega, E.out, by trivial⟩
        case measure => simp [intOf]; omega
      · by_cases hn0 : n = 0
        · have e : R = false := by rw [HS.out, if_neg (by omega), if_neg (by omega), if_pos k0, if_pos hn0]
          have E := hide e
          clear e k0
          subst hn0
          go_wp2
          go_ret
          exact ⟨by rw [E.out]; rfl, rfl⟩
        · have e : R = wellF (n - 1) (l.drop (k + 1)) := by rw [HS.out, if_neg (by omega), if_neg (by omega), if_pos k0, if_neg hn0]
          have E := hide e
          have hn1 : 0 < n := by omega
          clear e k0 hn0
          go_wp2
          go_roundw
          case rel => exact ⟨k + 1, n - 1, by go_num, by go_num, by omega, by omega, E.out, by trivial⟩
          case measure => simp [intOf]; omega
      · have e : R = wellF n (l.drop (k + 1)) := by rw [HS.out, if_neg (by omega), if_neg (by omega), if_neg k0]
        have E := hide e
        clear e k7 k0
        go_wp2
        go_roundw
        case rel => exact ⟨k + 1, n, by go_num, rfl, by omega, by omega, E.out, by trivial⟩
        case measure => simp [intOf]; omega
    · have hd : l.drop k = [] := List.drop_eq_nil_of_le (by omega)
      have e : R = (n == 0) := by rw [hRk.out, hd]; rfl
      have E := hide e
      clear e hd
      have hnn : n = 0 ∨ 0 < n := by omega
      rcases hnn with rfl | hnn
      · go_wp2
        go_ret
        exact ⟨by rw [E.out]; rfl, rfl⟩
      · have hb : ((n : Int) == 0) = false := by simp; omega
        go_wp2
        go_ret
        exact ⟨by rw [E.out]; simp; omega, rfl⟩

theorem hI_le (n : Int) (l : List OpD) : hI n l ≤ n + l.length ∧ n - l.length ≤ hI n l := by
  induction l generalizing n with
  | nil => simp [hI]
  | cons x r ih =>
    simp only [hI, List.length_cons]
    have := ih (if x.kind = 7 then n + 1 else if x.kind = 0 then n - 1 else n)
    by_cases h7 : x.kind = 7
    · simp only [if_pos h7] at this ⊢; omega
    · by_cases h0 : x.kind = 0
      · simp only [if_neg h7, if_pos h0] at this ⊢; omega
      · simp only [if_neg h7, if_neg h0] at this ⊢; omega
def hgt (l : List OpD) (k : Nat) : Int := hI 0 (l.take k)
theorem hgt_succ (l : List OpD) (k : Nat) (x : OpD) (h : l[k]? = some x) : hgt l (k + 1) = if x.kind = 7 then hgt l k + 1 else if x.kind = 0 then hgt l k - 1 else hgt l k := by
  unfold hgt
  rw [List.take_add_one, h, hI_append]
  rfl
theorem hgt_le (l : List OpD) (k : Nat) : hgt l k ≤ k ∧ -(k : Int) ≤ hgt l k := by
  have := hI_le 0 (l.take k)
  unfold hgt
  simp at this
  omega

set_option maxRecDepth 100000 in
set_option maxHeartbeats 800000 in
theorem height_calls (a : Option Addr) (c m : Nat) (l : List OpD) (w : World) (h : At w a l) (hl : l.length ≤ 1000000) (hm : m ≤ l.length) :
    Calls Tryz.prog 170 #[.slice a l.length c, .int .i64 m] w fun e w' => e = .returned (.int .i64 (hgt l m)) ∧ w = w' := by
  go_enter Tryz.func170, Tryz.ntmps170
  go_wp2
  go_loopw [5, 6] (fun nv i wr => ∃ (k : Nat), i = .int .i64 k ∧ nv = .int .i64 (hgt l k) ∧ k ≤ m ∧ w = wr) (fun _ i _ => m - (intOf i).toNat)
  case atStart => exact ⟨0, rfl, rfl, by omega, rfl⟩
  case round =>
    obtain ⟨k, rfl, rfl, hk, rfl⟩ := hrel
    have hb := hgt_le l k
    obtain ⟨hb1, hb2⟩ := hb
    by_cases hlt : k < m
    · obtain ⟨b1, off1, x, rfl, hx, x0, x1, x2, x3, x4⟩ := h.getOp (Below.refl _ _) (show k < l.length by omega)
      have hs := hgt_succ l k x hx.out
      have HS := hide hs
      clear hs
      rcases kind_cases x with ⟨k7, b7, b0⟩ | ⟨k0, b7, b0⟩ | ⟨k7, k0, b7, b0⟩
      · have E := hide (HS.out.trans (if_pos k7))
        clear k7 HS
        go_wp2
        go_roundw
        case rel => exact ⟨k + 1, by go_num, by rw [E.out], by omega, by trivial⟩
        case measure => simp [intOf]; omega
      · have E := hide (HS.out.trans ((if_neg (by omega)).trans (if_pos k0)))
        clear k0 HS
        go_wp2
        go_roundw
        case rel => exact ⟨k + 1, by go_num, by rw [E.out], by omega, by trivial⟩
        case measure => simp [intOf]; omega
      · have E := hide (HS.out.trans ((if_neg k7).trans (if_neg k0)))
        clear k7 k0 HS
        go_wp2
        go_roundw
        case rel => exact ⟨k + 1, by go_num, by rw [E.out], by omega, by trivial⟩
        case measure => simp [intOf]; omega
    · have e : k = m := by omega
      subst e
      go_wp2
      go_ret
      exact ⟨rfl, rfl⟩

def Match8Post (w : World) (l : List OpD) (e : Ending) (w' : World) : Prop :=
  ∃ a c, e = .returned (.tuple #[.slice a (matchS l).1.length c, .int .i64 (matchS l).2]) ∧ Own w' w.heap.size 3 a c (matchS l).1 ∧ Below w.heap.size w w'
def rAt (l : List OpD) (k : Nat) : List Int := rF 0 (List.replicate l.length (-1)) (l.take k) ((matchL l).take k)
theorem matchL_length (l : List OpD) : (matchL l).length = l.length := by unfold matchL; rw [mF_length]; simp
theorem rAt_length (l : List OpD) (k : Nat) : (rAt l k).length = l.length := by unfold rAt; rw [rF_length]; simp
theorem rAt_succ (l : List OpD) (k : Nat) (x : OpD) (m : Int) (h : l[k]? = some x) (hm : (matchL l)[k]? = some m) : rAt l (k + 1) = if x.kind = 7 then ((rAt l k).set k m).set m.toNat k else rAt l k := by
  have hk : k < l.length := (List.getElem?_eq_some_iff.1 h).1
  unfold rAt
  rw [List.take_add_one, List.take_add_one, h, hm, rF_append _ _ _ _ _ _ (by simp [matchL_length])]
  simp only [Option.toList, rF, List.length_take, Nat.zero_add, Nat.min_eq_left (Nat.le_of_lt hk)]
theorem rAt_end (l : List OpD) (h : well l = true) : rAt l l.length = matchL l := by
  obtain ⟨f, hf, rfl⟩ := forest_of_well l h
  unfold rAt
  rw [List.take_length, show f.flat.length = (matchL f.flat).length from (matchL_length _).symm, List.take_length, matchL_length, matchL_flat f hf]
  have := rF_flat f hf 0 [] [] rfl
  simpa [Fo.size] using this
theorem at_rep_well (l : List OpD) (h : well l = true) (j : Nat) (x : OpD) (hx : l[j]? = some x) (h7 : x.kind = 7) :
    ∃ (b : Fo) (fin : OpD), b.ok ∧ fin.kind = 0 ∧ (∀ i, i < b.flat.length → l[j + 1 + i]? = b.flat[i]?) ∧ l[j + 1 + b.flat.length]? = some fin ∧ (matchL l)[j]? = some ((j + b.flat.length + 1 : Nat) : Int) ∧ j + b.flat.length + 1 < l.length := by
  obtain ⟨f, hf, rfl⟩ := forest_of_well l h
  obtain ⟨b, fin, pre, rest, h1, h2, h3, h4, h5⟩ := at_rep f hf 0 j x hx h7
  refine ⟨b, fin, h1, h2, ?_, ?_, ?_, ?_⟩
  · intro i hi
    rw [h3, List.getElem?_append_right (by omega), show j + 1 + i - pre.length = i + 1 by omega, List.getElem?_cons_succ, List.getElem?_append_left hi]
  · rw [h3, List.getElem?_append_right (by omega), show j + 1 + b.flat.length - pre.length = b.flat.length + 1 by omega, List.getElem?_cons_succ, List.getElem?_append_right (by omega)]
    simp
  · rw [matchL_flat f hf, h5]; simp [Fo.size]
  · rw [h3]; simp; omega

set_option maxRecDepth 100000 in
set_option maxHeartbeats 1600000 in
theorem Match8_calls (a : Option Addr) (c : Nat) (l : List OpD) (w : World) (h : At w a l) (hl : l.length ≤ 1000000) :
    Calls Tryz.prog 89 #[.slice a l.length c] w (Match8Post w l) := by
  have haw : l ≠ [] → ∀ g, a.map (·.block) = some g → g < w.heap.size := by
    intro h0 g hg
    obtain ⟨b, off, rfl, hlt⟩ := h.lt h0
    simp at hg
    omega
  have HAW := hide haw
  obtain ⟨Wl, hWl⟩ : ∃ b, b = well l := ⟨_, rfl⟩
  have HWL := hide hWl
  clear haw hWl
  have hcase : Wl = true ∨ Wl = false := by cases Wl <;> simp
  rcases hcase with rfl | rfl
  rotate_left
  · go_enter Tryz.func89, Tryz.ntmps89
    go_wp2_with (go_at_call 131; refine (Well8_calls a c l _ h hl).mono ?_; rintro e w1 ⟨rfl, rfl⟩; rw [← HWL.out])
    go_ret2
    unfold Match8Post
    have e : matchS l = ([], 6) := by unfold matchS; rw [← HWL.out]; rfl
    rw [e]
    exact ⟨none, 0, rfl, Own.none _ _ _, Below.refl _ _⟩
  · go_enter Tryz.func89, Tryz.ntmps89
    go_wp2_with (go_at_call 131; refine (Well8_calls a c l _ h hl).mono ?_; rintro e w1 ⟨rfl, rfl⟩; rw [← HWL.out])
    go_loopw [4, 5] (fun out i wr => ∃ (k : Nat) (ao : Option Addr) (co : Nat), i = .int .i64 k ∧ out = .slice ao k co ∧ k ≤ l.length ∧ Own wr w.heap.size 3 ao co (List.replicate k (-1 : Int)) ∧ Below w.heap.size w wr) (fun _ i _ => l.length - (intOf i).toNat)
    case atStart => exact ⟨0, _, 0, rfl, rfl, by omega, Own.new _ (Nat.le_refl _) _ _, Below.alloc (Below.refl _ _) (Nat.le_refl _) _⟩
    case round =>
      obtain ⟨k, ao, co, rfl, rfl, hk, hown, hbel⟩ := hrel
      have hsz := hbel.size
      by_cases hlt : k < l.length
      · go_wp2_with (at_builtin; go_loud (refine wpList_push tyI hown (-1 : Int) rfl rfl rfl rfl rfl rfl (by simp) hsz (by first | omega | (simp; omega)) ?_); intro a2 c2 w2 hown2 hg2 _)
        have e : List.replicate k (-1 : Int) ++ [-1] = List.replicate (k + 1) (-1) := by rw [List.replicate_succ']
        rw [e] at hown2
        have E := hide e
        clear e
        go_roundw
        case rel => exact ⟨k + 1, a2, c2, by go_num, by simp, by omega, hown2, below_push hbel hown hg2 hsz⟩
        case measure => simp [intOf]; omega
      · have e : k = l.length := by omega
        subst e
        have e0 : List.replicate l.length (-1 : Int) = rAt l 0 := by simp [rAt, rF]
        rw [e0] at hown
        clear e0
        go_wp2
        go_loopw [6] (fun i w5 => ∃ (k : Nat), i = .int .i64 k ∧ k ≤ l.length ∧ Own w5 w.heap.size 3 ao co (rAt l k) ∧ Below w.heap.size w w5) (fun i _ => l.length - (intOf i).toNat)
        case atStart => exact ⟨0, rfl, by omega, hown, hbel⟩
        case round =>
          clear hown hbel hsz hk hlt
          obtain ⟨k, rfl, hk, hown, hbel⟩ := hrel
          obtain ⟨w5, rfl⟩ : ∃ w5, w5 = wr := ⟨_, rfl⟩
          have hsz := hbel.size
          by_cases hlt : k < l.length
          · obtain ⟨b1, off1, x, rfl, hx, x0, x1, x2, x3, x4⟩ := h.getOp hbel hlt
            by_cases k7 : x.kind = 7
            · have b7 : (x.kind == 7) = true := by simp [k7]
              obtain ⟨b, fin, hb1, hb2, hb3, hb4, hb5, hb6⟩ := at_rep_well l HWL.out.symm k x hx.out k7
              have hr := rAt_succ l k x _ hx.out hb5
              rw [if_pos k7, Int.toNat_natCast] at hr
              have HR := hide hr
              have HB1 := hide hb1
              have HB5 := hide hb5
              have hL : ∀ i, i ≤ b.flat.length → l[k + 1 + i]? = (b.flat ++ [fin])[i]? := by
                intro i hi
                by_cases hii : i < b.flat.length
                · rw [hb3 i hii, List.getElem?_append_left hii]
                · have : i = b.flat.length := by omega
                  subst this
                  rw [hb4, List.getElem?_append_right (by omega)]
                  simp
              have HL := hide hL
              obtain ⟨S, hS⟩ : ∃ S, S = b.flat.length := ⟨_, rfl⟩
              obtain ⟨C, hC⟩ : ∃ C : Nat → Int, C = fun j => hI 1 ((b.flat ++ [fin]).take j) := ⟨_, rfl⟩
              have hC0 : C 0 = 1 := by rw [hC]; rfl
              have hCS : C (S + 1) = 0 := by
                rw [hC, hS]
                show hI 1 ((b.flat ++ [fin]).take (b.flat.length + 1)) = 0
                rw [List.take_of_length_le (by simp), hI_append, hI_flat b hb1]
                simp [hI, hb2]
              have hCle : ∀ j, C j ≤ j + 1 := fun j => by
                rw [hC]
                have := (hI_le 1 ((b.flat ++ [fin]).take j)).1
                simp only [List.length_take] at this
                show hI 1 ((b.flat ++ [fin]).take j) ≤ _
                omega
              have hCge : ∀ j, j ≤ S → 1 ≤ C j := fun j hj => by
                rw [hC]
                show 1 ≤ hI 1 ((b.flat ++ [fin]).take j)
                rw [List.take_append_of_le_length (by omega)]
                exact hI_ge b hb1 1 j
              have hCs : ∀ j y, l[k + 1 + j]? = some y → j ≤ S → C (j + 1) = if y.kind = 7 then C j + 1 else if y.kind = 0 then C j - 1 else C j := fun j y hy hj => by
                rw [HL.out j (by omega)] at hy
                rw [hC]
                show hI 1 ((b.flat ++ [fin]).take (j + 1)) = _
                rw [List.take_add_one, hy, hI_append]
                rfl
              rw [← hS] at hb6 HR
              have HCS := hide hCS
              have HCge := hide hCge
              have HCle := hide hCle
              have HCs := hide hCs
              have HC0 := hide hC0
              have hne : rAt l k ≠ [] := by intro e; have := rAt_length l k; rw [e] at this; simp at this; omega
              obtain ⟨g, rfl, hg1, hg2⟩ := hown.some_ hne
              have hfk := hown.frozen k
              have hcap := hown.cap
              rw [rAt_length] at hcap
              obtain ⟨hcap1, hcap2⟩ := hcap
              have hat5 := h.belowN hbel
              clear hb1 hb2 hb3 hb4 hb5 hL hS hC hCS hCle hCge hCs hC0 k7 hr hne hx
              go_wp2
              go_loopw [7, 8] (fun nv kv w9 => ∃ j q : Nat, kv = .int .i64 (q : Int) ∧ q ≤ k + j ∧ k + j ≤ q ∧ nv = .int .i64 (C j) ∧ j ≤ S + 1 ∧ w5 = w9) (fun _ kv _ => k + S + 1 - (intOf kv).toNat)
              case atStart => exact ⟨0, k, rfl, by omega, by omega, by rw [HC0.out], by omega, by trivial⟩
              case round =>
                obtain ⟨j, q, rfl, hq1, hq2, rfl, hj, rfl⟩ := hrel
                by_cases hjS : j ≤ S
                · have hc1 := HCge.out j hjS
                  have hc2 := HCle.out j
                  obtain ⟨b2, off2, y, e2, hy, y0, y1, y2, y3, y4⟩ := hat5.getOp (Below.refl _ _) (show q + 1 < l.length by omega)
                  injection e2 with e2
                  injection e2 with e2 e3
                  subst e2
                  subst e3
                  have hs := HCs.out j y (by have := hy.out; rwa [show q + 1 = k + 1 + j by omega] at this) hjS
                  have HS := hide hs
                  clear hs hy
                  rcases kind_cases y with ⟨q7, c7, c0⟩ | ⟨q0, c7, c0⟩ | ⟨q7, q0, c7, c0⟩
                  · have E := hide (HS.out.trans (if_pos q7))
                    clear q7 HS
                    go_wp2
                    go_roundw
                    case rel => exact ⟨j + 1, q + 1, by go_num, by omega, by omega, by rw [E.out], by omega, by trivial⟩
                    case measure => simp [intOf]; omega
                  · have E := hide (HS.out.trans ((if_neg (by omega)).trans (if_pos q0)))
                    clear q0 HS
                    go_wp2
                    go_roundw
                    case rel => exact ⟨j + 1, q + 1, by go_num, by omega, by omega, by rw [E.out], by omega, by trivial⟩
                    case measure => simp [intOf]; omega
                  · have E := hide (HS.out.trans ((if_neg q7).trans (if_neg q0)))
                    clear q7 q0 HS
                    go_wp2
                    go_roundw
                    case rel => exact ⟨j + 1, q + 1, by go_num, by omega, by omega, by rw [E.out], by omega, by trivial⟩
                    case measure => simp [intOf]; omega
                · have e : j = S + 1 := by omega
                  subst e
                  have hc := HCS.out
                  have hql : q < l.length := by omega
                  have hfq := hown.frozen q
                  obtain ⟨y1, v1, hy1, hy2, hy3⟩ := hown.cell1 (i := k) (by rw [rAt_length]; omega) rfl
                  obtain ⟨y2, v2, hz1, hz2, hz3⟩ := hown.cell1 (i := q) (by rw [rAt_length]; omega) rfl
                  have hkq1 : k ≠ q := by omega
                  have hkq2 : q ≠ k := by omega
                  clear hy1 hy2 hz1 hz2
                  go_wp2
                  go_roundw
                  case rel =>
                    have hqe : q = k + S + 1 := by omega
                    have ho1 := hown.set1 k (q : Int) (.int .i64 (q : Int)) rfl
                    have ho2 := ho1.set1 q (k : Int) (.int .i64 (k : Int)) rfl
                    have hb1 : Below w.heap.size w (w5.setCell ⟨g, k, none⟩ (.int .i64 (q : Int))) := below_push hbel hown (grown_setCell w5 g k _) hsz
                    have hb2 : Below w.heap.size w ((w5.setCell ⟨g, k, none⟩ (.int .i64 (q : Int))).setCell ⟨g, q, none⟩ (.int .i64 (k : Int))) := below_push hb1 ho1 (grown_setCell _ g q _) (by simpa [World.setCell] using hsz)
                    refine ⟨k + 1, by go_num, by omega, ?_, hb2⟩
                    rw [HR.out, ← hqe]
                    exact ho2
                  case measure => simp [intOf]; omega
            · have b7 : (x.kind == 7) = false := by simp [k7]
              have hm : ∃ m, (matchL l)[k]? = some m := ⟨_, List.getElem?_eq_getElem (by rw [matchL_length]; omega)⟩
              obtain ⟨m, hm⟩ := hm
              have hr := rAt_succ l k x m hx.out hm
              rw [if_neg k7] at hr
              have HR := hide hr
              clear hr hm k7
              go_wp2
              go_roundw
              case rel => exact ⟨k + 1, by go_num, by omega, by rw [HR.out]; exact hown, hbel⟩
              case measure => simp [intOf]; omega
          · have e : k = l.length := by omega
            subst e
            have hW := HWL.out.symm
            rw [rAt_end l hW] at hown
            go_wp2
            go_ret2
            unfold Match8Post
            have e : matchS l = (matchL l, 0) := by unfold matchS; rw [if_pos hW]
            rw [e]
            exact ⟨ao, co, by simp [matchL_length], hown, hbel⟩
end Go.Proofs.YtcamcnahkdiefaaGreat

/- Chapter 8, the document's answers: Deep, Around, Inside, Parts. -/
namespace Go.Proofs.YtcamcnahkdiefaaGreat
set_option linter.unusedVariables false
set_option linter.unusedSimpArgs false
open Go.RowKit

theorem Match8W (a : Option Addr) (c : Nat) (l : List OpD) (w : World) (h : At w a l) (hl : l.length ≤ 1000000) (hw : well l = true) :
    Calls Tryz.prog 89 #[.slice a l.length c] w fun e w' => ∃ a' c', e = .returned (.tuple #[.slice a' l.length c', .int .i64 0]) ∧ Own w' w.heap.size 3 a' c' (matchL l) ∧ Below w.heap.size w w' := by
  refine (Match8_calls a c l w h hl).mono ?_
  rintro e w' hp
  unfold Match8Post at hp
  have e0 : matchS l = (matchL l, 0) := by unfold matchS; rw [if_pos hw]
  rw [e0] at hp
  simp only [matchL_length] at hp
  exact hp
theorem Match8N (a : Option Addr) (c : Nat) (l : List OpD) (w : World) (h : At w a l) (hl : l.length ≤ 1000000) (hw : well l = false) :
    Calls Tryz.prog 89 #[.slice a l.length c] w fun e w' => ∃ a' c', e = .returned (.tuple #[.slice a' 0 c', .int .i64 6]) ∧ Below w.heap.size w w' := by
  refine (Match8_calls a c l w h hl).mono ?_
  rintro e w' hp
  unfold Match8Post at hp
  have e0 : matchS l = ([], 6) := by unfold matchS; rw [if_neg (by simp [hw])]
  rw [e0] at hp
  obtain ⟨a', c', rfl, h1, h2⟩ := hp
  exact ⟨a', c', rfl, h2⟩
theorem MatchW (a : Option Addr) (c : Nat) (l : List OpD) (w : World) (h : At w a l) (hl : l.length ≤ 1000000) (hw : well l = true) :
    Calls Tryz.prog 96 #[.slice a l.length c] w fun e w' => ∃ a' c', e = .returned (.tuple #[.slice a' l.length c', .int .i64 0]) ∧ Own w' w.heap.size 3 a' c' (matchL l) ∧ Below w.heap.size w w' := by
  refine (Match_calls a c l w h hl).mono ?_
  rintro e w' hp
  unfold MatchPost at hp
  have e0 : matchS l = (matchL l, 0) := by unfold matchS; rw [if_pos hw]
  rw [e0] at hp
  simp only [matchL_length] at hp
  exact hp
theorem MatchN (a : Option Addr) (c : Nat) (l : List OpD) (w : World) (h : At w a l) (hl : l.length ≤ 1000000) (hw : well l = false) :
    Calls Tryz.prog 96 #[.slice a l.length c] w fun e w' => ∃ a' c', e = .returned (.tuple #[.slice a' 0 c', .int .i64 6]) ∧ Below w.heap.size w w' := by
  refine (Match_calls a c l w h hl).mono ?_
  rintro e w' hp
  unfold MatchPost at hp
  have e0 : matchS l = ([], 6) := by unfold matchS; rw [if_neg (by simp [hw])]
  rw [e0] at hp
  obtain ⟨a', c', rfl, h1, h2⟩ := hp
  exact ⟨a', c', rfl, h2⟩

def hmax : Int → Int → List OpD → Int
  | n, m, [] => max m n
  | n, m, x :: r => hmax (if x.kind = 7 then n + 1 else if x.kind = 0 then n - 1 else n) (max m n) r
theorem hmax_one (n m : Int) (a : List OpD) (x : OpD) : hmax n m (a ++ [x]) = max (hmax n m a) (hI n (a ++ [x])) := by
  induction a generalizing n m with
  | nil => rfl
  | cons y r ih => exact ih _ _
theorem hmax_dp (l : List OpD) (n m : Nat) (h : wellF n l = true) : hmax n m l = (dpF n (max m n) l : Nat) := by
  induction l generalizing n m with
  | nil => simp [hmax, dpF]; omega
  | cons x r ih =>
    rw [wellF] at h
    simp only [hmax, dpF]
    by_cases h1 : x.kind < 0 ∨ 7 < x.kind
    · rw [if_pos h1] at h; cases h
    · rw [if_neg h1] at h
      have hmn : max (m : Int) n = ((max m n : Nat) : Int) := by omega
      by_cases h7 : x.kind = 7
      · rw [if_pos h7] at h
        rw [if_pos h7, if_pos h7, hmn, show (n : Int) + 1 = ((n + 1 : Nat) : Int) by omega, ih _ _ h]
      · rw [if_neg h7] at h
        rw [if_neg h7, if_neg h7]
        by_cases h0 : x.kind = 0
        · rw [if_pos h0] at h
          by_cases hn : n = 0
          · rw [if_pos hn] at h; cases h
          · rw [if_neg hn] at h
            rw [if_pos h0, if_pos h0, hmn, show (n : Int) - 1 = ((n - 1 : Nat) : Int) by omega, ih _ _ h]
            congr 2
            omega
        · rw [if_neg h0] at h
          rw [if_neg h0, if_neg h0, hmn, ih _ _ h]
          congr 2
          omega
def mxh (l : List OpD) (k : Nat) : Int := if k = 0 then 0 else hmax 0 0 (l.take (k - 1))
theorem mxh_succ (l : List OpD) (k : Nat) (hk : k ≤ l.length) : mxh l (k + 1) = max (mxh l k) (hgt l k) := by
  unfold mxh hgt
  rw [if_neg (by omega), Nat.add_sub_cancel]
  cases k with
  | zero => simp [hmax, hI]
  | succ k =>
    rw [if_neg (by omega), Nat.add_sub_cancel, List.take_add_one, List.getElem?_eq_getElem (by omega)]
    exact hmax_one _ _ _ _
theorem mxh_end (l : List OpD) (h : well l = true) : mxh l (l.length + 1) = (deepL l : Nat) := by
  unfold mxh
  rw [if_neg (by omega), Nat.add_sub_cancel, List.take_length]
  exact hmax_dp l 0 0 h

set_option maxRecDepth 100000 in
set_option maxHeartbeats 800000 in
theorem Deep8_calls (a : Option Addr) (c : Nat) (l : List OpD) (w : World) (h : At w a l) (hl : l.length ≤ 1000000) :
    Calls Tryz.prog 152 #[.slice a l.length c] w fun e w' => e = .returned (.tuple #[.int .i64 (deepS l).1, .int .i64 (deepS l).2]) ∧ w = w' := by
  obtain ⟨Wl, hWl⟩ : ∃ b, b = well l := ⟨_, rfl⟩
  have HWL := hide hWl
  clear hWl
  have hcase : Wl = true ∨ Wl = false := by cases Wl <;> simp
  rcases hcase with rfl | rfl
  rotate_left
  · go_enter Tryz.func152, Tryz.ntmps152
    go_wp2_with (go_at_call 131; refine (Well8_calls a c l _ h hl).mono ?_; rintro e w1 ⟨rfl, rfl⟩; rw [← HWL.out])
    go_ret2
    exact ⟨by simp [deepS, ← HWL.out], rfl⟩
  · go_enter Tryz.func152, Tryz.ntmps152
    go_wp2_with (go_at_call 131; refine (Well8_calls a c l _ h hl).mono ?_; rintro e w1 ⟨rfl, rfl⟩; rw [← HWL.out])
    go_loopw [4, 5] (fun m i wr => ∃ (k : Nat), i = .int .i64 k ∧ m = .int .i64 (mxh l k) ∧ k ≤ l.length + 1 ∧ w = wr) (fun _ i _ => l.length + 1 - (intOf i).toNat)
    case atStart => exact ⟨0, rfl, rfl, by omega, rfl⟩
    case round =>
      obtain ⟨k, rfl, rfl, hk, rfl⟩ := hrel
      by_cases hlt : k ≤ l.length
      · have hs := mxh_succ l k hlt
        have hb := hgt_le l k
        obtain ⟨hb1, hb2⟩ := hb
        have HS := hide hs
        clear hs
        have hcs : mxh l k < hgt l k ∨ hgt l k ≤ mxh l k := by omega
        rcases hcs with hc | hc
        · have E : Hid (mxh l (k + 1) = hgt l k) := hide (HS.out.trans (by omega))
          clear HS
          go_wp2_with (go_at_call 170; refine (height_calls _ c k l _ h hl hlt).mono ?_; rintro e w1 ⟨rfl, rfl⟩)
          go_roundw
          case rel => exact ⟨k + 1, by go_num, by rw [E.out], by omega, by trivial⟩
          case measure => simp [intOf]; omega
        · have E : Hid (mxh l (k + 1) = mxh l k) := hide (HS.out.trans (by omega))
          clear HS
          go_wp2_with (go_at_call 170; refine (height_calls _ c k l _ h hl hlt).mono ?_; rintro e w1 ⟨rfl, rfl⟩)
          go_roundw
          case rel => exact ⟨k + 1, by go_num, by rw [E.out], by omega, by trivial⟩
          case measure => simp [intOf]; omega
      · have e : k = l.length + 1 := by omega
        subst e
        have hm := mxh_end l HWL.out.symm
        have HM := hide hm
        clear hm
        go_wp2
        go_ret2
        exact ⟨by simp [deepS, ← HWL.out, HM.out], rfl⟩

end Go.Proofs.YtcamcnahkdiefaaGreat
