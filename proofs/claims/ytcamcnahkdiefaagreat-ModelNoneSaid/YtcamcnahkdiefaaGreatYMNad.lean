/- Several texts of mine in one file. -/
import Derived.Test.YtcamcnahkdiefaaGreatYMNac
import Derived.StillTailTactics
import Derived.IntWalk
import Derived.Test.YtcamcnahkdiefaaGreatYMNaa
import Derived.Deep.CutRange
import Derived.Deep.DeepCutAuto
import Derived.Deep.LoopGhost
import Derived.Deep.OwnRows
/- Several texts of mine in one file: Oc, Od, R7, R1, R1b. -/
/- Chapter 7: what a kind asks for, whether an operation is one, what it writes and reads. -/
namespace Go.Proofs.YtcamcnahkdiefaaGreat
set_option linter.unusedVariables false
set_option linter.unusedSimpArgs false
open Go.RowKit

theorem box5 {w w1 : World} {T : TypeId} {v0 v1 v2 v3 v4 : Value} (hb : Below (w.alloc (.cells #[v0, v1, v2, v3, v4] T)).heap.size (w.alloc (.cells #[v0, v1, v2, v3, v4] T)) w1) :
    w.heap.size < w1.heap.size ∧ Below w.heap.size w w1 ∧ Blk w1 w.heap.size T #[v0, v1, v2, v3, v4] :=
  ⟨Nat.lt_of_lt_of_le (by simp) hb.size, (Below.alloc (Below.refl _ _) (Nat.le_refl _) _).trans (hb.mono (by simp)), (Blk.new w T _).belowN hb⟩
theorem u64_zero (v : UInt64) : ((v.toNat : Int) == 0) = decide (v = 0) := by
  by_cases h : v = 0
  · simp [h]
  · have : v.toNat ≠ 0 := fun e => h (UInt64.toNat_inj.1 (by simpa using e))
    simp [h]; omega
theorem kind_no {k : Int} (h : k < 0 ∨ 7 < k) : (k == 0) = false ∧ (k == 1) = false ∧ (k == 2) = false ∧ (k == 3) = false ∧ (k == 4) = false ∧ (k == 5) = false ∧ (k == 6) = false ∧ (k == 7) = false := by
  refine ⟨?_, ?_, ?_, ?_, ?_, ?_, ?_, ?_⟩ <;> simp <;> omega
theorem asks_no {k : Int} (h : k < 0 ∨ 7 < k) : dOf k = false ∧ aOf k = false ∧ bOf k = false ∧ vOf k = false := by
  unfold dOf aOf bOf vOf
  simp
  omega

theorem of_calls (k : Int) (w : World) : Calls Tryz.prog 168 #[.int .i64 k] w fun e w' => e = .returned (.agg #[.bool (dOf k), .bool (aOf k), .bool (bOf k), .bool (vOf k)]) ∧ Below w.heap.size w w' := by
  rcases kind8 k with h | rfl | rfl | rfl | rfl | rfl | rfl | rfl | rfl | h
  case inl =>
    obtain ⟨h0, h1, h2, h3, h4, h5, h6, h7⟩ := kind_no (.inl h)
    obtain ⟨e1, e2, e3, e4⟩ := asks_no (.inl h)
    rw [e1, e2, e3, e4]
    clear e1 e2 e3 e4
    go_enter Tryz.func168, Tryz.ntmps168
    go_wp2
    exact bodyPost_ret (v := .agg #[.bool false, .bool false, .bool false, .bool false]) (by simp [results, Tryz.results168, go_sem]) rfl ⟨rfl, (by with_reducible repeat first | exact Below.refl _ _ | assumption | refine below_drewN ?_ _ | refine Below.drew ?_ | refine Below.alloc ?_ (by simp <;> omega) _ | refine Below.setCell ?_ (by simp <;> omega) _)⟩
  case inr.inr.inr.inr.inr.inr.inr.inr.inr =>
    obtain ⟨h0, h1, h2, h3, h4, h5, h6, h7⟩ := kind_no (.inr h)
    obtain ⟨e1, e2, e3, e4⟩ := asks_no (.inr h)
    rw [e1, e2, e3, e4]
    clear e1 e2 e3 e4
    go_enter Tryz.func168, Tryz.ntmps168
    go_wp2
    exact bodyPost_ret (v := .agg #[.bool false, .bool false, .bool false, .bool false]) (by simp [results, Tryz.results168, go_sem]) rfl ⟨rfl, (by with_reducible repeat first | exact Below.refl _ _ | assumption | refine below_drewN ?_ _ | refine Below.drew ?_ | refine Below.alloc ?_ (by simp <;> omega) _ | refine Below.setCell ?_ (by simp <;> omega) _)⟩
  all_goals
    go_enter Tryz.func168, Tryz.ntmps168
    go_wp2
    first
      | exact bodyPost_ret (v := .agg #[.bool false, .bool false, .bool false, .bool false]) (by simp [results, Tryz.results168, go_sem]) rfl ⟨rfl, (by with_reducible repeat first | exact Below.refl _ _ | assumption | refine below_drewN ?_ _ | refine Below.drew ?_ | refine Below.alloc ?_ (by simp <;> omega) _ | refine Below.setCell ?_ (by simp <;> omega) _)⟩
      | exact bodyPost_ret (v := .agg #[.bool true, .bool true, .bool true, .bool false]) (by simp [results, Tryz.results168, go_sem]) rfl ⟨rfl, (by with_reducible repeat first | exact Below.refl _ _ | assumption | refine below_drewN ?_ _ | refine Below.drew ?_ | refine Below.alloc ?_ (by simp <;> omega) _ | refine Below.setCell ?_ (by simp <;> omega) _)⟩
      | exact bodyPost_ret (v := .agg #[.bool true, .bool true, .bool false, .bool false]) (by simp [results, Tryz.results168, go_sem]) rfl ⟨rfl, (by with_reducible repeat first | exact Below.refl _ _ | assumption | refine below_drewN ?_ _ | refine Below.drew ?_ | refine Below.alloc ?_ (by simp <;> omega) _ | refine Below.setCell ?_ (by simp <;> omega) _)⟩
      | exact bodyPost_ret (v := .agg #[.bool true, .bool false, .bool false, .bool true]) (by simp [results, Tryz.results168, go_sem]) rfl ⟨rfl, (by with_reducible repeat first | exact Below.refl _ _ | assumption | refine below_drewN ?_ _ | refine Below.drew ?_ | refine Below.alloc ?_ (by simp <;> omega) _ | refine Below.setCell ?_ (by simp <;> omega) _)⟩
      | exact bodyPost_ret (v := .agg #[.bool false, .bool false, .bool false, .bool true]) (by simp [results, Tryz.results168, go_sem]) rfl ⟨rfl, (by with_reducible repeat first | exact Below.refl _ _ | assumption | refine below_drewN ?_ _ | refine Below.drew ?_ | refine Below.alloc ?_ (by simp <;> omega) _ | refine Below.setCell ?_ (by simp <;> omega) _)⟩

theorem known_calls (k : Int) (w : World) : Calls Tryz.prog 204 #[.int .i64 k] w fun e w' => e = .returned (.bool (decide (0 ≤ k) && decide (k ≤ 7))) ∧ w = w' := by
  by_cases h : 0 ≤ k
  · by_cases h2 : k < 8
    · have e : (decide (0 ≤ k) && decide (k ≤ 7)) = true := by simp; omega
      rw [e]
      clear e
      go_enter Tryz.func204, Tryz.ntmps204
      go_wp2
      go_ret
      exact ⟨rfl, rfl⟩
    · have e : (decide (0 ≤ k) && decide (k ≤ 7)) = false := by simp; omega
      rw [e]
      clear e
      go_enter Tryz.func204, Tryz.ntmps204
      go_wp2
      go_ret
      exact ⟨rfl, rfl⟩
  · have e : (decide (0 ≤ k) && decide (k ≤ 7)) = false := by simp; omega
    rw [e]
    clear e
    go_enter Tryz.func204, Tryz.ntmps204
    go_wp2
    go_ret
    exact ⟨rfl, rfl⟩
theorem register_calls (n : Int) (b : Bool) (w : World) : Calls Tryz.prog 205 #[.int .i64 n, .bool b] w fun e w' => e = .returned (.bool (regB n b)) ∧ w = w' := by
  cases b with
  | false =>
    by_cases h : n = 0
    · subst h
      go_enter Tryz.func205, Tryz.ntmps205
      go_wp2
      go_ret
      exact ⟨rfl, rfl⟩
    · have e : regB n false = false := by simp [regB, h]
      have h2 : (n == 0) = false := by simpa using h
      rw [e]
      clear e h
      go_enter Tryz.func205, Tryz.ntmps205
      go_wp2
      go_ret
      exact ⟨rfl, rfl⟩
  | true =>
    by_cases h : 0 ≤ n
    · by_cases h2 : n ≤ 2147483647
      · have e : regB n true = true := by simp [regB, h, h2]
        rw [e]
        clear e
        go_enter Tryz.func205, Tryz.ntmps205
        go_wp2
        go_ret
        exact ⟨rfl, rfl⟩
      · have e : regB n true = false := by simp [regB, h2]
        rw [e]
        clear e
        go_enter Tryz.func205, Tryz.ntmps205
        go_wp2
        go_ret
        exact ⟨rfl, rfl⟩
    · have e : regB n true = false := by simp [regB, h]
      rw [e]
      clear e
      go_enter Tryz.func205, Tryz.ntmps205
      go_wp2
      go_ret
      exact ⟨rfl, rfl⟩

set_option maxHeartbeats 800000 in
theorem Right_calls (x : OpD) (w : World) : Calls Tryz.prog 196 #[.agg #[.int .i64 x.kind, .int .i64 x.d, .int .i64 x.a, .int .i64 x.b, .int .u64 (x.v.toNat : Int)]] w fun e w' => e = .returned (.bool (rightB x)) ∧ Below w.heap.size w w' := by
  obtain ⟨K, hK⟩ : ∃ K, K = (decide (0 ≤ x.kind) && decide (x.kind ≤ 7)) := ⟨_, rfl⟩
  obtain ⟨D, hD⟩ : ∃ D, D = regB x.d (dOf x.kind) := ⟨_, rfl⟩
  obtain ⟨A, hA⟩ : ∃ A, A = regB x.a (aOf x.kind) := ⟨_, rfl⟩
  obtain ⟨B, hB⟩ : ∃ B, B = regB x.b (bOf x.kind) := ⟨_, rfl⟩
  obtain ⟨V, hV⟩ : ∃ V, V = vOf x.kind := ⟨_, rfl⟩
  have hR : rightB x = (K && D && A && B && (V || decide (x.v = 0))) := by rw [hK, hD, hA, hB, hV]; rfl
  have HR := hide hR
  have HO : ∀ w, Calls Tryz.prog 168 #[.int .i64 x.kind] w fun e w' => e = .returned (.agg #[.bool (dOf x.kind), .bool (aOf x.kind), .bool (bOf x.kind), .bool V]) ∧ Below w.heap.size w w' := by rw [hV]; exact of_calls x.kind
  have HK : ∀ w, Calls Tryz.prog 204 #[.int .i64 x.kind] w fun e w' => e = .returned (.bool K) ∧ w = w' := by rw [hK]; exact known_calls x.kind
  have HD : ∀ w, Calls Tryz.prog 205 #[.int .i64 x.d, .bool (dOf x.kind)] w fun e w' => e = .returned (.bool D) ∧ w = w' := by rw [hD]; exact register_calls _ _
  have HA : ∀ w, Calls Tryz.prog 205 #[.int .i64 x.a, .bool (aOf x.kind)] w fun e w' => e = .returned (.bool A) ∧ w = w' := by rw [hA]; exact register_calls _ _
  have HB : ∀ w, Calls Tryz.prog 205 #[.int .i64 x.b, .bool (bOf x.kind)] w fun e w' => e = .returned (.bool B) ∧ w = w' := by rw [hB]; exact register_calls _ _
  have HO := hide HO
  have HK := hide HK
  have HD := hide HD
  have HA := hide HA
  have HB := hide HB
  rw [hR]
  clear hR hK hD hA hB hV
  generalize dOf x.kind = d at *
  generalize aOf x.kind = a at *
  generalize bOf x.kind = b at *
  obtain ⟨k, rd, ra, rb, v⟩ := x
  simp only at *
  have hcase : K = false ∨ (K = true ∧ D = false) ∨ (K = true ∧ D = true ∧ A = false) ∨ (K = true ∧ D = true ∧ A = true ∧ B = false) ∨ (K = true ∧ D = true ∧ A = true ∧ B = true ∧ V = true) ∨ (K = true ∧ D = true ∧ A = true ∧ B = true ∧ V = false) := by
    cases K <;> cases D <;> cases A <;> cases B <;> cases V <;> simp
  have H : True := trivial
  rcases hcase with rfl | ⟨rfl, rfl⟩ | ⟨rfl, rfl, rfl⟩ | ⟨rfl, rfl, rfl, rfl⟩ | ⟨rfl, rfl, rfl, rfl, rfl⟩ | ⟨rfl, rfl, rfl, rfl, rfl⟩
  all_goals
    go_enter Tryz.func196, Tryz.ntmps196
    go_wp2_with (first | (go_at_call 168; ((with_reducible refine (HO.out _).mono ?_); rintro e w1 ⟨rfl, hb⟩; obtain ⟨hz, hB1, hX⟩ := box5 hb; obtain ⟨x0, x1, x2, x3, x4, y0, y1, y2, y3, y4⟩ := hX.c5; clear hb hX)) | (go_at_call 204; ((with_reducible refine (HK.out _).mono ?_); rintro e w2 ⟨rfl, rfl⟩)) | (go_at_call 205; first | ((with_reducible refine (HD.out _).mono ?_); rintro e w2 ⟨rfl, rfl⟩) | ((with_reducible refine (HA.out _).mono ?_); rintro e w2 ⟨rfl, rfl⟩) | ((with_reducible refine (HB.out _).mono ?_); rintro e w2 ⟨rfl, rfl⟩)))
    go_ret
    exact ⟨by simp [u64_zero], hB1.alloc (Nat.le_of_lt hz) _⟩

end Go.Proofs.YtcamcnahkdiefaaGreat

/- Chapter 7: what an operation writes and reads, what it makes of numbers. -/
namespace Go.Proofs.YtcamcnahkdiefaaGreat
set_option linter.unusedVariables false
set_option linter.unusedSimpArgs false
open Go.RowKit

theorem fld_d (a b c d : Bool) (w : World) : (Instr.field 254 (.agg #[.bool a, .bool b, .bool c, .bool d]) 0).run Tryz.prog w = .ok (.bool a) w := by kernel_rfl
theorem Writes7_calls (x : OpD) (w : World) : Calls Tryz.prog 149 #[.agg #[.int .i64 x.kind, .int .i64 x.d, .int .i64 x.a, .int .i64 x.b, .int .u64 (x.v.toNat : Int)]] w fun e w' => e = .returned (.tuple #[.int .i64 (if dOf x.kind = true then x.d else 0), .bool (dOf x.kind)]) ∧ Below w.heap.size w w' := by
  have HO := hide (of_calls x.kind)
  obtain ⟨k, rd, ra, rb, v⟩ := x
  simp only at *
  have hfl := fld_d
  generalize dOf k = d at *
  cases d
  all_goals
    go_enter Tryz.func149, Tryz.ntmps149
    go_wp2_with (go_at_call 168; ((with_reducible refine (HO.out _).mono ?_); rintro e w1 ⟨rfl, hb⟩; obtain ⟨hz, hB1, hX⟩ := box5 hb; obtain ⟨x0, x1, x2, x3, x4, y0, y1, y2, y3, y4⟩ := hX.c5; clear hb hX))
    go_ret2
    exact ⟨rfl, hB1⟩

theorem Rev1_calls (a : Option Addr) (n c : Nat) (w : World) (hn : n ≤ 1) : Calls Tryz.prog 207 #[.slice a n c] w fun e w' => e = .returned (.tuple #[]) ∧ w = w' := by
  go_enter Tryz.func207, Tryz.ntmps207
  go_wp2
  go_loopw [2, 3] (fun i j wr => i = .int .i64 0 ∧ j = .int .i64 ((n : Int) - 1) ∧ w = wr) (fun _ _ _ => 0)
  case atStart => exact ⟨rfl, rfl, rfl⟩
  case round =>
    obtain ⟨rfl, rfl, rfl⟩ := hrel
    have h1 : n = 0 ∨ n = 1 := by omega
    rcases h1 with rfl | rfl
    all_goals
      go_wp2
      go_end0
      exact ⟨rfl, rfl⟩
theorem Rev2_calls (g c B : Nat) (x y : Int) (w : World) (h : Own w B 3 (some ⟨g, 0, none⟩) c [x, y]) : Calls Tryz.prog 207 #[.slice (some ⟨g, 0, none⟩) 2 c] w fun e w' => e = .returned (.tuple #[]) ∧
    Own w' B 3 (some ⟨g, 0, none⟩) c [y, x] ∧ Turned [g] w w' := by
  have hc0 : w.cell? ⟨g, 0, none⟩ = some (.int .i64 x) := by obtain ⟨x1, u, e1, e2, e3⟩ := h.cell1 (i := 0) (by simp) rfl; simp at e1; subst e1; simp [Flat.enc] at e2; subst e2; exact e3
  have hc1 : w.cell? ⟨g, 1, none⟩ = some (.int .i64 y) := by obtain ⟨x1, u, e1, e2, e3⟩ := h.cell1 (i := 1) (by simp) rfl; simp at e1; subst e1; simp [Flat.enc] at e2; subst e2; exact e3
  have hf0 := h.frozen 0
  have hf1 := h.frozen 1
  go_enter Tryz.func207, Tryz.ntmps207
  go_wp2
  go_loopw [2, 3] (fun i j wr => (i = .int .i64 0 ∧ j = .int .i64 1 ∧ w = wr) ∨ (i = .int .i64 1 ∧ j = .int .i64 0 ∧ Own wr B 3 (some ⟨g, 0, none⟩) c [y, x] ∧ Turned [g] w wr)) (fun i _ _ => 1 - (intOf i).toNat)
  case atStart => exact .inl ⟨rfl, rfl, rfl⟩
  case round =>
    rcases hrel with ⟨rfl, rfl, rfl⟩ | ⟨rfl, rfl, h1, h2⟩
    · go_wp2
      go_region
      all_goals go_wp2
      all_goals go_roundw
      case rel =>
        right
        refine ⟨rfl, rfl, ?_, ?_⟩
        · have := ((h.set1 0 y (.int .i64 y) rfl).set1 1 x (.int .i64 x) rfl).drew
          simpa using this
        · have t1 : ∀ (w : World) (i : Nat) (u : Value), Turned [g] w (w.setCell ⟨g, i, none⟩ u) := fun w i u => Turned.ofGrown (grown_setCell w g i u) (fun g hg => by injection hg with hg; simp [hg])
          exact Turned.drew ((t1 _ _ _).trans (t1 _ _ _) (fun k hk => .inl hk))
      case measure => simp [intOf]
    · go_wp2
      go_end0
      exact ⟨rfl, h1, h2⟩

def ReadsPost (w : World) (x : OpD) (e : Ending) (w' : World) : Prop := ∃ a c, e = .returned (.slice a (readsL x).length c) ∧ Own w' w.heap.size 3 a c (readsL x) ∧ Below w.heap.size w w'
theorem reads_no {x : OpD} (h : aOf x.kind = false) : readsL x = [] := by simp [readsL, h]
set_option maxHeartbeats 1600000 in
theorem Reads_calls (x : OpD) (w : World) : Calls Tryz.prog 199 #[.agg #[.int .i64 x.kind, .int .i64 x.d, .int .i64 x.a, .int .i64 x.b, .int .u64 (x.v.toNat : Int)]] w (ReadsPost w x) := by
  obtain ⟨k, rd, ra, rb, v⟩ := x
  simp only
  have h0 : Own (w.alloc (.cells #[.int .i64 k, .int .i64 rd, .int .i64 ra, .int .i64 rb, .int .u64 (v.toNat : Int)] 89)) w.heap.size 3 none 0 ([] : List Int) := Own.none _ _ _
  rcases kind8 k with h | rfl | rfl | rfl | rfl | rfl | rfl | rfl | rfl | h
  case inl =>
    obtain ⟨h0, h1, h2, h3, h4, h5, h6, h7⟩ := kind_no (.inl h)
    obtain ⟨e1, e2, e3, e4⟩ := asks_no (.inl h)
    have HE := hide (reads_no (x := ⟨k, rd, ra, rb, v⟩) e2)
    clear e1 e2 e3 e4
    go_enter Tryz.func199, Tryz.ntmps199
    go_wp2_with (go_at_call 207; ((with_reducible refine (Rev1_calls none 0 0 _ (by omega)).mono ?_); rintro e w1 ⟨rfl, rfl⟩))
    go_ret
    unfold ReadsPost
    rw [HE.out]
    exact ⟨_, _, rfl, Own.none _ _ _, (by with_reducible repeat first | exact Below.refl _ _ | assumption | refine below_drewN ?_ _ | refine Below.drew ?_ | refine Below.alloc ?_ (by simp <;> omega) _ | refine Below.setCell ?_ (by simp <;> omega) _)⟩
  case inr.inr.inr.inr.inr.inr.inr.inr.inr =>
    obtain ⟨h0, h1, h2, h3, h4, h5, h6, h7⟩ := kind_no (.inr h)
    obtain ⟨e1, e2, e3, e4⟩ := asks_no (.inr h)
    have HE := hide (reads_no (x := ⟨k, rd, ra, rb, v⟩) e2)
    clear e1 e2 e3 e4
    go_enter Tryz.func199, Tryz.ntmps199
    go_wp2_with (go_at_call 207; ((with_reducible refine (Rev1_calls none 0 0 _ (by omega)).mono ?_); rintro e w1 ⟨rfl, rfl⟩))
    go_ret
    unfold ReadsPost
    rw [HE.out]
    exact ⟨_, _, rfl, Own.none _ _ _, (by with_reducible repeat first | exact Below.refl _ _ | assumption | refine below_drewN ?_ _ | refine Below.drew ?_ | refine Below.alloc ?_ (by simp <;> omega) _ | refine Below.setCell ?_ (by simp <;> omega) _)⟩
  case inr.inl | inr.inr.inr.inr.inr.inr.inl | inr.inr.inr.inr.inr.inr.inr.inr.inl =>
    go_enter Tryz.func199, Tryz.ntmps199
    go_wp2_with (go_at_call 207; ((with_reducible refine (Rev1_calls none 0 0 _ (by omega)).mono ?_); rintro e w1 ⟨rfl, rfl⟩))
    go_ret
    unfold ReadsPost
    exact ⟨_, _, rfl, Own.none _ _ _, (by with_reducible repeat first | exact Below.refl _ _ | assumption | refine below_drewN ?_ _ | refine Below.drew ?_ | refine Below.alloc ?_ (by simp <;> omega) _ | refine Below.setCell ?_ (by simp <;> omega) _)⟩
  case inr.inr.inr.inr.inr.inl | inr.inr.inr.inr.inr.inr.inr.inl =>
    go_enter Tryz.func199, Tryz.ntmps199
    go_wp2_with (first
      | (at_builtin; refine wpList_push tyI h0 ra rfl rfl rfl rfl rfl (by simp) rfl (by simp) (by omega) ?_; intro a1 c1 w1 own1 hg1 hm1)
      | (go_at_call 207; ((with_reducible refine (Rev1_calls _ _ _ _ (by omega)).mono ?_); rintro e w2 ⟨rfl, rfl⟩)))
    go_ret
    unfold ReadsPost
    exact ⟨_, _, rfl, own1, (Below.alloc (Below.refl _ _) (Nat.le_refl _) _).trans ((below_of_grown hg1).mono (by simp))⟩
  all_goals
    go_enter Tryz.func199, Tryz.ntmps199
    go_wp2_with (first
      | (at_builtin; refine wpList_push tyI h0 rb rfl rfl rfl rfl rfl (by simp) rfl (by simp) (by omega) ?_; intro a1 c1 w1 own1 hg1 hm1; clear h0; obtain ⟨x0, x1, x2, x3, x4, y0, y1, y2, y3, y4⟩ := ((Blk.new w 89 _).grown hg1 (by simp)).c5; have hB1 : Below w.heap.size w w1 := (Below.alloc (Below.refl _ _) (Nat.le_refl _) _).trans ((below_of_grown hg1).mono (by simp)); have hz1 := hB1.size)
      | (at_builtin; refine wpList_push tyI own1 ra rfl rfl rfl rfl rfl (by simp) rfl hz1 (by omega) ?_; intro a2 c2 w2 own2 hg2 hm2; obtain ⟨g, rfl, hg3, hg4⟩ := own2.some_ (by simp); have hB2 := below_push hB1 own1 hg2 hz1; clear own1)
      | (go_at_call 207; ((with_reducible refine (Rev2_calls g _ _ _ _ _ own2).mono ?_); rintro e w3 ⟨rfl, own3, hT3⟩)))
    go_ret
    unfold ReadsPost
    exact ⟨_, _, rfl, own3, hT3.below hB2 (by simpa using hg3) hB2.size⟩

theorem u64_wrap (n : Int) : IntKind.u64.wrap n = n % 18446744073709551616 := by simp [IntKind.wrap, IntKind.signed, IntKind.bits]
theorem u64_add (a b : UInt64) : IntKind.u64.wrap ((a.toNat : Int) + (b.toNat : Int)) = ((a + b).toNat : Int) := by
  rw [u64_wrap, UInt64.toNat_add]; omega
theorem u64_sub (a b : UInt64) : IntKind.u64.wrap ((a.toNat : Int) - (b.toNat : Int)) = ((a - b).toNat : Int) := by
  have ha := a.toNat_lt
  have hb := b.toNat_lt
  rw [u64_wrap, UInt64.toNat_sub]; omega
theorem u64_mul (a b : UInt64) : IntKind.u64.wrap ((a.toNat : Int) * (b.toNat : Int)) = ((a * b).toNat : Int) := by
  rw [u64_wrap, UInt64.toNat_mul, ← Int.natCast_mul]; omega
theorem u64_neg (a : UInt64) : IntKind.u64.wrap (-(a.toNat : Int)) = ((0 - a).toNat : Int) := by
  have ha := a.toNat_lt
  have := u64_sub 0 a
  rw [← this, u64_wrap, u64_wrap]; simp
theorem ret_u {a b : Int} (h : a = b) : Ending.returned (.int .u64 a) = .returned (.int .u64 b) := by rw [h]
theorem apply_no {x : OpD} (a b : UInt64) (h : x.kind < 0 ∨ 7 < x.kind) : applyU x a b = 0 := by
  unfold applyU
  rw [if_neg (by omega), if_neg (by omega), if_neg (by omega), if_neg (by omega), if_neg (by omega), if_neg (by omega)]

theorem Apply_calls (x : OpD) (a b : UInt64) (w : World) : Calls Tryz.prog 114 #[.agg #[.int .i64 x.kind, .int .i64 x.d, .int .i64 x.a, .int .i64 x.b, .int .u64 (x.v.toNat : Int)], .int .u64 (a.toNat : Int), .int .u64 (b.toNat : Int)] w fun e w' => e = .returned (.int .u64 ((applyU x a b).toNat : Int)) ∧ Below w.heap.size w w' := by
  obtain ⟨k, rd, ra, rb, v⟩ := x
  simp only
  rcases kind8 k with h | rfl | rfl | rfl | rfl | rfl | rfl | rfl | rfl | h
  case inl =>
    obtain ⟨h0, h1, h2, h3, h4, h5, h6, h7⟩ := kind_no (.inl h)
    go_enter Tryz.func114, Tryz.ntmps114
    go_wp2
    go_ret
    exact ⟨ret_u (by rw [apply_no a b (.inl h)]; rfl), (by with_reducible repeat first | exact Below.refl _ _ | assumption | refine below_drewN ?_ _ | refine Below.drew ?_ | refine Below.alloc ?_ (by simp <;> omega) _ | refine Below.setCell ?_ (by simp <;> omega) _)⟩
  case inr.inr.inr.inr.inr.inr.inr.inr.inr =>
    obtain ⟨h0, h1, h2, h3, h4, h5, h6, h7⟩ := kind_no (.inr h)
    go_enter Tryz.func114, Tryz.ntmps114
    go_wp2
    go_ret
    exact ⟨ret_u (by rw [apply_no a b (.inr h)]; rfl), (by with_reducible repeat first | exact Below.refl _ _ | assumption | refine below_drewN ?_ _ | refine Below.drew ?_ | refine Below.alloc ?_ (by simp <;> omega) _ | refine Below.setCell ?_ (by simp <;> omega) _)⟩
  all_goals
    go_enter Tryz.func114, Tryz.ntmps114
    go_wp2
    go_ret
    first
      | exact ⟨ret_u (by simp only [applyU]; first | rfl | exact u64_add a b | exact u64_sub a b | exact u64_mul a b | exact u64_neg a), (by with_reducible repeat first | exact Below.refl _ _ | assumption | refine below_drewN ?_ _ | refine Below.drew ?_ | refine Below.alloc ?_ (by simp <;> omega) _ | refine Below.setCell ?_ (by simp <;> omega) _)⟩
      | trace_state
end Go.Proofs.YtcamcnahkdiefaaGreat

/- Chapter 7, the document's answers: what a kind asks for, whether an operation is one. -/
namespace Go.Proofs.YtcamcnahkdiefaaGreat
set_option linter.unusedVariables false
set_option linter.unusedSimpArgs false
open Go.RowKit

theorem Asks_calls (k : Int) (w : World) : Calls Tryz.prog 143 #[.int .i64 k] w fun e w' => e = .returned (.agg #[.bool (dOf k), .bool (aOf k), .bool (bOf k), .bool (vOf k)]) ∧ Below w.heap.size w w' := by
  rcases kind8 k with h | rfl | rfl | rfl | rfl | rfl | rfl | rfl | rfl | h
  case inl =>
    obtain ⟨h0, h1, h2, h3, h4, h5, h6, h7⟩ := kind_no (.inl h)
    obtain ⟨e1, e2, e3, e4⟩ := asks_no (.inl h)
    rw [e1, e2, e3, e4]
    clear e1 e2 e3 e4
    have h8 : ¬ (1 ≤ k) := by omega
    go_enter Tryz.func143, Tryz.ntmps143
    go_wp2
    exact bodyPost_ret (v := .agg #[.bool false, .bool false, .bool false, .bool false]) (by simp [results, Tryz.results143, go_sem]) rfl ⟨rfl, (by with_reducible repeat first | exact Below.refl _ _ | assumption | refine below_drewN ?_ _ | refine Below.drew ?_ | refine Below.alloc ?_ (by simp <;> omega) _ | refine Below.setCell ?_ (by simp <;> omega) _)⟩
  case inr.inr.inr.inr.inr.inr.inr.inr.inr =>
    obtain ⟨h0, h1, h2, h3, h4, h5, h6, h7⟩ := kind_no (.inr h)
    obtain ⟨e1, e2, e3, e4⟩ := asks_no (.inr h)
    rw [e1, e2, e3, e4]
    clear e1 e2 e3 e4
    have h8 : 1 ≤ k := by omega
    have h9 : ¬ (k ≤ 3) := by omega
    go_enter Tryz.func143, Tryz.ntmps143
    go_wp2
    exact bodyPost_ret (v := .agg #[.bool false, .bool false, .bool false, .bool false]) (by simp [results, Tryz.results143, go_sem]) rfl ⟨rfl, (by with_reducible repeat first | exact Below.refl _ _ | assumption | refine below_drewN ?_ _ | refine Below.drew ?_ | refine Below.alloc ?_ (by simp <;> omega) _ | refine Below.setCell ?_ (by simp <;> omega) _)⟩
  all_goals
    go_enter Tryz.func143, Tryz.ntmps143
    go_wp2
    first
      | exact bodyPost_ret (v := .agg #[.bool false, .bool false, .bool false, .bool false]) (by simp [results, Tryz.results143, go_sem]) rfl ⟨rfl, (by with_reducible repeat first | exact Below.refl _ _ | assumption | refine below_drewN ?_ _ | refine Below.drew ?_ | refine Below.alloc ?_ (by simp <;> omega) _ | refine Below.setCell ?_ (by simp <;> omega) _)⟩
      | exact bodyPost_ret (v := .agg #[.bool true, .bool true, .bool true, .bool false]) (by simp [results, Tryz.results143, go_sem]) rfl ⟨rfl, (by with_reducible repeat first | exact Below.refl _ _ | assumption | refine below_drewN ?_ _ | refine Below.drew ?_ | refine Below.alloc ?_ (by simp <;> omega) _ | refine Below.setCell ?_ (by simp <;> omega) _)⟩
      | exact bodyPost_ret (v := .agg #[.bool true, .bool true, .bool false, .bool false]) (by simp [results, Tryz.results143, go_sem]) rfl ⟨rfl, (by with_reducible repeat first | exact Below.refl _ _ | assumption | refine below_drewN ?_ _ | refine Below.drew ?_ | refine Below.alloc ?_ (by simp <;> omega) _ | refine Below.setCell ?_ (by simp <;> omega) _)⟩
      | exact bodyPost_ret (v := .agg #[.bool true, .bool false, .bool false, .bool true]) (by simp [results, Tryz.results143, go_sem]) rfl ⟨rfl, (by with_reducible repeat first | exact Below.refl _ _ | assumption | refine below_drewN ?_ _ | refine Below.drew ?_ | refine Below.alloc ?_ (by simp <;> omega) _ | refine Below.setCell ?_ (by simp <;> omega) _)⟩
      | exact bodyPost_ret (v := .agg #[.bool false, .bool false, .bool false, .bool true]) (by simp [results, Tryz.results143, go_sem]) rfl ⟨rfl, (by with_reducible repeat first | exact Below.refl _ _ | assumption | refine below_drewN ?_ _ | refine Below.drew ?_ | refine Below.alloc ?_ (by simp <;> omega) _ | refine Below.setCell ?_ (by simp <;> omega) _)⟩
theorem idx_d (a b c d : Bool) (w : World) : (Instr.index 221 (.agg #[.bool a, .bool b, .bool c, .bool d]) (.int .i64 0)).run Tryz.prog w = .ok (.bool a) w := by kernel_rfl

theorem wpList_idx {ops : Array Oper} {rest : List Oper} {o : Oper} {act : Act} {Q : Exit → Act → World → Prop} {w : World} (x i : Operand) (hgd : o.guard = none) (ho : o.op = .index 221 x i) (a b c d : Bool)
    (hx : act.eval x = .agg #[.bool a, .bool b, .bool c, .bool d]) (hi : act.eval i = .int .i64 0) (h : wpList Tryz.prog ops Q rest (act.put o.dst (.bool a)) w) : wpList Tryz.prog ops Q (o :: rest) act w := by
  refine wpList_plain hgd fun K hK => ?_
  unfold Oper.wp execOp
  simp only [ho, hx, hi, Sem.run_bind, idx_d, Result.andThen_ok, Sem.run_pure]
  exact hK _ _ h
end Go.Proofs.YtcamcnahkdiefaaGreat

/- Chapter 1, the document's answers: sums, negatives, products of words. -/
namespace Go.Proofs.YtcamcnahkdiefaaGreat
set_option linter.unusedVariables false
set_option linter.unusedSimpArgs false
open Go.RowKit

def cellsD (D : List Nat) : Array Value := (D.map fun (x : Nat) => Value.int .i64 (x : Int)).toArray
theorem cellsD_get {D : List Nat} {k x : Nat} (h : D[k]? = some x) : (cellsD D)[k]? = some (.int .i64 (x : Int)) := by simp [cellsD, h]
theorem cellsD_set (D : List Nat) (k x : Nat) : (cellsD D).setIfInBounds k (.int .i64 (x : Int)) = cellsD (D.set k x) := by
  unfold cellsD
  simp [List.map_set]
def Dig (w : World) (g : Nat) (D : List Nat) : Prop := Blk w g 213 (cellsD D) ∧ D.length = 8
theorem Dig.at_ {w : World} {g : Nat} {D : List Nat} (h : Dig w g D) {k : Nat} (hk : k < 8) : ∃ x, Hid (D[k]? = some x) ∧ w.cell? ⟨g, k, none⟩ = some (.int .i64 (x : Int)) ∧ w.frozen? ⟨g, k, none⟩ = false := by
  have hl : k < D.length := by rw [h.2]; exact hk
  exact ⟨D[k], List.getElem?_eq_getElem hl, h.1.cell_ (cellsD_get (List.getElem?_eq_getElem hl)), h.1.frozen k⟩
theorem Dig.set_ {w : World} {g : Nat} {D : List Nat} (h : Dig w g D) (k x : Nat) : Dig (w.setCell ⟨g, k, none⟩ (.int .i64 (x : Int))) g (D.set k x) :=
  ⟨by rw [← cellsD_set]; exact h.1.set_ k _, by simp [h.2]⟩
theorem Dig.far {w : World} {g : Nat} {D : List Nat} (h : Dig w g D) {p : Addr} (hp : g ≠ p.block) (u : Value) : Dig (w.setCell p u) g D := ⟨h.1.far hp u, h.2⟩
theorem Dig.belowN {w w' : World} {g : Nat} {D : List Nat} (h : Dig w g D) (hb : Below w.heap.size w w') : Dig w' g D := ⟨h.1.belowN hb, h.2⟩
theorem Dig.drewN {w : World} {g : Nat} {D : List Nat} (h : Dig w g D) (n : Nat) : Dig (w.drewN n) g D := h
theorem Dig.zero (w : World) : Dig (w.alloc (.cells #[.int .i64 0, .int .i64 0, .int .i64 0, .int .i64 0, .int .i64 0, .int .i64 0, .int .i64 0, .int .i64 0] 213)) w.heap.size [0, 0, 0, 0, 0, 0, 0, 0] := ⟨Blk.new w _ _, rfl⟩
end Go.Proofs.YtcamcnahkdiefaaGreat

/- Chapter 7, the document's answers: what an operation makes of numbers. -/
namespace Go.Proofs.YtcamcnahkdiefaaGreat
set_option linter.unusedVariables false
set_option linter.unusedSimpArgs false
open Go.RowKit
end Go.Proofs.YtcamcnahkdiefaaGreat

/- Several texts of mine in one file: N8e, N8g, N8h. -/
/- Chapter 8: Around. -/
namespace Go.Proofs.YtcamcnahkdiefaaGreat
set_option linter.unusedVariables false
set_option linter.unusedSimpArgs false
open Go.RowKit

end Go.Proofs.YtcamcnahkdiefaaGreat

/- Chapter 8, the document's answers: Well, height, Match. -/
namespace Go.Proofs.YtcamcnahkdiefaaGreat
set_option linter.unusedVariables false
set_option linter.unusedSimpArgs false
open Go.RowKit

theorem kind_cases (x : OpD) : (x.kind = 7 ∧ (x.kind == 7) = true ∧ (x.kind == 0) = false) ∨ (x.kind = 0 ∧ (x.kind == 7) = false ∧ (x.kind == 0) = true) ∨ (x.kind ≠ 7 ∧ x.kind ≠ 0 ∧ (x.kind == 7) = false ∧ (x.kind == 0) = false) := by
  by_cases h7 : x.kind = 7
  · left; simp [h7]
  · by_cases h0 : x.kind = 0
    · right; left; simp [h0]
    · right; right; simp [h7, h0]

set_option maxRecDepth 100000 in
set_option maxHeartbeats 800000 in
theorem Well8_calls (a : Option Addr) (c : Nat) (l : List OpD) (w : World) (h : At w a l) (hl : l.length ≤ 1000000) :
    Calls Tryz.prog 131 #[.slice a l.length c] w fun e w' => e = .returned (.bool (well l)) ∧ w = w' := by
  obtain ⟨R, hR⟩ : ∃ R, R = well l := ⟨_, rfl⟩
  rw [← hR]
  have HR := hide hR
  clear hR
  go_enter Tryz.func131, Tryz.ntmps131
  go_wp2
  go_loopw [3, 4] (fun nv i wr => ∃ (k n : Nat), i = .int .i64 k ∧ nv = .int .i64 n ∧ k ≤ l.length ∧ n ≤ k ∧ Hid (R = wellF n (l.drop k)) ∧ w = wr) (fun _ i _ => l.length - (intOf i).toNat)
  case atStart => exact ⟨0, 0, rfl, rfl, by omega, by omega, HR.out, rfl⟩
  case round =>
    obtain ⟨k, n, rfl, rfl, hk, hnk, hRk, rfl⟩ := hrel
    by_cases hlt : k < l.length
    · obtain ⟨b1, off1, x, rfl, hx, x0, x1, x2, x3, x4⟩ := h.getOp (Below.refl _ _) hlt
      have hstep : R = if x.kind < 0 ∨ 7 < x.kind then false else if x.kind = 7 then wellF (n + 1) (l.drop (k + 1)) else if x.kind = 0 then (if n = 0 then false else wellF (n - 1) (l.drop (k + 1))) else wellF n (l.drop (k + 1)) := by
        rw [hRk.out, drop_at hx.out]; rfl
      have HS := hide hstep
      clear hstep hRk
      by_cases hk1 : x.kind < 0
      · have e : R = false := by rw [HS.out, if_pos (by omega)]
        have E := hide e
        clear e
        go_wp2
        go_ret
        exact ⟨by rw [E.out]; rfl, rfl⟩
      by_cases hk2 : 7 < x.kind
      · have e : R = false := by rw [HS.out, if_pos (by omega)]
        have E := hide e
        clear e
        go_wp2
        go_ret
        exact ⟨by rw [E.out]; rfl, rfl⟩
      rcases kind_cases x with ⟨k7, b7, b0⟩ | ⟨k0, b7, b0⟩ | ⟨k7, k0, b7, b0⟩
      · have e : R = wellF (n + 1) (l.drop (k + 1)) := by rw [HS.out, if_neg (by omega), if_pos k7]
        have E := hide e
        clear e k7
        go_wp2
        go_roundw
        case rel => exact ⟨k + 1, n + 1, by go_num, by go_num, by omega, by omega, E.out, by trivial⟩
        case measure => simp [intOf]; omega
      · by_cases hn0 : n = 0
        · have e : R = false := by rw [HS.out, if_neg (by omega), if_neg (by omega), if_pos k0, if_pos hn0]
          have E := hide e
          clear e k0
          subst hn0
          go_wp2
          go_ret
          exact ⟨by rw [E.out]; rfl, rfl⟩
        · have e : R = wellF (n - 1) (l.drop (k + 1)) := by rw [HS.out, if_neg (by omega), if_neg (by omega), if_pos k0, if_neg hn0]
          have E := hide e
          have hn1 : 0 < n := by omega
          clear e k0 hn0
          go_wp2
          go_roundw
          case rel => exact ⟨k + 1, n - 1, by go_num, by go_num, by omega, by omega, E.out, by trivial⟩
          case measure => simp [intOf]; omega
      · have e : R = wellF n (l.drop (k + 1)) := by rw [HS.out, if_neg (by omega), if_neg (by omega), if_neg k0]
        have E := hide e
        clear e k7 k0
        go_wp2
        go_roundw
        case rel => exact ⟨k + 1, n, by go_num, rfl, by omega, by omega, E.out, by trivial⟩
        case measure => simp [intOf]; omega
    · have hd : l.drop k = [] := List.drop_eq_nil_of_le (by omega)
      have e : R = (n == 0) := by rw [hRk.out, hd]; rfl
      have E := hide e
      clear e hd
      have hnn : n = 0 ∨ 0 < n := by omega
      rcases hnn with rfl | hnn
      · go_wp2
        go_ret
        exact ⟨by rw [E.out]; rfl, rfl⟩
      · have hb : ((n : Int) == 0) = false := by simp; omega
        go_wp2
        go_ret
        exact ⟨by rw [E.out]; simp; omega, rfl⟩

theorem hI_le (n : Int) (l : List OpD) : hI n l ≤ n + l.length ∧ n - l.length ≤ hI n l := by
  induction l generalizing n with
  | nil => simp [hI]
  | cons x r ih =>
    simp only [hI, List.length_cons]
    have := ih (if x.kind = 7 then n + 1 else if x.kind = 0 then n - 1 else n)
    by_cases h7 : x.kind = 7
    · simp only [if_pos h7] at this ⊢; omega
    · by_cases h0 : x.kind = 0
      · simp only [if_neg h7, if_pos h0] at this ⊢; omega
      · simp only [if_neg h7, if_neg h0] at this ⊢; omega
def hgt (l : List OpD) (k : Nat) : Int := hI 0 (l.take k)
def Match8Post (w : World) (l : List OpD) (e : Ending) (w' : World) : Prop :=
  ∃ a c, e = .returned (.tuple #[.slice a (matchS l).1.length c, .int .i64 (matchS l).2]) ∧ Own w' w.heap.size 3 a c (matchS l).1 ∧ Below w.heap.size w w'
def rAt (l : List OpD) (k : Nat) : List Int := rF 0 (List.replicate l.length (-1)) (l.take k) ((matchL l).take k)
theorem matchL_length (l : List OpD) : (matchL l).length = l.length := by unfold matchL; rw [mF_length]; simp
theorem rAt_length (l : List OpD) (k : Nat) : (rAt l k).length = l.length := by unfold rAt; rw [rF_length]; simp
theorem rAt_succ (l : List OpD) (k : Nat) (x : OpD) (m : Int) (h : l[k]? = some x) (hm : (matchL l)[k]? = some m) : rAt l (k + 1) = if x.kind = 7 then ((rAt l k).set k m).set m.toNat k else rAt l k := by
  have hk : k < l.length := (List.getElem?_eq_some_iff.1 h).1
  unfold rAt
  rw [List.take_add_one, List.take_add_one, h, hm, rF_append _ _ _ _ _ _ (by simp [matchL_length])]
  simp only [Option.toList, rF, List.length_take, Nat.zero_add, Nat.min_eq_left (Nat.le_of_lt hk)]
theorem rAt_end (l : List OpD) (h : well l = true) : rAt l l.length = matchL l := by
  obtain ⟨f, hf, rfl⟩ := forest_of_well l h
  unfold rAt
  rw [List.take_length, show f.flat.length = (matchL f.flat).length from (matchL_length _).symm, List.take_length, matchL_length, matchL_flat f hf]
  have := rF_flat f hf 0 [] [] rfl
  simpa [Fo.size] using this
theorem at_rep_well (l : List OpD) (h : well l = true) (j : Nat) (x : OpD) (hx : l[j]? = some x) (h7 : x.kind = 7) :
    ∃ (b : Fo) (fin : OpD), b.ok ∧ fin.kind = 0 ∧ (∀ i, i < b.flat.length → l[j + 1 + i]? = b.flat[i]?) ∧ l[j + 1 + b.flat.length]? = some fin ∧ (matchL l)[j]? = some ((j + b.flat.length + 1 : Nat) : Int) ∧ j + b.flat.length + 1 < l.length := by
  obtain ⟨f, hf, rfl⟩ := forest_of_well l h
  obtain ⟨b, fin, pre, rest, h1, h2, h3, h4, h5⟩ := at_rep f hf 0 j x hx h7
  refine ⟨b, fin, h1, h2, ?_, ?_, ?_, ?_⟩
  · intro i hi
    rw [h3, List.getElem?_append_right (by omega), show j + 1 + i - pre.length = i + 1 by omega, List.getElem?_cons_succ, List.getElem?_append_left hi]
  · rw [h3, List.getElem?_append_right (by omega), show j + 1 + b.flat.length - pre.length = b.flat.length + 1 by omega, List.getElem?_cons_succ, List.getElem?_append_right (by omega)]
    simp
  · rw [matchL_flat f hf, h5]; simp [Fo.size]
  · rw [h3]; simp; omega

set_option maxRecDepth 100000 in
set_option maxHeartbeats 1600000 in
theorem Match8_calls (a : Option Addr) (c : Nat) (l : List OpD) (w : World) (h : At w a l) (hl : l.length ≤ 1000000) :
    Calls Tryz.prog 89 #[.slice a l.length c] w (Match8Post w l) := by
  have haw : l ≠ [] → ∀ g, a.map (·.block) = some g → g < w.heap.size := by
    intro h0 g hg
    obtain ⟨b, off, rfl, hlt⟩ := h.lt h0
    simp at hg
    omega
  have HAW := hide haw
  obtain ⟨Wl, hWl⟩ : ∃ b, b = well l := ⟨_, rfl⟩
  have HWL := hide hWl
  clear haw hWl
  have hcase : Wl = true ∨ Wl = false := by cases Wl <;> simp
  rcases hcase with rfl | rfl
  rotate_left
  · go_enter Tryz.func89, Tryz.ntmps89
    go_wp2_with (go_at_call 131; refine (Well8_calls a c l _ h hl).mono ?_; rintro e w1 ⟨rfl, rfl⟩; rw [← HWL.out])
    go_ret2
    unfold Match8Post
    have e : matchS l = ([], 6) := by unfold matchS; rw [← HWL.out]; rfl
    rw [e]
    exact ⟨none, 0, rfl, Own.none _ _ _, Below.refl _ _⟩
  · go_enter Tryz.func89, Tryz.ntmps89
    go_wp2_with (go_at_call 131; refine (Well8_calls a c l _ h hl).mono ?_; rintro e w1 ⟨rfl, rfl⟩; rw [← HWL.out])
    go_loopw [4, 5] (fun out i wr => ∃ (k : Nat) (ao : Option Addr) (co : Nat), i = .int .i64 k ∧ out = .slice ao k co ∧ k ≤ l.length ∧ Own wr w.heap.size 3 ao co (List.replicate k (-1 : Int)) ∧ Below w.heap.size w wr) (fun _ i _ => l.length - (intOf i).toNat)
    case atStart => exact ⟨0, _, 0, rfl, rfl, by omega, Own.new _ (Nat.le_refl _) _ _, Below.alloc (Below.refl _ _) (Nat.le_refl _) _⟩
    case round =>
      obtain ⟨k, ao, co, rfl, rfl, hk, hown, hbel⟩ := hrel
      have hsz := hbel.size
      by_cases hlt : k < l.length
      · go_wp2_with (at_builtin; go_loud (refine wpList_push tyI hown (-1 : Int) rfl rfl rfl rfl rfl rfl (by simp) hsz (by first | omega | (simp; omega)) ?_); intro a2 c2 w2 hown2 hg2 _)
        have e : List.replicate k (-1 : Int) ++ [-1] = List.replicate (k + 1) (-1) := by rw [List.replicate_succ']
        rw [e] at hown2
        have E := hide e
        clear e
        go_roundw
        case rel => exact ⟨k + 1, a2, c2, by go_num, by simp, by omega, hown2, below_push hbel hown hg2 hsz⟩
        case measure => simp [intOf]; omega
      · have e : k = l.length := by omega
        subst e
        have e0 : List.replicate l.length (-1 : Int) = rAt l 0 := by simp [rAt, rF]
        rw [e0] at hown
        clear e0
        go_wp2
        go_loopw [6] (fun i w5 => ∃ (k : Nat), i = .int .i64 k ∧ k ≤ l.length ∧ Own w5 w.heap.size 3 ao co (rAt l k) ∧ Below w.heap.size w w5) (fun i _ => l.length - (intOf i).toNat)
        case atStart => exact ⟨0, rfl, by omega, hown, hbel⟩
        case round =>
          clear hown hbel hsz hk hlt
          obtain ⟨k, rfl, hk, hown, hbel⟩ := hrel
          obtain ⟨w5, rfl⟩ : ∃ w5, w5 = wr := ⟨_, rfl⟩
          have hsz := hbel.size
          by_cases hlt : k < l.length
          · obtain ⟨b1, off1, x, rfl, hx, x0, x1, x2, x3, x4⟩ := h.getOp hbel hlt
            by_cases k7 : x.kind = 7
            · have b7 : (x.kind == 7) = true := by simp [k7]
              obtain ⟨b, fin, hb1, hb2, hb3, hb4, hb5, hb6⟩ := at_rep_well l HWL.out.symm k x hx.out k7
              have hr := rAt_succ l k x _ hx.out hb5
              rw [if_pos k7, Int.toNat_natCast] at hr
              have HR := hide hr
              have HB1 := hide hb1
              have HB5 := hide hb5
              have hL : ∀ i, i ≤ b.flat.length → l[k + 1 + i]? = (b.flat ++ [fin])[i]? := by
                intro i hi
                by_cases hii : i < b.flat.length
                · rw [hb3 i hii, List.getElem?_append_left hii]
                · have : i = b.flat.length := by omega
                  subst this
                  rw [hb4, List.getElem?_append_right (by omega)]
                  simp
              have HL := hide hL
              obtain ⟨S, hS⟩ : ∃ S, S = b.flat.length := ⟨_, rfl⟩
              obtain ⟨C, hC⟩ : ∃ C : Nat → Int, C = fun j => hI 1 ((b.flat ++ [fin]).take j) := ⟨_, rfl⟩
              have hC0 : C 0 = 1 := by rw [hC]; rfl
              have hCS : C (S + 1) = 0 := by
                rw [hC, hS]
                show hI 1 ((b.flat ++ [fin]).take (b.flat.length + 1)) = 0
                rw [List.take_of_length_le (by simp), hI_append, hI_flat b hb1]
                simp [hI, hb2]
              have hCle : ∀ j, C j ≤ j + 1 := fun j => by
                rw [hC]
                have := (hI_le 1 ((b.flat ++ [fin]).take j)).1
                simp only [List.length_take] at this
                show hI 1 ((b.flat ++ [fin]).take j) ≤ _
                omega
              have hCge : ∀ j, j ≤ S → 1 ≤ C j := fun j hj => by
                rw [hC]
                show 1 ≤ hI 1 ((b.flat ++ [fin]).take j)
                rw [List.take_append_of_le_length (by omega)]
                exact hI_ge b hb1 1 j
              have hCs : ∀ j y, l[k + 1 + j]? = some y → j ≤ S → C (j + 1) = if y.kind = 7 then C j + 1 else if y.kind = 0 then C j - 1 else C j := fun j y hy hj => by
                rw [HL.out j (by omega)] at hy
                rw [hC]
                show hI 1 ((b.flat ++ [fin]).take (j + 1)) = _
                rw [List.take_add_one, hy, hI_append]
                rfl
              rw [← hS] at hb6 HR
              have HCS := hide hCS
              have HCge := hide hCge
              have HCle := hide hCle
              have HCs := hide hCs
              have HC0 := hide hC0
              have hne : rAt l k ≠ [] := by intro e; have := rAt_length l k; rw [e] at this; simp at this; omega
              obtain ⟨g, rfl, hg1, hg2⟩ := hown.some_ hne
              have hfk := hown.frozen k
              have hcap := hown.cap
              rw [rAt_length] at hcap
              obtain ⟨hcap1, hcap2⟩ := hcap
              have hat5 := h.belowN hbel
              clear hb1 hb2 hb3 hb4 hb5 hL hS hC hCS hCle hCge hCs hC0 k7 hr hne hx
              go_wp2
              go_loopw [7, 8] (fun nv kv w9 => ∃ j q : Nat, kv = .int .i64 (q : Int) ∧ q ≤ k + j ∧ k + j ≤ q ∧ nv = .int .i64 (C j) ∧ j ≤ S + 1 ∧ w5 = w9) (fun _ kv _ => k + S + 1 - (intOf kv).toNat)
              case atStart => exact ⟨0, k, rfl, by omega, by omega, by rw [HC0.out], by omega, by trivial⟩
              case round =>
                obtain ⟨j, q, rfl, hq1, hq2, rfl, hj, rfl⟩ := hrel
                by_cases hjS : j ≤ S
                · have hc1 := HCge.out j hjS
                  have hc2 := HCle.out j
                  obtain ⟨b2, off2, y, e2, hy, y0, y1, y2, y3, y4⟩ := hat5.getOp (Below.refl _ _) (show q + 1 < l.length by omega)
                  injection e2 with e2
                  injection e2 with e2 e3
                  subst e2
                  subst e3
                  have hs := HCs.out j y (by have := hy.out; rwa [show q + 1 = k + 1 + j by omega] at this) hjS
                  have HS := hide hs
                  clear hs hy
                  rcases kind_cases y with ⟨q7, c7, c0⟩ | ⟨q0, c7, c0⟩ | ⟨q7, q0, c7, c0⟩
                  · have E := hide (HS.out.trans (if_pos q7))
                    clear q7 HS
                    go_wp2
                    go_roundw
                    case rel => exact ⟨j + 1, q + 1, by go_num, by omega, by omega, by rw [E.out], by omega, by trivial⟩
                    case measure => simp [intOf]; omega
                  · have E := hide (HS.out.trans ((if_neg (by omega)).trans (if_pos q0)))
                    clear q0 HS
                    go_wp2
                    go_roundw
                    case rel => exact ⟨j + 1, q + 1, by go_num, by omega, by omega, by rw [E.out], by omega, by trivial⟩
                    case measure => simp [intOf]; omega
                  · have E := hide (HS.out.trans ((if_neg q7).trans (if_neg q0)))
                    clear q7 q0 HS
                    go_wp2
                    go_roundw
                    case rel => exact ⟨j + 1, q + 1, by go_num, by omega, by omega, by rw [E.out], by omega, by trivial⟩
                    case measure => simp [intOf]; omega
                · have e : j = S + 1 := by omega
                  subst e
                  have hc := HCS.out
                  have hql : q < l.length := by omega
                  have hfq := hown.frozen q
                  obtain ⟨y1, v1, hy1, hy2, hy3⟩ := hown.cell1 (i := k) (by rw [rAt_length]; omega) rfl
                  obtain ⟨y2, v2, hz1, hz2, hz3⟩ := hown.cell1 (i := q) (by rw [rAt_length]; omega) rfl
                  have hkq1 : k ≠ q := by omega
                  have hkq2 : q ≠ k := by omega
                  clear hy1 hy2 hz1 hz2
                  go_wp2
                  go_roundw
                  case rel =>
                    have hqe : q = k + S + 1 := by omega
                    have ho1 := hown.set1 k (q : Int) (.int .i64 (q : Int)) rfl
                    have ho2 := ho1.set1 q (k : Int) (.int .i64 (k : Int)) rfl
                    have hb1 : Below w.heap.size w (w5.setCell ⟨g, k, none⟩ (.int .i64 (q : Int))) := below_push hbel hown (grown_setCell w5 g k _) hsz
                    have hb2 : Below w.heap.size w ((w5.setCell ⟨g, k, none⟩ (.int .i64 (q : Int))).setCell ⟨g, q, none⟩ (.int .i64 (k : Int))) := below_push hb1 ho1 (grown_setCell _ g q _) (by simpa [World.setCell] using hsz)
                    refine ⟨k + 1, by go_num, by omega, ?_, hb2⟩
                    rw [HR.out, ← hqe]
                    exact ho2
                  case measure => simp [intOf]; omega
            · have b7 : (x.kind == 7) = false := by simp [k7]
              have hm : ∃ m, (matchL l)[k]? = some m := ⟨_, List.getElem?_eq_getElem (by rw [matchL_length]; omega)⟩
              obtain ⟨m, hm⟩ := hm
              have hr := rAt_succ l k x m hx.out hm
              rw [if_neg k7] at hr
              have HR := hide hr
              clear hr hm k7
              go_wp2
              go_roundw
              case rel => exact ⟨k + 1, by go_num, by omega, by rw [HR.out]; exact hown, hbel⟩
              case measure => simp [intOf]; omega
          · have e : k = l.length := by omega
            subst e
            have hW := HWL.out.symm
            rw [rAt_end l hW] at hown
            go_wp2
            go_ret2
            unfold Match8Post
            have e : matchS l = (matchL l, 0) := by unfold matchS; rw [if_pos hW]
            rw [e]
            exact ⟨ao, co, by simp [matchL_length], hown, hbel⟩
end Go.Proofs.YtcamcnahkdiefaaGreat

/- Chapter 8, the document's answers: Deep, Around, Inside, Parts. -/
namespace Go.Proofs.YtcamcnahkdiefaaGreat
set_option linter.unusedVariables false
set_option linter.unusedSimpArgs false
open Go.RowKit

theorem Match8W (a : Option Addr) (c : Nat) (l : List OpD) (w : World) (h : At w a l) (hl : l.length ≤ 1000000) (hw : well l = true) :
    Calls Tryz.prog 89 #[.slice a l.length c] w fun e w' => ∃ a' c', e = .returned (.tuple #[.slice a' l.length c', .int .i64 0]) ∧ Own w' w.heap.size 3 a' c' (matchL l) ∧ Below w.heap.size w w' := by
  refine (Match8_calls a c l w h hl).mono ?_
  rintro e w' hp
  unfold Match8Post at hp
  have e0 : matchS l = (matchL l, 0) := by unfold matchS; rw [if_pos hw]
  rw [e0] at hp
  simp only [matchL_length] at hp
  exact hp
theorem Match8N (a : Option Addr) (c : Nat) (l : List OpD) (w : World) (h : At w a l) (hl : l.length ≤ 1000000) (hw : well l = false) :
    Calls Tryz.prog 89 #[.slice a l.length c] w fun e w' => ∃ a' c', e = .returned (.tuple #[.slice a' 0 c', .int .i64 6]) ∧ Below w.heap.size w w' := by
  refine (Match8_calls a c l w h hl).mono ?_
  rintro e w' hp
  unfold Match8Post at hp
  have e0 : matchS l = ([], 6) := by unfold matchS; rw [if_neg (by simp [hw])]
  rw [e0] at hp
  obtain ⟨a', c', rfl, h1, h2⟩ := hp
  exact ⟨a', c', rfl, h2⟩
theorem MatchW (a : Option Addr) (c : Nat) (l : List OpD) (w : World) (h : At w a l) (hl : l.length ≤ 1000000) (hw : well l = true) :
    Calls Tryz.prog 96 #[.slice a l.length c] w fun e w' => ∃ a' c', e = .returned (.tuple #[.slice a' l.length c', .int .i64 0]) ∧ Own w' w.heap.size 3 a' c' (matchL l) ∧ Below w.heap.size w w' := by
  refine (Match_calls a c l w h hl).mono ?_
  rintro e w' hp
  unfold MatchPost at hp
  have e0 : matchS l = (matchL l, 0) := by unfold matchS; rw [if_pos hw]
  rw [e0] at hp
  simp only [matchL_length] at hp
  exact hp
theorem MatchN (a : Option Addr) (c : Nat) (l : List OpD) (w : World) (h : At w a l) (hl : l.length ≤ 1000000) (hw : well l = false) :
    Calls Tryz.prog 96 #[.slice a l.length c] w fun e w' => ∃ a' c', e = .returned (.tuple #[.slice a' 0 c', .int .i64 6]) ∧ Below w.heap.size w w' := by
  refine (Match_calls a c l w h hl).mono ?_
  rintro e w' hp
  unfold MatchPost at hp
  have e0 : matchS l = ([], 6) := by unfold matchS; rw [if_neg (by simp [hw])]
  rw [e0] at hp
  obtain ⟨a', c', rfl, h1, h2⟩ := hp
  exact ⟨a', c', rfl, h2⟩

end Go.Proofs.YtcamcnahkdiefaaGreat

/- Several texts of mine in one file: M9a, M9b, M9c, M9d. -/
/- Chapter 9: a block's writes, sums; stores into a slice of structs of the call's own. -/
namespace Go.Proofs.YtcamcnahkdiefaaGreat
set_option linter.unusedVariables false
set_option linter.unusedSimpArgs false
open Go.RowKit

theorem set_flat2 {α : Type} [Flat α] (l : List α) (i f : Nat) (y x : α) (u : Value) (hx : l[i]? = some x) (hf : f < Flat.n α) (hu : Flat.enc y = (Flat.enc x).set f u) : (l.flatMap Flat.enc).set (i * Flat.n α + f) u = (l.set i y).flatMap Flat.enc := by
  induction l generalizing i with
  | nil => simp at hx
  | cons z r ih =>
    cases i with
    | zero =>
      simp at hx
      subst hx
      simp only [List.flatMap_cons, List.set_cons_zero, Nat.zero_mul, Nat.zero_add]
      rw [List.set_append_left _ _ (by rw [Flat.len]; exact hf), hu]
    | succ i =>
      simp only [List.flatMap_cons, List.set_cons_succ]
      rw [List.set_append_right _ _ (by rw [Flat.len, Nat.add_mul]; omega), Flat.len, ← ih i (by simpa using hx)]
      congr 2
      rw [Nat.add_mul]; omega
theorem Own.setAt {α : Type} [Flat α] {w : World} {B : Nat} {E : TypeId} {g c : Nat} {l : List α} (h : Own w B E (some ⟨g, 0, .none⟩) c l) (i f : Nat) (y x : α) (u : Value) (hx : l[i]? = some x) (hf : f < Flat.n α) (hu : Flat.enc y = (Flat.enc x).set f u) :
    Own (w.setCell ⟨g, i * Flat.n α + f, .none⟩ u) B E (some ⟨g, 0, .none⟩) c (l.set i y) := by
  have := (World.ownsRow.stored h (i * Flat.n α + f) u).1
  unfold Own
  rw [← set_flat2 l i f y x u hx hf hu, List.length_set]
  exact this
theorem Own.cellAt {α : Type} [Flat α] {w : World} {B : Nat} {E : TypeId} {g c : Nat} {l : List α} (h : Own w B E (some ⟨g, 0, .none⟩) c l) {i f : Nat} {x : α} {u : Value} (hx : l[i]? = some x) (hu : (Flat.enc x)[f]? = some u) : w.cell? ⟨g, i * Flat.n α + f, .none⟩ = some u := by
  obtain ⟨b, off, e, h2⟩ := h.at_ i x hx
  simp at e
  obtain ⟨rfl, rfl⟩ := e
  have := h2 f u hu
  rwa [Nat.zero_add] at this

theorem Own.ne_E {α β : Type} [Flat α] [Flat β] {w : World} {B B' : Nat} {E E' : TypeId} {g g' c c' : Nat} {l : List α} {l' : List β} (h : Own w B E (some ⟨g, 0, .none⟩) c l) (h' : Own w B' E' (some ⟨g', 0, .none⟩) c' l') (hE : E ≠ E') : g ≠ g' := by
  rintro rfl
  rcases h.2 with ⟨hv, _⟩ | ⟨g1, cap, cur, hv, _, hg, _⟩
  · injection hv with h1; cases h1
  · rcases h'.2 with ⟨hv', _⟩ | ⟨g2, cap', cur', hv', _, hg', _⟩
    · injection hv' with h1; cases h1
    · injection hv with h1
      injection hv' with h2
      simp at h1 h2
      subst h1 h2
      rw [hg] at hg'
      injection hg' with hg'
      injection hg' with _ hg'
      exact hE hg'
theorem blk_div {n : Int} {v : UInt64} (h0 : 0 < n) : (n * (v.toNat : Int) ≤ 65536 ↔ (v.toNat : Int) ≤ 65536 / n) := by
  rw [Int.le_ediv_iff_mul_le h0, Int.mul_comm]
theorem block_calls (n : Int) (v : UInt64) (w : World) (h0 : 0 ≤ n) : Calls Tryz.prog 147 #[.int .i64 n, .int .u64 (v.toNat : Int)] w fun e w' => e = .returned (.tuple #[.int .i64 ((blkS n v).getD 0), .bool (blkS n v).isSome]) ∧ w = w' := by
  by_cases hz : n = 0
  · subst hz
    have e : blkS 0 v = some 0 := by simp [blkS]
    rw [e]
    clear e
    go_enter Tryz.func147, Tryz.ntmps147
    go_wp2
    go_ret2
    exact ⟨rfl, rfl⟩
  · have hnz : (n == 0) = false := by simpa using hz
    by_cases hb : n ≤ 65536
    · have hd := blk_div (n := n) (v := v) (by omega)
      have hd0 : 0 ≤ 65536 / n := Int.ediv_nonneg (by omega) h0
      have hd1 : 65536 / n ≤ 65536 := Int.ediv_le_self _ (by omega)
      have hp : 0 < n := by omega
      by_cases hc : n * (v.toNat : Int) ≤ 65536
      · have e : blkS n v = some (n * (v.toNat : Int)) := by unfold blkS; rw [if_pos ⟨hb, hc⟩]
        have hc2 := hd.1 hc
        have hc3 : 0 ≤ n * (v.toNat : Int) := Int.mul_nonneg h0 (by omega)
        have hv : (v.toNat : Int) ≤ 65536 := by omega
        rw [e]
        clear e hd hz
        go_enter Tryz.func147, Tryz.ntmps147
        go_wp2
        go_ret2
        exact ⟨rfl, rfl⟩
      · have e : blkS n v = none := by unfold blkS; rw [if_neg (fun h => hc h.2)]
        have hc2 : 65536 / n < (v.toNat : Int) := by have := mt hd.2 hc; omega
        rw [e]
        clear e hd hz hc
        go_enter Tryz.func147, Tryz.ntmps147
        go_wp2
        go_ret2
        exact ⟨rfl, rfl⟩
    · have e : blkS n v = none := by unfold blkS; rw [if_neg (fun h => hb h.1)]
      rw [e]
      clear e hz
      go_enter Tryz.func147, Tryz.ntmps147
      go_wp2
      go_ret2
      exact ⟨rfl, rfl⟩

theorem add_calls (a : Option Addr) (c : Nat) (x y : Int) (w : World) (h : At w a [x, y]) (hx : 0 ≤ x ∧ x ≤ 1000000000000000) (hy : 0 ≤ y ∧ y ≤ 1000000000000000) : Calls Tryz.prog 148 #[.slice a 2 c] w fun e w' => e = .returned (.int .i64 (x + y)) ∧ w = w' := by
  obtain ⟨b, off, e, h0⟩ := h 0 x rfl
  obtain ⟨b', off', e', h1⟩ := h 1 y rfl
  subst e
  simp at e'
  obtain ⟨rfl, rfl⟩ := e'
  have c0 : w.cell? ⟨b, off, none⟩ = some (.int .i64 x) := by simpa [Flat.n] using h0 0 _ rfl
  have c1 : w.cell? ⟨b, off + 1, none⟩ = some (.int .i64 y) := by simpa [Flat.n] using h1 0 _ rfl
  obtain ⟨x0, x1⟩ := hx
  obtain ⟨y0, y1⟩ := hy
  clear h0 h1 h
  go_enter Tryz.func148, Tryz.ntmps148
  go_wp2
  go_loopw [3, 8] (fun s i wr => ((i = .int .i64 0 ∧ s = .int .i64 0) ∨ (i = .int .i64 1 ∧ s = .int .i64 x) ∨ (i = .int .i64 2 ∧ s = .int .i64 (x + y))) ∧ w = wr) (fun _ i _ => 2 - (intOf i).toNat)
  case atStart => exact ⟨.inl ⟨rfl, rfl⟩, rfl⟩
  case round =>
    obtain ⟨⟨rfl, rfl⟩ | ⟨rfl, rfl⟩ | ⟨rfl, rfl⟩, rfl⟩ := hrel
    · go_wp2
      go_roundw
      case rel => exact ⟨.inr (.inl ⟨rfl, rfl⟩), by trivial⟩
      case measure => simp [intOf]
    · go_wp2
      go_roundw
      case rel => exact ⟨.inr (.inr ⟨rfl, rfl⟩), by trivial⟩
      case measure => simp [intOf]
    · go_wp2
      go_ret
      exact ⟨rfl, rfl⟩
end Go.Proofs.YtcamcnahkdiefaaGreat

/- Chapter 9: how the program measures. -/
namespace Go.Proofs.YtcamcnahkdiefaaGreat
set_option linter.unusedVariables false
set_option linter.unusedSimpArgs false
open Go.RowKit

theorem tyF : Ty Tryz.prog 227 226 (Int × Int) := Ty.of (z := .agg #[.int .i64 0, .int .i64 0]) (size := 2) (bytes := 16) Tryz.underlying227 (by kernel_rfl) rfl (by decide) rfl
theorem mkI (n : Nat) (hn : n ≤ 1000000) (w : World) : (Instr.makeSlice 90 (.int .i64 (n : Int)) (.int .i64 (n : Int))).run Tryz.prog w = .ok (.slice (some ⟨w.heap.size, 0, none⟩) n n) (w.alloc (.cells (madeCells #[.int .i64 0] n) 3)) :=
  run_make_row' 90 3 (.int .i64 0) 8 Tryz.underlying90 (by kernel_rfl) rfl .i64 .i64 n (by omega) (by omega) w
theorem own_made {α : Type} [Flat α] {w : World} {B n : Nat} {E : TypeId} {z : Value} {z0 : α} (he : Flat.enc z0 = [z]) (hB : B ≤ w.heap.size) (hn : n ≤ 1000000) : Own (w.alloc (.cells (madeCells #[z] n) E)) B E (some ⟨w.heap.size, 0, none⟩) n (List.replicate n z0) := by
  have hlen : Flat.n α = 1 := by rw [← Flat.len z0, he]; rfl
  have e : (List.replicate n z0).flatMap Flat.enc = List.replicate n z := by
    induction n with
    | zero => rfl
    | succ n ih => rw [List.replicate_succ, List.flatMap_cons, ih (by omega), he]; rfl
  unfold Own
  rw [e, hlen, List.length_replicate]
  have hs : (madeCells #[z] n).size = n * 1 := by
    have := congrArg List.length (toList_madeCells_one z n)
    simpa using this
  refine ⟨by simp, .inr ⟨w.heap.size, n, _, rfl, hB, heap_alloc_new w _, Nat.le_refl _, by simp only [maxLen]; omega, hs, ?_⟩⟩
  rw [toList_madeCells_one]
  simp

def MeasPost (w : World) (l : List OpD) (e : Ending) (w' : World) : Prop :=
  (well l = true → (∃ S a1 c1 a2 c2, measL l = some S ∧ e = .returned (.tuple #[.slice a1 l.length c1, .slice a2 l.length c2, .int .i64 (S.st.getLast?.getD (0, 0)).2, .int .i64 0]) ∧ Own w' w.heap.size 3 a1 c1 S.sz ∧ Own w' w.heap.size 3 a2 c2 S.rd) ∨
    (measL l = none ∧ e = .returned (.tuple #[.slice none 0 0, .slice none 0 0, .int .i64 0, .int .i64 9]))) ∧
  (well l = false → e = .returned (.tuple #[.slice none 0 0, .slice none 0 0, .int .i64 0, .int .i64 6])) ∧ Below w.heap.size w w'

theorem own_built {α : Type} [Flat α] {w : World} {B : Nat} {E : TypeId} {cs : Array Value} (l : List α) (hcs : cs.toList = l.flatMap Flat.enc) (hB : B ≤ w.heap.size) (hl : l.length ≤ 1000000) : Own (w.alloc (.cells cs E)) B E (some ⟨w.heap.size, 0, none⟩) l.length l := by
  unfold Own
  have hs : cs.size = l.length * Flat.n α := by rw [← enc_length, ← hcs]; simp
  refine ⟨enc_length l, .inr ⟨w.heap.size, l.length, cs, rfl, hB, heap_alloc_new w _, Nat.le_refl _, by simp only [maxLen]; omega, hs, ?_⟩⟩
  rw [hcs, ← enc_length l, List.take_length]

theorem block_q (n : Int) (v : UInt64) (w : World) (h0 : 0 ≤ n) : Calls Tryz.prog 147 #[.int .i64 n, .int .u64 (v.toNat : Int)] w fun e w' => e = .returned (.tuple #[.int .i64 ((blkS n v).getD 0), .bool (blkS n v).isSome]) ∧ w' = w :=
  (block_calls n v w h0).mono fun e w' ⟨h1, h2⟩ => ⟨h1, h2.symm⟩
theorem writes_of {x : OpD} (h1 : 1 ≤ x.kind) (h2 : x.kind ≤ 6) (w : World) : Calls Tryz.prog 149 #[.agg #[.int .i64 x.kind, .int .i64 x.d, .int .i64 x.a, .int .i64 x.b, .int .u64 (x.v.toNat : Int)]] w fun e w' => e = .returned (.tuple #[.int .i64 x.d, .bool true]) ∧ Below w.heap.size w w' := by
  have := Writes7_calls x w
  rw [dOf_true h1 h2] at this
  simpa using this
theorem wellF_cons {n : Nat} {x : OpD} {r : List OpD} (h : wellF n (x :: r) = true) : 0 ≤ x.kind ∧ x.kind ≤ 7 ∧ (x.kind = 7 → wellF (n + 1) r = true) ∧ (x.kind = 0 → 0 < n ∧ wellF (n - 1) r = true) ∧ (x.kind ≠ 7 → x.kind ≠ 0 → wellF n r = true) := by
  rw [wellF] at h
  by_cases h1 : x.kind < 0 ∨ 7 < x.kind
  · rw [if_pos h1] at h; cases h
  · rw [if_neg h1] at h
    refine ⟨by omega, by omega, fun h7 => ?_, fun h0 => ?_, fun h7 h0 => ?_⟩
    · rwa [if_pos h7] at h
    · rw [if_neg (by omega), if_pos h0] at h
      by_cases hn : n = 0
      · rw [if_pos hn] at h; cases h
      · rw [if_neg hn] at h; exact ⟨by omega, h⟩
    · rwa [if_neg h7, if_neg h0] at h

set_option maxRecDepth 100000 in
set_option maxHeartbeats 1600000 in
theorem measure_bad (a : Option Addr) (c : Nat) (l : List OpD) (w : World) (h : At w a l) (hl : l.length ≤ 1000000) (hw : well l = false) : Calls Tryz.prog 110 #[.slice a l.length c] w (MeasPost w l) := by
  have HM := hide (MatchN a c l w h hl hw)
  have HW := hide hw
  clear hw
  go_enter Tryz.func110, Tryz.ntmps110
  go_wp2
  go_step3
  go_wp2_with (go_at_call 96; ((with_reducible refine (HM.out).mono ?_); rintro e w1 ⟨a1, c1, rfl, hb⟩))
  try rw [Exit.noGoto_ret]
  refine bodyPost_ret (v := .tuple #[.slice none 0 0, .slice none 0 0, .int .i64 0, .int .i64 6]) (by simp [results, Tryz.results110, go_sem]) rfl ?_
  unfold MeasPost
  rw [HW.out]
  exact ⟨(fun h => by cases h), fun _ => rfl, hb⟩

end Go.Proofs.YtcamcnahkdiefaaGreat

/- Chapter 9: how the program measures. -/
namespace Go.Proofs.YtcamcnahkdiefaaGreat
set_option linter.unusedVariables false
set_option linter.unusedSimpArgs false
open Go.RowKit

theorem last_of {α : Type} {st : List α} {m : Nat} {x d : α} (h : st[m]? = some x) (hl : st.length = m + 1) : st.getLast?.getD d = x := by
  rw [List.getLast?_eq_getElem?, hl, Nat.add_sub_cancel, h]; rfl
theorem addTop_set {st : List (Int × Int)} {m : Nat} {x : Int × Int} (h : st[m]? = some x) (hl : st.length = m + 1) (n : Int) : addTop st n = st.set m (x.1, x.2 + n) := by
  unfold addTop
  rw [last_of h hl]
  obtain ⟨r, y, rfl⟩ : ∃ r y, st = r ++ [y] := ⟨st.dropLast, st.getLast (by intro e; subst e; simp at hl), (List.dropLast_concat_getLast _).symm⟩
  simp at hl
  subst hl
  simp

set_option maxRecDepth 100000 in
set_option maxHeartbeats 8000000 in
theorem measure_well (a : Option Addr) (c : Nat) (l : List OpD) (w : World) (h : At w a l) (hl : l.length ≤ 1000000) (hw : well l = true) : Calls Tryz.prog 110 #[.slice a l.length c] w (MeasPost w l) := by
  have HM := hide (MatchW a c l w h hl hw)
  have HW := hide hw
  obtain ⟨R, hR⟩ : ∃ R, R = msF l 0 ⟨[(0, 0)], List.replicate l.length 0, List.replicate l.length 0⟩ l := ⟨_, rfl⟩
  have hRm : measL l = R.bind fun s => if (s.st.getLast?.getD (0, 0)).2 ≤ 65536 then some s else none := by rw [hR]; rfl
  have HR := hide hR
  have HRM := hide hRm
  clear hw hR hRm
  have hmk := fun w => mkI l.length hl w
  go_enter Tryz.func110, Tryz.ntmps110
  go_wp2
  go_step3
  go_upto_region 4 with (go_at_call 96; ((with_reducible refine (HM.out).mono ?_); rintro e w1 ⟨am, cm, rfl, hom, hb⟩))
  have hz1 := hb.size
  go_cut [2, 3] (fun s2 s3 wc => ∃ g1 g2 : Nat, s2 = .slice (some ⟨g1, 0, none⟩) l.length l.length ∧ s3 = .slice (some ⟨g2, 0, none⟩) l.length l.length ∧ Hid (g1 ≠ g2) ∧ Own wc w.heap.size 3 (some ⟨g1, 0, none⟩) l.length (List.replicate l.length (0 : Int)) ∧ Own wc w.heap.size 3 (some ⟨g2, 0, none⟩) l.length (List.replicate l.length (0 : Int)) ∧ Below w.heap.size w wc)
  case first =>
    go_region
    all_goals (go_wp2_with fail; go_meet)
    all_goals
      have k1 : Below w.heap.size w (((w1.alloc (.cells (madeCells #[.int .i64 0] l.length) 3)).alloc (.cells (madeCells #[.int .i64 0] l.length) 3)).drew) := Below.drew ((hb.alloc hz1 _).alloc (by simp; omega) _)
      have k2 : Own (((w1.alloc (.cells (madeCells #[.int .i64 0] l.length) 3)).alloc (.cells (madeCells #[.int .i64 0] l.length) 3)).drew) w.heap.size 3 (some ⟨w1.heap.size, 0, none⟩) l.length (List.replicate l.length (0 : Int)) := ((own_made rfl hz1 hl).alloc _).drew
      have k3 : Own (((w1.alloc (.cells (madeCells #[.int .i64 0] l.length) 3)).alloc (.cells (madeCells #[.int .i64 0] l.length) 3)).drew) w.heap.size 3 (some ⟨w1.heap.size + 1, 0, none⟩) l.length (List.replicate l.length (0 : Int)) := by
        have := (own_made (w := w1.alloc (.cells (madeCells #[.int .i64 0] l.length) 3)) (B := w.heap.size) (E := 3) (z := .int .i64 0) (z0 := (0 : Int)) rfl (by simp; omega) hl).drew
        simpa using this
      first
        | exact ⟨w1.heap.size, w1.heap.size + 1, rfl, rfl, hide (by omega), k2, k3, k1⟩
        | exact ⟨w1.heap.size + 1, w1.heap.size, rfl, rfl, hide (by omega), k3, k2, k1⟩
        | exact ⟨w1.heap.size, w1.heap.size + 1, by simp, by simp, hide (by omega), k2, k3, k1⟩
        | exact ⟨w1.heap.size + 1, w1.heap.size, by simp, by simp, hide (by omega), k3, k2, k1⟩
  case rest =>
    obtain ⟨g1, g2, rfl, rfl, hne, ho1, ho2, hbc⟩ := hcut
    have hzc := hbc.size
    clear hmk
    go_wp2
    go_step3
    go_wp2
    go_loopw [5, 8, 34] (fun s5 s8 s34 wr => ∃ (k m : Nat) (S : Ms) (g8 c8 : Nat), s5 = .int .i64 0 ∧ s34 = .int .i64 k ∧ k ≤ l.length ∧ s8 = .slice (some ⟨g8, 0, none⟩) (m + 1) c8 ∧ Hid (S.st.length = m + 1) ∧ m ≤ k ∧ Hid (wellF m (l.drop k) = true) ∧ Hid (R = msF l k S (l.drop k)) ∧ Hid (MsBd k l.length S) ∧
      Own wr w.heap.size 3 (some ⟨g1, 0, none⟩) l.length S.sz ∧ Own wr w.heap.size 3 (some ⟨g2, 0, none⟩) l.length S.rd ∧ Own wr w.heap.size 226 (some ⟨g8, 0, none⟩) c8 S.st ∧ Below w.heap.size w wr) (fun _ _ i _ => l.length - (intOf i).toNat)
    case atStart =>
      refine ⟨0, 0, ⟨[(0, 0)], List.replicate l.length 0, List.replicate l.length 0⟩, wc.heap.size, 1, rfl, rfl, by omega, rfl, rfl, Nat.le_refl _, HW.out, HR.out, hide ⟨fun x hx => ?_, by simp, by simp⟩, ho1.alloc _, ho2.alloc _, own_built [(0, 0)] rfl hzc (by simp), hbc.alloc hzc _⟩
      simp at hx
      subst hx
      simp
    case round =>
      obtain ⟨k, m, S, g8, c8, rfl, rfl, hk, rfl, hS, hmk, hwk, hRk, hB, ho1, ho2, ho8, hbr⟩ := hrel
      have hzr := hbr.size
      have hmS : m < S.st.length := by rw [hS.out]; omega
      obtain ⟨⟨la, ln⟩, hlast⟩ : ∃ x, S.st[m]? = some x := ⟨_, List.getElem?_eq_getElem hmS⟩
      obtain ⟨hla0, hla1, hln0, hln1⟩ := hB.out.1 _ (List.mem_of_getElem? hlast)
      simp only at hla0 hla1 hln0 hln1
      obtain ⟨j, rfl⟩ := Int.eq_ofNat_of_zero_le hla0
      have t0 : wr.cell? ⟨g8, m * 2, none⟩ = some (.int .i64 (j : Int)) := by simpa [Flat.n] using ho8.cellAt hlast (f := 0) rfl
      have t1 : wr.cell? ⟨g8, m * 2 + 1, none⟩ = some (.int .i64 ln) := by simpa [Flat.n] using ho8.cellAt hlast (f := 1) rfl
      have tf0 := ho8.frozen (m * 2)
      have tf1 := ho8.frozen (m * 2 + 1)
      have hgl1 := (ho1.blk g1 rfl).2
      have hgl2 := (ho2.blk g2 rfl).2
      have hgl8 := (ho8.blk g8 rfl).2
      have hsz1 : S.sz.length = l.length := hB.out.2.1
      have hrd1 : S.rd.length = l.length := hB.out.2.2
      have n18 : g8 ≠ g1 := ho8.ne_E ho1 (by decide)
      have n28 : g8 ≠ g2 := ho8.ne_E ho2 (by decide)
      have n81 := n18.symm
      have n82 := n28.symm
      have n12 : g1 ≠ g2 := hne.out
      have n21 := n12.symm
      have HLT := hide hlast
      have HS1 := hide hsz1
      have HS2 := hide hrd1
      clear hlast hsz1 hrd1 hla0 hmS
      by_cases hlt : k < l.length
      · obtain ⟨b1, off1, x, rfl, hx, x0, x1, x2, x3, x4⟩ := h.getOp hbr hlt
        have hdk := drop_at hx.out
        have hwk' := hwk.out
        rw [hdk] at hwk'
        obtain ⟨q1, q2, q7, q0, qq⟩ := wellF_cons hwk'
        have hRk' := hRk.out
        rw [hdk] at hRk'
        change R = (msStep l k x S).bind (fun s' => msF l (k + 1) s' (l.drop (k + 1))) at hRk'
        have HRK := hide hRk'
        have Q7 := hide q7
        have Q0 := hide q0
        have QQ := hide qq
        clear hdk hwk' hRk' q7 q0 qq
        have hX := Blk.new wr 89 #[.int .i64 x.kind, .int .i64 x.d, .int .i64 x.a, .int .i64 x.b, .int .u64 (x.v.toNat : Int)]
        rcases kind_cases x with ⟨k7, b7, b0⟩ | ⟨k0, b7, b0⟩ | ⟨k7, k0, b7, b0⟩
        · -- a block begins
          have hst : msStep l k x S = some { S with st := S.st ++ [((k : Int), 0)] } := by unfold msStep; rw [if_pos k7]
          have HST := hide hst
          have HB' := hide (hB.out.step hst)
          have HWN := hide (Q7.out k7)
          clear hst k7
          have ho8' : Own (wr.alloc (.cells #[.int .i64 x.kind, .int .i64 x.d, .int .i64 x.a, .int .i64 x.b, .int .u64 (x.v.toNat : Int)] 89)) w.heap.size 226 (some ⟨g8, 0, none⟩) c8 S.st := ho8.alloc _
          go_wp2_with (at_builtin; refine wpList_push tyF ho8' ((k : Int), (0 : Int)) rfl rfl rfl rfl rfl (by simp) hS.out.symm (by simp; omega) (by omega) ?_; intro a3 c3 w3 hown3 hg3 hm3; obtain ⟨g3, rfl, hg3a, hg3b⟩ := hown3.some_ (by simp))
          go_roundw
          case rel =>
            refine ⟨k + 1, m + 1, _, g3, c3, rfl, by go_num, by omega, rfl, ?_, by omega, HWN, ?_, HB', ?_, ?_, hown3, ?_⟩
            · simp [Hid, hS.out]
            · show R = _; rw [HRK.out, HST.out]; rfl
            · exact (ho1.alloc _).grown hg3 (.inr (by simpa using n81))
            · exact (ho2.alloc _).grown hg3 (.inr (by simpa using n82))
            · exact below_push (hbr.alloc hzr _) ho8' hg3 (by simp; omega)
          case measure => simp [intOf]; omega
        · -- a block ends
          obtain ⟨hm0, hwn⟩ := Q0.out k0
          obtain ⟨m', rfl⟩ : ∃ m', m = m' + 1 := ⟨m - 1, by omega⟩
          have hm1 : m' < S.st.length := by rw [hS.out]; omega
          obtain ⟨⟨pa, pn⟩, hprev⟩ : ∃ x, S.st[m']? = some x := ⟨_, List.getElem?_eq_getElem hm1⟩
          obtain ⟨hpa0, hpa1, hpn0, hpn1⟩ := hB.out.1 _ (List.mem_of_getElem? hprev)
          simp only at hpa0 hpa1 hpn0 hpn1
          have p0 : wr.cell? ⟨g8, m' * 2, none⟩ = some (.int .i64 pa) := by simpa [Flat.n] using ho8.cellAt hprev (f := 0) rfl
          have p1 : wr.cell? ⟨g8, m' * 2 + 1, none⟩ = some (.int .i64 pn) := by simpa [Flat.n] using ho8.cellAt hprev (f := 1) rfl
          have pf1 := ho8.frozen (m' * 2 + 1)
          have hjk : j < l.length := by omega
          obtain ⟨b2, off2, y, e, hy, y0, y1, y2, y3, y4⟩ := h.getOp hbr hjk
          simp at e
          obtain ⟨rfl, rfl⟩ := e
          have hv : vAt l (j : Int) = y.v := by unfold vAt; simp [hy.out]
          have hst : msStep l k x S = (blkS ln y.v).map fun n => { st := addTop S.st.dropLast n, sz := S.sz.set j n, rd := S.rd.set j ln } := by
            unfold msStep
            rw [if_neg (by omega), if_pos k0, last_of HLT.out hS.out]
            simp only [hv]
            rfl
          have HST := hide hst
          have HP := hide hprev
          have hown8 : m' + 1 + 1 ≤ c8 := by have := ho8.cap.1; rw [hS.out] at this; exact this
          obtain ⟨z1, u1, e1, e2, s1⟩ := ho1.cell1 (i := j) (by rw [HS1.out]; exact hjk) rfl
          obtain ⟨z2, u2, e3, e4, s2⟩ := ho2.cell1 (i := j) (by rw [HS2.out]; exact hjk) rfl
          have sf1 := ho1.frozen j
          have sf2 := ho2.frozen j
          have HBK := hide (fun w => block_q ln y.v w hln0)
          have hb1l : b1 < wr.heap.size := World.block_lt_of_cell? _ _ x0
          clear hv hst hprev e1 e2 e3 e4 hpa0 hpa1 hm1 hy k0
          cases hbk : blkS ln y.v with
          | none =>
            rw [hbk] at HST HBK
            simp only [Option.getD_none, Option.isSome_none] at HBK
            clear hbk
            have HRN : Hid (R = none) := by rw [HRK.out, HST.out]; rfl
            go_wp2
            go_quiet ((go_at_call 147; exact Calls.quiet_of_same (HBK.out _)))
            go_wp2
            try rw [Exit.noGoto_ret]
            refine bodyPost_ret (v := .tuple #[.slice none 0 0, .slice none 0 0, .int .i64 0, .int .i64 9]) (by simp [results, Tryz.results110, go_sem]) rfl ?_
            unfold MeasPost
            refine ⟨fun _ => .inr ⟨by rw [HRM.out, HRN.out]; rfl, rfl⟩, (fun h => by rw [HW.out] at h; cases h), ?_⟩
            exact Below.trans hbr ((below_drewN ((Below.refl _ _).alloc (Nat.le_refl _) _) _).mono hzr)
          | some n =>
            rw [hbk] at HST HBK
            simp only [Option.getD_some, Option.isSome_some] at HBK
            have hn2 : n = ln * (y.v.toNat : Int) ∧ n ≤ 65536 := by
              unfold blkS at hbk
              split at hbk
              · rename_i hc; injection hbk with hbk; exact ⟨hbk.symm, by omega⟩
              · cases hbk
            have hn0 : 0 ≤ n := by rw [hn2.1]; exact Int.mul_nonneg hln0 (by omega)
            have hn1 := hn2.2
            clear hbk hn2
            go_wp2
            go_quiet ((go_at_call 147; exact Calls.quiet_of_same (HBK.out _)))
            go_wp2
            go_region
            have hdl : (S.st.dropLast).length = m' + 1 := by simp [hS.out]
            have hdp : (S.st.dropLast)[m']? = some (pa, pn) := by rw [List.getElem?_dropLast, if_pos (by rw [hS.out]; omega)]; exact HP.out
            have hne8 : S.st ≠ [] := by intro e; have := hS.out; rw [e] at this; simp at this
            have hB' := hB.out.step HST.out
            have hst' : addTop S.st.dropLast n = (S.st.dropLast).set m' (pa, pn + n) := addTop_set hdp hdl n
            have HDL := hide hdl
            have HDP := hide hdp
            have HNE := hide hne8
            have HB' := hide hB'
            have HST' := hide hst'
            clear hdl hdp hne8 hB' hst'
            have hpn9 : pn ≤ 1000000000000000 := by omega
            have hn9 : n ≤ 1000000000000000 := by omega
            go_wp2_with (go_at_call 148; ((with_reducible refine (add_calls (some ⟨wr.heap.size + 1, 0, none⟩) 2 pn n _ ?_ ⟨hpn0, hpn9⟩ ⟨hn0, hn9⟩).mono ?_); rotate_right; (rintro e w2 ⟨rfl, rfl⟩)))
            rotate_right
            · exact At.ofBlk (g := wr.heap.size + 1) (T := 3) (cs := #[.int .i64 pn, .int .i64 n]) (by have := Blk.new (((((wr.alloc (.cells #[.int .i64 x.kind, .int .i64 x.d, .int .i64 x.a, .int .i64 x.b, .int .u64 (x.v.toNat : Int)] 89)).drewN (nq + 1)).setCell ⟨g1, j, none⟩ (.int .i64 n)).setCell ⟨g2, j, none⟩ (.int .i64 ln))) 3 #[.int .i64 pn, .int .i64 n]; simpa using this) [pn, n] rfl
            go_roundw
            case rel =>
              have e8 := ((((((ho8.pop HNE.out).alloc (.cells #[.int .i64 x.kind, .int .i64 x.d, .int .i64 x.a, .int .i64 x.b, .int .u64 (x.v.toNat : Int)] 89)).drewN (nq + 1)).far (p := ⟨g1, j, none⟩) (by simpa using n18) (.int .i64 n)).far (p := ⟨g2, j, none⟩) (by simpa using n28) (.int .i64 ln)).setAt m' 1 (pa, pn + n) (pa, pn) (.int .i64 (pn + n)) HDP.out (by decide) rfl).alloc (.cells #[.int .i64 pn, .int .i64 n] 3)
              have e1 := (((((ho1.alloc (.cells #[.int .i64 x.kind, .int .i64 x.d, .int .i64 x.a, .int .i64 x.b, .int .u64 (x.v.toNat : Int)] 89)).drewN (nq + 1)).set1 j n (.int .i64 n) rfl).far (p := ⟨g2, j, none⟩) (by simpa using n12) (.int .i64 ln)).far (p := ⟨g8, m' * 2 + 1, none⟩) (by simpa using n81) (.int .i64 (pn + n))).alloc (.cells #[.int .i64 pn, .int .i64 n] 3)
              have e2 := (((((ho2.alloc (.cells #[.int .i64 x.kind, .int .i64 x.d, .int .i64 x.a, .int .i64 x.b, .int .u64 (x.v.toNat : Int)] 89)).drewN (nq + 1)).far (p := ⟨g1, j, none⟩) (by simpa using n21) (.int .i64 n)).set1 j ln (.int .i64 ln) rfl).far (p := ⟨g8, m' * 2 + 1, none⟩) (by simpa using n82) (.int .i64 (pn + n))).alloc (.cells #[.int .i64 pn, .int .i64 n] 3)
              have f1 := (ho1.blk g1 rfl).1
              have f2 := (ho2.blk g2 rfl).1
              have f8 := (ho8.blk g8 rfl).1
              refine ⟨k + 1, m', _, g8, c8, rfl, by go_num, by omega, rfl, ?_, by omega, hwn, ?_, HB', ?_, ?_, ?_, ?_⟩
              · simp only [Hid, HST'.out, List.length_set]; exact HDL.out
              · show R = _; rw [HRK.out, HST.out]; rfl
              · exact e1
              · exact e2
              · rw [HST'.out]; exact e8
              · exact ((((below_drewN (hbr.alloc hzr _) _).setCell (p := ⟨g1, j, none⟩) f1 _).setCell (p := ⟨g2, j, none⟩) f2 _).setCell (p := ⟨g8, m' * 2 + 1, none⟩) f8 _).alloc (by simp; omega) _
            case measure => simp [intOf]; omega
        · -- a write
          have hst : msStep l k x S = some { S with st := addTop S.st 1, sz := S.sz.set k 1 } := by unfold msStep; rw [if_neg k7, if_neg k0]
          have HST := hide hst
          have HB' := hide (hB.out.step hst)
          have HWN := hide (QQ.out k7 k0)
          obtain ⟨z1, u1, e1, e2, s1⟩ := ho1.cell1 (i := k) (by rw [HS1.out]; exact hlt) rfl
          have sf1 := ho1.frozen k
          have HWR := hide (fun w => writes_of (x := x) (by omega) (by omega) w)
          clear hst k7 k0 e1 e2
          go_wp2_with (go_at_call 149; ((with_reducible refine (HWR.out _).mono ?_); rintro e w2 ⟨rfl, hb2⟩; obtain ⟨hz2, hB2, hX2⟩ := box5 hb2; have t1' := (hB2.cell (p := ⟨g8, m * 2 + 1, none⟩) hgl8).trans t1; have tf1' := (hB2.frozen (p := ⟨g8, m * 2 + 1, none⟩) hgl8).trans tf1; have s1' := (hB2.cell (p := ⟨g1, k, none⟩) hgl1).trans s1; have sf1' := (hB2.frozen (p := ⟨g1, k, none⟩) hgl1).trans sf1; have ho1' := ho1.below hB2 (Nat.le_refl _); have ho2' := ho2.below hB2 (Nat.le_refl _); have ho8' := ho8.below hB2 (Nat.le_refl _); have hbr' := hbr.trans (hB2.mono hzr); clear hb2 hX2))
          go_roundw
          case rel =>
            have hst' := addTop_set HLT.out hS.out 1
            have f1 := (ho1.blk g1 rfl).1
            have f8 := (ho8.blk g8 rfl).1
            refine ⟨k + 1, m, _, g8, c8, rfl, by go_num, by omega, rfl, ?_, by omega, HWN, ?_, HB', ?_, ?_, ?_, ?_⟩
            · simp only [Hid, hst', List.length_set]; exact hS.out
            · show R = _; rw [HRK.out, HST.out]; rfl
            · exact (ho1'.set1 k 1 (.int .i64 1) rfl).far (p := ⟨g8, m * 2 + 1, none⟩) (by simpa using n81) _
            · exact (ho2'.far (p := ⟨g1, k, none⟩) (by simpa using n21) _).far (p := ⟨g8, m * 2 + 1, none⟩) (by simpa using n82) _
            · rw [hst']
              exact (ho8'.far (p := ⟨g1, k, none⟩) (by simpa using n18) (.int .i64 1)).setAt m 1 ((j : Int), ln + 1) ((j : Int), ln) (.int .i64 (ln + 1)) HLT.out (by decide) rfl
            · exact (hbr'.setCell (p := ⟨g1, k, none⟩) f1 _).setCell (p := ⟨g8, m * 2 + 1, none⟩) f8 _
          case measure => simp [intOf]; omega
      · have ek : k = l.length := by omega
        subst ek
        have hd : l.drop l.length = [] := List.drop_eq_nil_of_le (by omega)
        have hm0 : m = 0 := by have := hwk.out; rw [hd] at this; simpa [wellF] using this
        have hRS : R = some S := by have := hRk.out; rw [hd] at this; exact this
        subst hm0
        have HRS := hide hRS
        clear hd hRS
        have hcs : ln ≤ 65536 ∨ 65536 < ln := by omega
        have hlst : S.st.getLast?.getD (0, 0) = ((j : Int), ln) := last_of HLT.out hS.out
        have HLST := hide hlst
        clear hlst
        rcases hcs with hc | hc
        · have hd : decide (65536 < ln) = false := by simpa using hc
          go_wp2
          go_quiet (fail)
          go_wp2
          try rw [Exit.noGoto_ret]
          refine bodyPost_ret (v := .tuple #[.slice (some ⟨g1, 0, none⟩) l.length l.length, .slice (some ⟨g2, 0, none⟩) l.length l.length, .int .i64 ln, .int .i64 0]) (by simp [results, Tryz.results110, go_sem]) rfl ?_
          unfold MeasPost
          refine ⟨fun _ => .inl ⟨S, some ⟨g1, 0, none⟩, l.length, some ⟨g2, 0, none⟩, l.length, ?_, ?_, ho1.drewN _, ho2.drewN _⟩, (fun h => by rw [HW.out] at h; cases h), below_drewN hbr _⟩
          · rw [HRM.out, HRS.out]
            simp only [Option.bind_some]
            rw [HLST.out, if_pos hc]
          · rw [HLST.out]
        · have hd : decide (65536 < ln) = true := by simpa using hc
          go_wp2
          try rw [Exit.noGoto_ret]
          refine bodyPost_ret (v := .tuple #[.slice none 0 0, .slice none 0 0, .int .i64 0, .int .i64 9]) (by simp [results, Tryz.results110, go_sem]) rfl ?_
          unfold MeasPost
          refine ⟨fun _ => .inr ⟨?_, rfl⟩, (fun h => by rw [HW.out] at h; cases h), hbr⟩
          rw [HRM.out, HRS.out]
          simp only [Option.bind_some]
          rw [HLST.out, if_neg (by simp only; omega)]
end Go.Proofs.YtcamcnahkdiefaaGreat

/- Chapter 9: Writes, Sizes, Rounds. -/
namespace Go.Proofs.YtcamcnahkdiefaaGreat
set_option linter.unusedVariables false
set_option linter.unusedSimpArgs false
open Go.RowKit

theorem msF_bd (l : List OpD) (N : Nat) : ∀ (r : List OpD) (k : Nat) (s s' : Ms), MsBd k N s → msF l k s r = some s' → MsBd (k + r.length) N s' := by
  intro r
  induction r with
  | nil => intro k s s' h e; simp [msF] at e; subst e; exact h
  | cons x r ih =>
    intro k s s' h e
    simp only [msF] at e
    cases hs : msStep l k x s with
    | none => rw [hs] at e; cases e
    | some s1 =>
      rw [hs] at e
      have := ih (k + 1) s1 s' (h.step hs) e
      rwa [show k + 1 + r.length = k + (x :: r).length by simp; omega] at this
theorem measL_lengths {l : List OpD} {S : Ms} (h : measL l = some S) : S.sz.length = l.length ∧ S.rd.length = l.length ∧ 0 ≤ (S.st.getLast?.getD (0, 0)).2 ∧ (S.st.getLast?.getD (0, 0)).2 ≤ 65536 := by
  unfold measL at h
  cases hm : msF l 0 ⟨[(0, 0)], List.replicate l.length 0, List.replicate l.length 0⟩ l with
  | none => rw [hm] at h; cases h
  | some s =>
    rw [hm] at h
    simp only [Option.bind_some] at h
    split at h
    · rename_i hc
      injection h with h
      subst h
      have := msF_bd l l.length l 0 _ s ⟨fun x hx => by simp at hx; subst hx; simp, by simp, by simp⟩ hm
      refine ⟨this.2.1, this.2.2, ?_, hc⟩
      by_cases h0 : s.st = []
      · simp [h0]
      · exact (this.1 _ (mem_last h0)).2.2.1
    · cases h
def measO (l : List OpD) : Option Ms := if well l = true then measL l else none
def sizeE (l : List OpD) : Int := if well l = true then (if (measL l).isSome = true then 0 else 9) else 6
def sizeW (l : List OpD) : Int := match measO l with | some S => (S.st.getLast?.getD (0, 0)).2 | none => 0
def sizeZ (l : List OpD) : List Int := match measO l with | some S => S.sz | none => []
def sizeR (l : List OpD) : List Int := match measO l with | some S => S.rd | none => []

def MeasAll (w : World) (l : List OpD) (e : Ending) (w' : World) : Prop :=
  ∃ a1 c1 a2 c2, e = .returned (.tuple #[.slice a1 (sizeZ l).length c1, .slice a2 (sizeR l).length c2, .int .i64 (sizeW l), .int .i64 (sizeE l)]) ∧ Own w' w.heap.size 3 a1 c1 (sizeZ l) ∧ Own w' w.heap.size 3 a2 c2 (sizeR l) ∧ Below w.heap.size w w'
theorem measure_calls (a : Option Addr) (c : Nat) (l : List OpD) (w : World) (h : At w a l) (hl : l.length ≤ 1000000) : Calls Tryz.prog 110 #[.slice a l.length c] w (MeasAll w l) := by
  cases hw : well l with
  | true =>
    refine (measure_well a c l w h hl hw).mono ?_
    rintro e w' ⟨h1, h2, h3⟩
    unfold MeasAll sizeZ sizeR sizeW sizeE measO
    simp only [hw, if_true]
    rcases h1 hw with ⟨S, a1, c1, a2, c2, hm, rfl, o1, o2⟩ | ⟨hm, rfl⟩
    · obtain ⟨l1, l2, _⟩ := measL_lengths hm
      rw [hm]
      exact ⟨a1, c1, a2, c2, by simp [l1, l2], o1, o2, h3⟩
    · rw [hm]
      exact ⟨none, 0, none, 0, rfl, Own.none _ _ _, Own.none _ _ _, h3⟩
  | false =>
    refine (measure_bad a c l w h hl hw).mono ?_
    rintro e w' ⟨h1, h2, h3⟩
    unfold MeasAll sizeZ sizeR sizeW sizeE measO
    simp only [hw]
    rw [h2 hw]
    exact ⟨none, 0, none, 0, rfl, Own.none _ _ _, Own.none _ _ _, h3⟩
theorem SizeW_calls (a : Option Addr) (c : Nat) (l : List OpD) (w : World) (h : At w a l) (hl : l.length ≤ 1000000) : Calls Tryz.prog 58 #[.slice a l.length c] w fun e w' => e = .returned (.tuple #[.int .i64 (sizeW l), .int .i64 (sizeE l)]) ∧ Below w.heap.size w w' := by
  have HM := hide (measure_calls a c l w h hl)
  unfold MeasAll at HM
  generalize sizeW l = W at *
  generalize sizeE l = E at *
  go_enter Tryz.func58, Tryz.ntmps58
  go_wp2_with (go_at_call 110; ((with_reducible refine (HM.out).mono ?_); rintro e w1 ⟨a1, c1, a2, c2, rfl, o1, o2, hb⟩))
  go_ret2
  exact ⟨rfl, hb⟩
theorem SizeZ_calls (a : Option Addr) (c : Nat) (l : List OpD) (w : World) (h : At w a l) (hl : l.length ≤ 1000000) : Calls Tryz.prog 97 #[.slice a l.length c] w fun e w' => ∃ a' c', e = .returned (.tuple #[.slice a' (sizeZ l).length c', .int .i64 (sizeE l)]) ∧ Own w' w.heap.size 3 a' c' (sizeZ l) ∧ Below w.heap.size w w' := by
  have HM := hide (measure_calls a c l w h hl)
  unfold MeasAll at HM
  generalize sizeW l = W at *
  generalize sizeE l = E at *
  obtain ⟨P, hP⟩ : ∃ P, P = (fun e w' => ∃ a' c', e = Ending.returned (.tuple #[.slice a' (sizeZ l).length c', .int .i64 E]) ∧ Own w' w.heap.size 3 a' c' (sizeZ l) ∧ Below w.heap.size w w') := ⟨_, rfl⟩
  rw [← hP]
  have HP := hide hP
  clear hP
  go_enter Tryz.func97, Tryz.ntmps97
  go_wp2_with (go_at_call 110; ((with_reducible refine (HM.out).mono ?_); rintro e w1 ⟨a1, c1, a2, c2, rfl, o1, o2, hb⟩))
  rw [HP.out]
  first
    | exact ⟨a1, c1, rfl, o1, hb⟩
    | exact ⟨a2, c2, rfl, o2, hb⟩
end Go.Proofs.YtcamcnahkdiefaaGreat
