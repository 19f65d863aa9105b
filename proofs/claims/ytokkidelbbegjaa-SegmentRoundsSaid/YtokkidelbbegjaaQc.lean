/- Several texts of mine in one file: Oc, Od, R7. -/
import Derived.Test.YtokkidelbbegjaaQb
/- Chapter 7: what a kind asks for, whether an operation is one, what it writes and reads. -/
namespace Go.Proofs.Ytokkidelbbegjaa
set_option linter.unusedVariables false
set_option linter.unusedSimpArgs false
open Go.RowKit

/-- A box of five cells, behind a call that leaves what was there. -/
theorem box5 {w w1 : World} {T : TypeId} {v0 v1 v2 v3 v4 : Value} (hb : Below (w.alloc (.cells #[v0, v1, v2, v3, v4] T)).heap.size (w.alloc (.cells #[v0, v1, v2, v3, v4] T)) w1) :
    w.heap.size < w1.heap.size ∧ Below w.heap.size w w1 ∧ Blk w1 w.heap.size T #[v0, v1, v2, v3, v4] :=
  ⟨Nat.lt_of_lt_of_le (by simp) hb.size, (Below.alloc (Below.refl _ _) (Nat.le_refl _) _).trans (hb.mono (by simp)), (Blk.new w T _).belowN hb⟩
theorem u64_zero (v : UInt64) : ((v.toNat : Int) == 0) = decide (v = 0) := by
  by_cases h : v = 0
  · simp [h]
  · have : v.toNat ≠ 0 := fun e => h (UInt64.toNat_inj.1 (by simpa using e))
    simp [h]; omega
theorem kind_no {k : Int} (h : k < 0 ∨ 7 < k) : (k == 0) = false ∧ (k == 1) = false ∧ (k == 2) = false ∧ (k == 3) = false ∧ (k == 4) = false ∧ (k == 5) = false ∧ (k == 6) = false ∧ (k == 7) = false := by
  refine ⟨?_, ?_, ?_, ?_, ?_, ?_, ?_, ?_⟩ <;> simp <;> omega
theorem asks_no {k : Int} (h : k < 0 ∨ 7 < k) : dOf k = false ∧ aOf k = false ∧ bOf k = false ∧ vOf k = false := by
  unfold dOf aOf bOf vOf
  simp
  omega

theorem of_calls (k : Int) (w : World) : Calls Try.prog 60 #[.int .i64 k] w fun e w' => e = .returned (.agg #[.bool (dOf k), .bool (aOf k), .bool (bOf k), .bool (vOf k)]) ∧ Below w.heap.size w w' := by
  rcases kind8 k with h | rfl | rfl | rfl | rfl | rfl | rfl | rfl | rfl | h
  case inl =>
    obtain ⟨h0, h1, h2, h3, h4, h5, h6, h7⟩ := kind_no (.inl h)
    obtain ⟨e1, e2, e3, e4⟩ := asks_no (.inl h)
    rw [e1, e2, e3, e4]
    clear e1 e2 e3 e4
    go_enter Try.func60, Try.ntmps60
    go_wp2
    exact bodyPost_ret (v := .agg #[.bool false, .bool false, .bool false, .bool false]) (by simp [results, Try.results60, go_sem]) rfl ⟨rfl, (by with_reducible repeat first | exact Below.refl _ _ | assumption | refine below_drewN ?_ _ | refine Below.drew ?_ | refine Below.alloc ?_ (by simp <;> omega) _ | refine Below.setCell ?_ (by simp <;> omega) _)⟩
  case inr.inr.inr.inr.inr.inr.inr.inr.inr =>
    obtain ⟨h0, h1, h2, h3, h4, h5, h6, h7⟩ := kind_no (.inr h)
    obtain ⟨e1, e2, e3, e4⟩ := asks_no (.inr h)
    rw [e1, e2, e3, e4]
    clear e1 e2 e3 e4
    go_enter Try.func60, Try.ntmps60
    go_wp2
    exact bodyPost_ret (v := .agg #[.bool false, .bool false, .bool false, .bool false]) (by simp [results, Try.results60, go_sem]) rfl ⟨rfl, (by with_reducible repeat first | exact Below.refl _ _ | assumption | refine below_drewN ?_ _ | refine Below.drew ?_ | refine Below.alloc ?_ (by simp <;> omega) _ | refine Below.setCell ?_ (by simp <;> omega) _)⟩
  all_goals
    go_enter Try.func60, Try.ntmps60
    go_wp2
    first
      | exact bodyPost_ret (v := .agg #[.bool false, .bool false, .bool false, .bool false]) (by simp [results, Try.results60, go_sem]) rfl ⟨rfl, (by with_reducible repeat first | exact Below.refl _ _ | assumption | refine below_drewN ?_ _ | refine Below.drew ?_ | refine Below.alloc ?_ (by simp <;> omega) _ | refine Below.setCell ?_ (by simp <;> omega) _)⟩
      | exact bodyPost_ret (v := .agg #[.bool true, .bool true, .bool true, .bool false]) (by simp [results, Try.results60, go_sem]) rfl ⟨rfl, (by with_reducible repeat first | exact Below.refl _ _ | assumption | refine below_drewN ?_ _ | refine Below.drew ?_ | refine Below.alloc ?_ (by simp <;> omega) _ | refine Below.setCell ?_ (by simp <;> omega) _)⟩
      | exact bodyPost_ret (v := .agg #[.bool true, .bool true, .bool false, .bool false]) (by simp [results, Try.results60, go_sem]) rfl ⟨rfl, (by with_reducible repeat first | exact Below.refl _ _ | assumption | refine below_drewN ?_ _ | refine Below.drew ?_ | refine Below.alloc ?_ (by simp <;> omega) _ | refine Below.setCell ?_ (by simp <;> omega) _)⟩
      | exact bodyPost_ret (v := .agg #[.bool true, .bool false, .bool false, .bool true]) (by simp [results, Try.results60, go_sem]) rfl ⟨rfl, (by with_reducible repeat first | exact Below.refl _ _ | assumption | refine below_drewN ?_ _ | refine Below.drew ?_ | refine Below.alloc ?_ (by simp <;> omega) _ | refine Below.setCell ?_ (by simp <;> omega) _)⟩
      | exact bodyPost_ret (v := .agg #[.bool false, .bool false, .bool false, .bool true]) (by simp [results, Try.results60, go_sem]) rfl ⟨rfl, (by with_reducible repeat first | exact Below.refl _ _ | assumption | refine below_drewN ?_ _ | refine Below.drew ?_ | refine Below.alloc ?_ (by simp <;> omega) _ | refine Below.setCell ?_ (by simp <;> omega) _)⟩

theorem known_calls (k : Int) (w : World) : Calls Try.prog 103 #[.int .i64 k] w fun e w' => e = .returned (.bool (decide (0 ≤ k) && decide (k ≤ 7))) ∧ w = w' := by
  by_cases h : 0 ≤ k
  · by_cases h2 : k < 8
    · have e : (decide (0 ≤ k) && decide (k ≤ 7)) = true := by simp; omega
      rw [e]
      clear e
      go_enter Try.func103, Try.ntmps103
      go_wp2
      go_ret
      exact ⟨rfl, rfl⟩
    · have e : (decide (0 ≤ k) && decide (k ≤ 7)) = false := by simp; omega
      rw [e]
      clear e
      go_enter Try.func103, Try.ntmps103
      go_wp2
      go_ret
      exact ⟨rfl, rfl⟩
  · have e : (decide (0 ≤ k) && decide (k ≤ 7)) = false := by simp; omega
    rw [e]
    clear e
    go_enter Try.func103, Try.ntmps103
    go_wp2
    go_ret
    exact ⟨rfl, rfl⟩
theorem register_calls (n : Int) (b : Bool) (w : World) : Calls Try.prog 104 #[.int .i64 n, .bool b] w fun e w' => e = .returned (.bool (regB n b)) ∧ w = w' := by
  cases b with
  | false =>
    by_cases h : n = 0
    · subst h
      go_enter Try.func104, Try.ntmps104
      go_wp2
      go_ret
      exact ⟨rfl, rfl⟩
    · have e : regB n false = false := by simp [regB, h]
      have h2 : (n == 0) = false := by simpa using h
      rw [e]
      clear e h
      go_enter Try.func104, Try.ntmps104
      go_wp2
      go_ret
      exact ⟨rfl, rfl⟩
  | true =>
    by_cases h : 0 ≤ n
    · by_cases h2 : n ≤ 2147483647
      · have e : regB n true = true := by simp [regB, h, h2]
        rw [e]
        clear e
        go_enter Try.func104, Try.ntmps104
        go_wp2
        go_ret
        exact ⟨rfl, rfl⟩
      · have e : regB n true = false := by simp [regB, h2]
        rw [e]
        clear e
        go_enter Try.func104, Try.ntmps104
        go_wp2
        go_ret
        exact ⟨rfl, rfl⟩
    · have e : regB n true = false := by simp [regB, h]
      rw [e]
      clear e
      go_enter Try.func104, Try.ntmps104
      go_wp2
      go_ret
      exact ⟨rfl, rfl⟩

set_option maxHeartbeats 800000 in
theorem Right_calls (x : OpD) (w : World) : Calls Try.prog 97 #[.agg #[.int .i64 x.kind, .int .i64 x.d, .int .i64 x.a, .int .i64 x.b, .int .u64 (x.v.toNat : Int)]] w fun e w' => e = .returned (.bool (rightB x)) ∧ Below w.heap.size w w' := by
  obtain ⟨K, hK⟩ : ∃ K, K = (decide (0 ≤ x.kind) && decide (x.kind ≤ 7)) := ⟨_, rfl⟩
  obtain ⟨D, hD⟩ : ∃ D, D = regB x.d (dOf x.kind) := ⟨_, rfl⟩
  obtain ⟨A, hA⟩ : ∃ A, A = regB x.a (aOf x.kind) := ⟨_, rfl⟩
  obtain ⟨B, hB⟩ : ∃ B, B = regB x.b (bOf x.kind) := ⟨_, rfl⟩
  obtain ⟨V, hV⟩ : ∃ V, V = vOf x.kind := ⟨_, rfl⟩
  have hR : rightB x = (K && D && A && B && (V || decide (x.v = 0))) := by rw [hK, hD, hA, hB, hV]; rfl
  have HR := hide hR
  have HO : ∀ w, Calls Try.prog 60 #[.int .i64 x.kind] w fun e w' => e = .returned (.agg #[.bool (dOf x.kind), .bool (aOf x.kind), .bool (bOf x.kind), .bool V]) ∧ Below w.heap.size w w' := by rw [hV]; exact of_calls x.kind
  have HK : ∀ w, Calls Try.prog 103 #[.int .i64 x.kind] w fun e w' => e = .returned (.bool K) ∧ w = w' := by rw [hK]; exact known_calls x.kind
  have HD : ∀ w, Calls Try.prog 104 #[.int .i64 x.d, .bool (dOf x.kind)] w fun e w' => e = .returned (.bool D) ∧ w = w' := by rw [hD]; exact register_calls _ _
  have HA : ∀ w, Calls Try.prog 104 #[.int .i64 x.a, .bool (aOf x.kind)] w fun e w' => e = .returned (.bool A) ∧ w = w' := by rw [hA]; exact register_calls _ _
  have HB : ∀ w, Calls Try.prog 104 #[.int .i64 x.b, .bool (bOf x.kind)] w fun e w' => e = .returned (.bool B) ∧ w = w' := by rw [hB]; exact register_calls _ _
  have HO := hide HO
  have HK := hide HK
  have HD := hide HD
  have HA := hide HA
  have HB := hide HB
  rw [hR]
  clear hR hK hD hA hB hV
  generalize dOf x.kind = d at *
  generalize aOf x.kind = a at *
  generalize bOf x.kind = b at *
  obtain ⟨k, rd, ra, rb, v⟩ := x
  simp only at *
  have hcase : K = false ∨ (K = true ∧ D = false) ∨ (K = true ∧ D = true ∧ A = false) ∨ (K = true ∧ D = true ∧ A = true ∧ B = false) ∨ (K = true ∧ D = true ∧ A = true ∧ B = true ∧ V = true) ∨ (K = true ∧ D = true ∧ A = true ∧ B = true ∧ V = false) := by
    cases K <;> cases D <;> cases A <;> cases B <;> cases V <;> simp
  have H : True := trivial
  rcases hcase with rfl | ⟨rfl, rfl⟩ | ⟨rfl, rfl, rfl⟩ | ⟨rfl, rfl, rfl, rfl⟩ | ⟨rfl, rfl, rfl, rfl, rfl⟩ | ⟨rfl, rfl, rfl, rfl, rfl⟩
  all_goals
    go_enter Try.func97, Try.ntmps97
    go_wp2_with (first | (go_at_call 60; ((with_reducible refine (HO.out _).mono ?_); rintro e w1 ⟨rfl, hb⟩; obtain ⟨hz, hB1, hX⟩ := box5 hb; obtain ⟨x0, x1, x2, x3, x4, y0, y1, y2, y3, y4⟩ := hX.c5; clear hb hX)) | (go_at_call 103; ((with_reducible refine (HK.out _).mono ?_); rintro e w2 ⟨rfl, rfl⟩)) | (go_at_call 104; first | ((with_reducible refine (HD.out _).mono ?_); rintro e w2 ⟨rfl, rfl⟩) | ((with_reducible refine (HA.out _).mono ?_); rintro e w2 ⟨rfl, rfl⟩) | ((with_reducible refine (HB.out _).mono ?_); rintro e w2 ⟨rfl, rfl⟩)))
    go_ret
    exact ⟨by simp [u64_zero], hB1.alloc (Nat.le_of_lt hz) _⟩

end Go.Proofs.Ytokkidelbbegjaa

/- Chapter 7: what an operation writes and reads, what it makes of numbers. -/
namespace Go.Proofs.Ytokkidelbbegjaa
set_option linter.unusedVariables false
set_option linter.unusedSimpArgs false
open Go.RowKit

theorem fld_d (a b c d : Bool) (w : World) : (Instr.field 116 (.agg #[.bool a, .bool b, .bool c, .bool d]) 0).run Try.prog w = .ok (.bool a) w := by kernel_rfl
theorem Writes7_calls (x : OpD) (w : World) : Calls Try.prog 30 #[.agg #[.int .i64 x.kind, .int .i64 x.d, .int .i64 x.a, .int .i64 x.b, .int .u64 (x.v.toNat : Int)]] w fun e w' => e = .returned (.tuple #[.int .i64 (if dOf x.kind = true then x.d else 0), .bool (dOf x.kind)]) ∧ Below w.heap.size w w' := by
  have HO := hide (of_calls x.kind)
  obtain ⟨k, rd, ra, rb, v⟩ := x
  simp only at *
  have hfl := fld_d
  generalize dOf k = d at *
  cases d
  all_goals
    go_enter Try.func30, Try.ntmps30
    go_wp2_with (go_at_call 60; ((with_reducible refine (HO.out _).mono ?_); rintro e w1 ⟨rfl, hb⟩; obtain ⟨hz, hB1, hX⟩ := box5 hb; obtain ⟨x0, x1, x2, x3, x4, y0, y1, y2, y3, y4⟩ := hX.c5; clear hb hX))
    go_ret2
    exact ⟨rfl, hB1⟩

theorem Rev1_calls (a : Option Addr) (n c : Nat) (w : World) (hn : n ≤ 1) : Calls Try.prog 87 #[.slice a n c] w fun e w' => e = .returned (.tuple #[]) ∧ w = w' := by
  go_enter Try.func87, Try.ntmps87
  go_wp2
  go_loopw [2, 3] (fun i j wr => i = .int .i64 0 ∧ j = .int .i64 ((n : Int) - 1) ∧ w = wr) (fun _ _ _ => 0)
  case atStart => exact ⟨rfl, rfl, rfl⟩
  case round =>
    obtain ⟨rfl, rfl, rfl⟩ := hrel
    have h1 : n = 0 ∨ n = 1 := by omega
    rcases h1 with rfl | rfl
    all_goals
      go_wp2
      go_end0
      exact ⟨rfl, rfl⟩
theorem Rev2_calls (g c B : Nat) (x y : Int) (w : World) (h : Own w B 3 (some ⟨g, 0, none⟩) c [x, y]) : Calls Try.prog 87 #[.slice (some ⟨g, 0, none⟩) 2 c] w fun e w' => e = .returned (.tuple #[]) ∧
    Own w' B 3 (some ⟨g, 0, none⟩) c [y, x] ∧ Turned [g] w w' := by
  have hc0 : w.cell? ⟨g, 0, none⟩ = some (.int .i64 x) := by obtain ⟨x1, u, e1, e2, e3⟩ := h.cell1 (i := 0) (by simp) rfl; simp at e1; subst e1; simp [Flat.enc] at e2; subst e2; exact e3
  have hc1 : w.cell? ⟨g, 1, none⟩ = some (.int .i64 y) := by obtain ⟨x1, u, e1, e2, e3⟩ := h.cell1 (i := 1) (by simp) rfl; simp at e1; subst e1; simp [Flat.enc] at e2; subst e2; exact e3
  have hf0 := h.frozen 0
  have hf1 := h.frozen 1
  go_enter Try.func87, Try.ntmps87
  go_wp2
  go_loopw [2, 3] (fun i j wr => (i = .int .i64 0 ∧ j = .int .i64 1 ∧ w = wr) ∨ (i = .int .i64 1 ∧ j = .int .i64 0 ∧ Own wr B 3 (some ⟨g, 0, none⟩) c [y, x] ∧ Turned [g] w wr)) (fun i _ _ => 1 - (intOf i).toNat)
  case atStart => exact .inl ⟨rfl, rfl, rfl⟩
  case round =>
    rcases hrel with ⟨rfl, rfl, rfl⟩ | ⟨rfl, rfl, h1, h2⟩
    · go_wp2
      go_region
      all_goals go_wp2
      all_goals go_roundw
      case rel =>
        right
        refine ⟨rfl, rfl, ?_, ?_⟩
        · have := ((h.set1 0 y (.int .i64 y) rfl).set1 1 x (.int .i64 x) rfl).drew
          simpa using this
        · have t1 : ∀ (w : World) (i : Nat) (u : Value), Turned [g] w (w.setCell ⟨g, i, none⟩ u) := fun w i u => Turned.ofGrown (grown_setCell w g i u) (fun g hg => by injection hg with hg; simp [hg])
          exact Turned.drew ((t1 _ _ _).trans (t1 _ _ _) (fun k hk => .inl hk))
      case measure => simp [intOf]
    · go_wp2
      go_end0
      exact ⟨rfl, h1, h2⟩

def ReadsPost (w : World) (x : OpD) (e : Ending) (w' : World) : Prop := ∃ a c, e = .returned (.slice a (readsL x).length c) ∧ Own w' w.heap.size 3 a c (readsL x) ∧ Below w.heap.size w w'
theorem reads_no {x : OpD} (h : aOf x.kind = false) : readsL x = [] := by simp [readsL, h]
theorem reads_two {x : OpD} (h : aOf x.kind = true) (h2 : bOf x.kind = true) : readsL x = [x.a, x.b] := by simp [readsL, h, h2]
theorem reads_one {x : OpD} (h : aOf x.kind = true) (h2 : bOf x.kind = false) : readsL x = [x.a] := by simp [readsL, h, h2]
set_option maxHeartbeats 1600000 in
theorem Reads_calls (x : OpD) (w : World) : Calls Try.prog 73 #[.agg #[.int .i64 x.kind, .int .i64 x.d, .int .i64 x.a, .int .i64 x.b, .int .u64 (x.v.toNat : Int)]] w (ReadsPost w x) := by
  obtain ⟨k, rd, ra, rb, v⟩ := x
  simp only
  have h0 : Own (w.alloc (.cells #[.int .i64 k, .int .i64 rd, .int .i64 ra, .int .i64 rb, .int .u64 (v.toNat : Int)] 61)) w.heap.size 3 none 0 ([] : List Int) := Own.none _ _ _
  rcases kind8 k with h | rfl | rfl | rfl | rfl | rfl | rfl | rfl | rfl | h
  case inl =>
    obtain ⟨h0, h1, h2, h3, h4, h5, h6, h7⟩ := kind_no (.inl h)
    obtain ⟨e1, e2, e3, e4⟩ := asks_no (.inl h)
    have HE := hide (reads_no (x := ⟨k, rd, ra, rb, v⟩) e2)
    clear e1 e2 e3 e4
    go_enter Try.func73, Try.ntmps73
    go_wp2_with (go_at_call 87; ((with_reducible refine (Rev1_calls none 0 0 _ (by omega)).mono ?_); rintro e w1 ⟨rfl, rfl⟩))
    go_ret
    unfold ReadsPost
    rw [HE.out]
    exact ⟨_, _, rfl, Own.none _ _ _, (by with_reducible repeat first | exact Below.refl _ _ | assumption | refine below_drewN ?_ _ | refine Below.drew ?_ | refine Below.alloc ?_ (by simp <;> omega) _ | refine Below.setCell ?_ (by simp <;> omega) _)⟩
  case inr.inr.inr.inr.inr.inr.inr.inr.inr =>
    obtain ⟨h0, h1, h2, h3, h4, h5, h6, h7⟩ := kind_no (.inr h)
    obtain ⟨e1, e2, e3, e4⟩ := asks_no (.inr h)
    have HE := hide (reads_no (x := ⟨k, rd, ra, rb, v⟩) e2)
    clear e1 e2 e3 e4
    go_enter Try.func73, Try.ntmps73
    go_wp2_with (go_at_call 87; ((with_reducible refine (Rev1_calls none 0 0 _ (by omega)).mono ?_); rintro e w1 ⟨rfl, rfl⟩))
    go_ret
    unfold ReadsPost
    rw [HE.out]
    exact ⟨_, _, rfl, Own.none _ _ _, (by with_reducible repeat first | exact Below.refl _ _ | assumption | refine below_drewN ?_ _ | refine Below.drew ?_ | refine Below.alloc ?_ (by simp <;> omega) _ | refine Below.setCell ?_ (by simp <;> omega) _)⟩
  case inr.inl | inr.inr.inr.inr.inr.inr.inl | inr.inr.inr.inr.inr.inr.inr.inr.inl =>
    go_enter Try.func73, Try.ntmps73
    go_wp2_with (go_at_call 87; ((with_reducible refine (Rev1_calls none 0 0 _ (by omega)).mono ?_); rintro e w1 ⟨rfl, rfl⟩))
    go_ret
    unfold ReadsPost
    exact ⟨_, _, rfl, Own.none _ _ _, (by with_reducible repeat first | exact Below.refl _ _ | assumption | refine below_drewN ?_ _ | refine Below.drew ?_ | refine Below.alloc ?_ (by simp <;> omega) _ | refine Below.setCell ?_ (by simp <;> omega) _)⟩
  case inr.inr.inr.inr.inr.inl | inr.inr.inr.inr.inr.inr.inr.inl =>
    go_enter Try.func73, Try.ntmps73
    go_wp2_with (first
      | (at_builtin; refine wpList_push tyI h0 ra rfl rfl rfl rfl rfl (by simp) rfl (by simp) (by omega) ?_; intro a1 c1 w1 own1 hg1 hm1)
      | (go_at_call 87; ((with_reducible refine (Rev1_calls _ _ _ _ (by omega)).mono ?_); rintro e w2 ⟨rfl, rfl⟩)))
    go_ret
    unfold ReadsPost
    exact ⟨_, _, rfl, own1, (Below.alloc (Below.refl _ _) (Nat.le_refl _) _).trans ((below_of_grown hg1).mono (by simp))⟩
  all_goals
    go_enter Try.func73, Try.ntmps73
    go_wp2_with (first
      | (at_builtin; refine wpList_push tyI h0 rb rfl rfl rfl rfl rfl (by simp) rfl (by simp) (by omega) ?_; intro a1 c1 w1 own1 hg1 hm1; clear h0; obtain ⟨x0, x1, x2, x3, x4, y0, y1, y2, y3, y4⟩ := ((Blk.new w 61 _).grown hg1 (by simp)).c5; have hB1 : Below w.heap.size w w1 := (Below.alloc (Below.refl _ _) (Nat.le_refl _) _).trans ((below_of_grown hg1).mono (by simp)); have hz1 := hB1.size)
      | (at_builtin; refine wpList_push tyI own1 ra rfl rfl rfl rfl rfl (by simp) rfl hz1 (by omega) ?_; intro a2 c2 w2 own2 hg2 hm2; obtain ⟨g, rfl, hg3, hg4⟩ := own2.some_ (by simp); have hB2 := below_push hB1 own1 hg2 hz1; clear own1)
      | (go_at_call 87; ((with_reducible refine (Rev2_calls g _ _ _ _ _ own2).mono ?_); rintro e w3 ⟨rfl, own3, hT3⟩)))
    go_ret
    unfold ReadsPost
    exact ⟨_, _, rfl, own3, hT3.below hB2 (by simpa using hg3) hB2.size⟩

/-- the unsigned words as the walk writes them -/
theorem u64_wrap (n : Int) : IntKind.u64.wrap n = n % 18446744073709551616 := by simp [IntKind.wrap, IntKind.signed, IntKind.bits]
theorem u64_add (a b : UInt64) : IntKind.u64.wrap ((a.toNat : Int) + (b.toNat : Int)) = ((a + b).toNat : Int) := by
  rw [u64_wrap, UInt64.toNat_add]; omega
theorem u64_sub (a b : UInt64) : IntKind.u64.wrap ((a.toNat : Int) - (b.toNat : Int)) = ((a - b).toNat : Int) := by
  have ha := a.toNat_lt
  have hb := b.toNat_lt
  rw [u64_wrap, UInt64.toNat_sub]; omega
theorem u64_mul (a b : UInt64) : IntKind.u64.wrap ((a.toNat : Int) * (b.toNat : Int)) = ((a * b).toNat : Int) := by
  rw [u64_wrap, UInt64.toNat_mul, ← Int.natCast_mul]; omega
theorem u64_neg (a : UInt64) : IntKind.u64.wrap (-(a.toNat : Int)) = ((0 - a).toNat : Int) := by
  have ha := a.toNat_lt
  have := u64_sub 0 a
  rw [← this, u64_wrap, u64_wrap]; simp
theorem ret_u {a b : Int} (h : a = b) : Ending.returned (.int .u64 a) = .returned (.int .u64 b) := by rw [h]
theorem apply_no {x : OpD} (a b : UInt64) (h : x.kind < 0 ∨ 7 < x.kind) : applyU x a b = 0 := by
  unfold applyU
  rw [if_neg (by omega), if_neg (by omega), if_neg (by omega), if_neg (by omega), if_neg (by omega), if_neg (by omega)]

theorem Apply_calls (x : OpD) (a b : UInt64) (w : World) : Calls Try.prog 74 #[.agg #[.int .i64 x.kind, .int .i64 x.d, .int .i64 x.a, .int .i64 x.b, .int .u64 (x.v.toNat : Int)], .int .u64 (a.toNat : Int), .int .u64 (b.toNat : Int)] w fun e w' => e = .returned (.int .u64 ((applyU x a b).toNat : Int)) ∧ Below w.heap.size w w' := by
  obtain ⟨k, rd, ra, rb, v⟩ := x
  simp only
  rcases kind8 k with h | rfl | rfl | rfl | rfl | rfl | rfl | rfl | rfl | h
  case inl =>
    obtain ⟨h0, h1, h2, h3, h4, h5, h6, h7⟩ := kind_no (.inl h)
    go_enter Try.func74, Try.ntmps74
    go_wp2
    go_ret
    exact ⟨ret_u (by rw [apply_no a b (.inl h)]; rfl), (by with_reducible repeat first | exact Below.refl _ _ | assumption | refine below_drewN ?_ _ | refine Below.drew ?_ | refine Below.alloc ?_ (by simp <;> omega) _ | refine Below.setCell ?_ (by simp <;> omega) _)⟩
  case inr.inr.inr.inr.inr.inr.inr.inr.inr =>
    obtain ⟨h0, h1, h2, h3, h4, h5, h6, h7⟩ := kind_no (.inr h)
    go_enter Try.func74, Try.ntmps74
    go_wp2
    go_ret
    exact ⟨ret_u (by rw [apply_no a b (.inr h)]; rfl), (by with_reducible repeat first | exact Below.refl _ _ | assumption | refine below_drewN ?_ _ | refine Below.drew ?_ | refine Below.alloc ?_ (by simp <;> omega) _ | refine Below.setCell ?_ (by simp <;> omega) _)⟩
  all_goals
    go_enter Try.func74, Try.ntmps74
    go_wp2
    go_ret
    first
      | exact ⟨ret_u (by simp only [applyU]; first | rfl | exact u64_add a b | exact u64_sub a b | exact u64_mul a b | exact u64_neg a), (by with_reducible repeat first | exact Below.refl _ _ | assumption | refine below_drewN ?_ _ | refine Below.drew ?_ | refine Below.alloc ?_ (by simp <;> omega) _ | refine Below.setCell ?_ (by simp <;> omega) _)⟩
      | trace_state
end Go.Proofs.Ytokkidelbbegjaa

/- Chapter 7, the document's answers: what a kind asks for, whether an operation is one. -/
namespace Go.Proofs.Ytokkidelbbegjaa
set_option linter.unusedVariables false
set_option linter.unusedSimpArgs false
open Go.RowKit

theorem Asks_calls (k : Int) (w : World) : Calls Try.prog 35 #[.int .i64 k] w fun e w' => e = .returned (.agg #[.bool (dOf k), .bool (aOf k), .bool (bOf k), .bool (vOf k)]) ∧ Below w.heap.size w w' := by
  rcases kind8 k with h | rfl | rfl | rfl | rfl | rfl | rfl | rfl | rfl | h
  case inl =>
    obtain ⟨h0, h1, h2, h3, h4, h5, h6, h7⟩ := kind_no (.inl h)
    obtain ⟨e1, e2, e3, e4⟩ := asks_no (.inl h)
    rw [e1, e2, e3, e4]
    clear e1 e2 e3 e4
    have h8 : ¬ (1 ≤ k) := by omega
    go_enter Try.func35, Try.ntmps35
    go_wp2
    exact bodyPost_ret (v := .agg #[.bool false, .bool false, .bool false, .bool false]) (by simp [results, Try.results35, go_sem]) rfl ⟨rfl, (by with_reducible repeat first | exact Below.refl _ _ | assumption | refine below_drewN ?_ _ | refine Below.drew ?_ | refine Below.alloc ?_ (by simp <;> omega) _ | refine Below.setCell ?_ (by simp <;> omega) _)⟩
  case inr.inr.inr.inr.inr.inr.inr.inr.inr =>
    obtain ⟨h0, h1, h2, h3, h4, h5, h6, h7⟩ := kind_no (.inr h)
    obtain ⟨e1, e2, e3, e4⟩ := asks_no (.inr h)
    rw [e1, e2, e3, e4]
    clear e1 e2 e3 e4
    have h8 : 1 ≤ k := by omega
    have h9 : ¬ (k ≤ 3) := by omega
    go_enter Try.func35, Try.ntmps35
    go_wp2
    exact bodyPost_ret (v := .agg #[.bool false, .bool false, .bool false, .bool false]) (by simp [results, Try.results35, go_sem]) rfl ⟨rfl, (by with_reducible repeat first | exact Below.refl _ _ | assumption | refine below_drewN ?_ _ | refine Below.drew ?_ | refine Below.alloc ?_ (by simp <;> omega) _ | refine Below.setCell ?_ (by simp <;> omega) _)⟩
  all_goals
    go_enter Try.func35, Try.ntmps35
    go_wp2
    first
      | exact bodyPost_ret (v := .agg #[.bool false, .bool false, .bool false, .bool false]) (by simp [results, Try.results35, go_sem]) rfl ⟨rfl, (by with_reducible repeat first | exact Below.refl _ _ | assumption | refine below_drewN ?_ _ | refine Below.drew ?_ | refine Below.alloc ?_ (by simp <;> omega) _ | refine Below.setCell ?_ (by simp <;> omega) _)⟩
      | exact bodyPost_ret (v := .agg #[.bool true, .bool true, .bool true, .bool false]) (by simp [results, Try.results35, go_sem]) rfl ⟨rfl, (by with_reducible repeat first | exact Below.refl _ _ | assumption | refine below_drewN ?_ _ | refine Below.drew ?_ | refine Below.alloc ?_ (by simp <;> omega) _ | refine Below.setCell ?_ (by simp <;> omega) _)⟩
      | exact bodyPost_ret (v := .agg #[.bool true, .bool true, .bool false, .bool false]) (by simp [results, Try.results35, go_sem]) rfl ⟨rfl, (by with_reducible repeat first | exact Below.refl _ _ | assumption | refine below_drewN ?_ _ | refine Below.drew ?_ | refine Below.alloc ?_ (by simp <;> omega) _ | refine Below.setCell ?_ (by simp <;> omega) _)⟩
      | exact bodyPost_ret (v := .agg #[.bool true, .bool false, .bool false, .bool true]) (by simp [results, Try.results35, go_sem]) rfl ⟨rfl, (by with_reducible repeat first | exact Below.refl _ _ | assumption | refine below_drewN ?_ _ | refine Below.drew ?_ | refine Below.alloc ?_ (by simp <;> omega) _ | refine Below.setCell ?_ (by simp <;> omega) _)⟩
      | exact bodyPost_ret (v := .agg #[.bool false, .bool false, .bool false, .bool true]) (by simp [results, Try.results35, go_sem]) rfl ⟨rfl, (by with_reducible repeat first | exact Below.refl _ _ | assumption | refine below_drewN ?_ _ | refine Below.drew ?_ | refine Below.alloc ?_ (by simp <;> omega) _ | refine Below.setCell ?_ (by simp <;> omega) _)⟩
theorem idx_d (a b c d : Bool) (w : World) : (Instr.index 77 (.agg #[.bool a, .bool b, .bool c, .bool d]) (.int .i64 0)).run Try.prog w = .ok (.bool a) w := by kernel_rfl

/-- an index into an array as a value -/
theorem wpList_idx {ops : Array Oper} {rest : List Oper} {o : Oper} {act : Act} {Q : Exit → Act → World → Prop} {w : World} (x i : Operand) (hgd : o.guard = none) (ho : o.op = .index 77 x i) (a b c d : Bool)
    (hx : act.eval x = .agg #[.bool a, .bool b, .bool c, .bool d]) (hi : act.eval i = .int .i64 0) (h : wpList Try.prog ops Q rest (act.put o.dst (.bool a)) w) : wpList Try.prog ops Q (o :: rest) act w := by
  refine wpList_plain hgd fun K hK => ?_
  unfold Oper.wp execOp
  simp only [ho, hx, hi, Sem.run_bind, idx_d, Result.andThen_ok, Sem.run_pure]
  exact hK _ _ h
theorem regB_no {n : Int} {b : Bool} (h : n < 0 ∨ 2147483647 < n ∨ (b = false ∧ n ≠ 0)) : regB n b = false := by
  unfold regB
  cases b
  · simp; omega
  · simp at h ⊢; omega
theorem regB_yes {n : Int} {b : Bool} (h0 : 0 ≤ n) (h1 : n ≤ 2147483647) (h : b = true ∨ n = 0) : regB n b = true := by
  unfold regB
  cases b
  · simp at h ⊢; exact h
  · simp; omega


set_option maxHeartbeats 1600000 in
theorem Right7_calls (x : OpD) (w : World) : Calls Try.prog 89 #[.agg #[.int .i64 x.kind, .int .i64 x.d, .int .i64 x.a, .int .i64 x.b, .int .u64 (x.v.toNat : Int)]] w fun e w' => e = .returned (.bool (rightB x)) ∧ Below w.heap.size w w' := by
  obtain ⟨k, rd, ra, rb, v⟩ := x
  have HO := hide (Asks_calls k)
  obtain ⟨R, hR⟩ : ∃ R, R = rightB ⟨k, rd, ra, rb, v⟩ := ⟨_, rfl⟩
  rw [← hR]
  have hR' : R = (decide (0 ≤ k) && decide (k ≤ 7) && regB rd (dOf k) && regB ra (aOf k) && regB rb (bOf k) && (vOf k || decide (v = 0))) := hR
  have HR := hide hR'
  clear hR hR'
  generalize dOf k = D at *
  generalize aOf k = A at *
  generalize bOf k = B at *
  generalize vOf k = V at *
  by_cases k0 : k < 0
  · have e : decide (0 ≤ k) = false := by simp; omega
    have E := hide e
    clear e
    go_enter Try.func89, Try.ntmps89
    go_wp2
    go_ret
    exact ⟨by rw [HR.out, E.out]; simp, (by with_reducible repeat first | exact Below.refl _ _ | assumption | refine below_drewN ?_ _ | refine Below.drew ?_ | refine Below.alloc ?_ (by simp <;> omega) _ | refine Below.setCell ?_ (by simp <;> omega) _)⟩
  by_cases k1 : 7 < k
  · have e : decide (k ≤ 7) = false := by simp; omega
    have E := hide e
    clear e
    go_enter Try.func89, Try.ntmps89
    go_wp2
    go_ret
    exact ⟨by rw [HR.out, E.out]; simp, (by with_reducible repeat first | exact Below.refl _ _ | assumption | refine below_drewN ?_ _ | refine Below.drew ?_ | refine Below.alloc ?_ (by simp <;> omega) _ | refine Below.setCell ?_ (by simp <;> omega) _)⟩
  go_enter Try.func89, Try.ntmps89
  go_wp2_with (go_at_call 35; ((with_reducible refine (HO.out _).mono ?_); rintro e w1 ⟨rfl, hb⟩; obtain ⟨hz, hB1, hX⟩ := box5 hb; obtain ⟨x0, x1, x2, x3, x4, y0, y1, y2, y3, y4⟩ := hX.c5; clear hb hX))
  have hB : Below w.heap.size w ((w1.alloc (.cells #[.bool D, .bool A, .bool B, .bool V] 77)).alloc (.cells #[.int .i64 rd, .int .i64 ra, .int .i64 rb] 154)) := (hB1.alloc (Nat.le_of_lt hz) _).alloc (by simp; omega) _
  go_loopw [5] (fun s wr => ∃ j : Nat, s = .int .i64 j ∧ j ≤ 3 ∧ Hid ((0 < j → regB rd D = true) ∧ (1 < j → regB ra A = true) ∧ (2 < j → regB rb B = true)) ∧ wr = ((w1.alloc (.cells #[.bool D, .bool A, .bool B, .bool V] 77)).alloc (.cells #[.int .i64 rd, .int .i64 ra, .int .i64 rb] 154))) (fun s _ => 3 - (intOf s).toNat)
  case atStart => exact ⟨0, rfl, by omega, ⟨by omega, by omega, by omega⟩, rfl⟩
  case round =>
    obtain ⟨j, rfl, hj3, hj, rfl⟩ := hrel
    have hc : j = 0 ∨ j = 1 ∨ j = 2 ∨ j = 3 := by omega
    rcases hc with rfl | rfl | rfl | rfl
    · by_cases c1 : rd < 0
      · have e : regB rd D = false := regB_no (.inl c1)
        have E := hide e
        clear e
        go_wp2
        go_ret
        exact ⟨by rw [HR.out, E.out]; simp, hB⟩
      by_cases c2 : 2147483647 < rd
      · have e : regB rd D = false := regB_no (.inr (.inl c2))
        have E := hide e
        clear e
        go_wp2
        go_ret
        exact ⟨by rw [HR.out, E.out]; simp, hB⟩
      cases D with
      | false =>
        by_cases c3 : rd = 0
        · have c4 : (rd == 0) = true := by simpa using c3
          have c5 : (rd != 0) = false := by simpa using c3
          have HC := hide c3
          clear c3
          go_wp2
          go_roundw
          case rel => exact ⟨0 + 1, rfl, by omega, by have := regB_yes (n := rd) (b := false) (by omega) (by omega) (.inr HC.out); simp [Hid] at hj ⊢; simp [hj, this], by trivial⟩
          case measure => simp [intOf]
        · have c4 : (rd == 0) = false := by simpa using c3
          have c5 : (rd != 0) = true := by simpa using c3
          have e : regB rd false = false := regB_no (.inr (.inr ⟨rfl, c3⟩))
          have E := hide e
          clear e c3
          go_wp2
          go_ret
          exact ⟨by rw [HR.out, E.out]; simp, hB⟩
      | true =>
        go_wp2
        go_roundw
        case rel => exact ⟨0 + 1, rfl, by omega, by have := regB_yes (n := rd) (b := true) (by omega) (by omega) (.inl rfl); simp [Hid] at hj ⊢; simp [hj, this], by trivial⟩
        case measure => simp [intOf]
    · by_cases c1 : ra < 0
      · have e : regB ra A = false := regB_no (.inl c1)
        have E := hide e
        clear e
        go_wp2
        go_ret
        exact ⟨by rw [HR.out, E.out]; simp, hB⟩
      by_cases c2 : 2147483647 < ra
      · have e : regB ra A = false := regB_no (.inr (.inl c2))
        have E := hide e
        clear e
        go_wp2
        go_ret
        exact ⟨by rw [HR.out, E.out]; simp, hB⟩
      cases A with
      | false =>
        by_cases c3 : ra = 0
        · have c4 : (ra == 0) = true := by simpa using c3
          have c5 : (ra != 0) = false := by simpa using c3
          have HC := hide c3
          clear c3
          go_wp2
          go_roundw
          case rel => exact ⟨1 + 1, rfl, by omega, by have := regB_yes (n := ra) (b := false) (by omega) (by omega) (.inr HC.out); simp [Hid] at hj ⊢; simp [hj, this], by trivial⟩
          case measure => simp [intOf]
        · have c4 : (ra == 0) = false := by simpa using c3
          have c5 : (ra != 0) = true := by simpa using c3
          have e : regB ra false = false := regB_no (.inr (.inr ⟨rfl, c3⟩))
          have E := hide e
          clear e c3
          go_wp2
          go_ret
          exact ⟨by rw [HR.out, E.out]; simp, hB⟩
      | true =>
        go_wp2
        go_roundw
        case rel => exact ⟨1 + 1, rfl, by omega, by have := regB_yes (n := ra) (b := true) (by omega) (by omega) (.inl rfl); simp [Hid] at hj ⊢; simp [hj, this], by trivial⟩
        case measure => simp [intOf]
    · by_cases c1 : rb < 0
      · have e : regB rb B = false := regB_no (.inl c1)
        have E := hide e
        clear e
        go_wp2
        go_ret
        exact ⟨by rw [HR.out, E.out]; simp, hB⟩
      by_cases c2 : 2147483647 < rb
      · have e : regB rb B = false := regB_no (.inr (.inl c2))
        have E := hide e
        clear e
        go_wp2
        go_ret
        exact ⟨by rw [HR.out, E.out]; simp, hB⟩
      cases B with
      | false =>
        by_cases c3 : rb = 0
        · have c4 : (rb == 0) = true := by simpa using c3
          have c5 : (rb != 0) = false := by simpa using c3
          have HC := hide c3
          clear c3
          go_wp2
          go_roundw
          case rel => exact ⟨2 + 1, rfl, by omega, by have := regB_yes (n := rb) (b := false) (by omega) (by omega) (.inr HC.out); simp [Hid] at hj ⊢; simp [hj, this], by trivial⟩
          case measure => simp [intOf]
        · have c4 : (rb == 0) = false := by simpa using c3
          have c5 : (rb != 0) = true := by simpa using c3
          have e : regB rb false = false := regB_no (.inr (.inr ⟨rfl, c3⟩))
          have E := hide e
          clear e c3
          go_wp2
          go_ret
          exact ⟨by rw [HR.out, E.out]; simp, hB⟩
      | true =>
        go_wp2
        go_roundw
        case rel => exact ⟨2 + 1, rfl, by omega, by have := regB_yes (n := rb) (b := true) (by omega) (by omega) (.inl rfl); simp [Hid] at hj ⊢; simp [hj, this], by trivial⟩
        case measure => simp [intOf]
    · have hk0 : decide (0 ≤ k) = true := by simp; omega
      have hk1 : decide (k ≤ 7) = true := by simp; omega
      have E := hide (And.intro hk0 hk1)
      clear hk0 hk1
      have hu := u64_zero v
      cases V with
      | true =>
        go_wp2
        go_ret
        obtain ⟨q1, q2, q3⟩ := hj.out
        exact ⟨by rw [HR.out, E.out.1, E.out.2, q1 (by omega), q2 (by omega), q3 (by omega)]; rfl, hB⟩
      | false =>
        go_wp2
        go_ret
        obtain ⟨q1, q2, q3⟩ := hj.out
        exact ⟨by rw [HR.out, E.out.1, E.out.2, q1 (by omega), q2 (by omega), q3 (by omega)]; simp [u64_zero], hB⟩
end Go.Proofs.Ytokkidelbbegjaa
