/- Chapter 8: Parts of both, Inside. -/
import Derived.Test.YtgakjkeigoiekaaN8h
namespace Go.Proofs.Ytgakjkeigoiekaa
set_option linter.unusedVariables false
set_option linter.unusedSimpArgs false
open Go.RowKit

section
variable {P : Program} (w : World)
theorem run_equalIn_pair (d : Nat) (t e : TypeId) (ht : P.underlying t = some (.array 2 e)) (he : P.underlying e = some (.int .i64)) (hsz : ∀ w, (sizeOf e).run P w = .ok 1 w) (a b a' b' : Int) :
    (Op.equalIn (d + 2) t (.agg #[.int .i64 a, .int .i64 b]) (.agg #[.int .i64 a', .int .i64 b'])).run P w = .ok (a == a' && b == b') w := by
  rw [Op.equalIn]
  simp only [Sem.run_bind, run_underlying ht, Result.andThen_ok, hsz, Std.Legacy.Range.forIn_eq_forIn_range', Std.Legacy.Range.size, Nat.sub_zero, Nat.add_sub_cancel, Nat.div_one]
  have p0 : ∀ (x y : Int) w, (part e #[.int .i64 x, .int .i64 y] (0 * 1)).run P w = .ok (.int .i64 x) w := fun x y w => by simp [part, isAgg, run_underlying he]
  have p1 : ∀ (x y : Int) w, (part e #[.int .i64 x, .int .i64 y] (1 * 1)).run P w = .ok (.int .i64 y) w := fun x y w => by simp [part, isAgg, run_underlying he]
  have pe : ∀ (x y : Int) w, (Op.equalIn (d + 1) e (.int .i64 x) (.int .i64 y)).run P w = .ok (x == y) w := fun x y w => run_equalIn_int w d e .i64 .i64 x y he
  simp only [List.range', List.forIn_cons, List.forIn_nil, Sem.run_bind, p0, p1, pe, Result.andThen_ok]
  cases h1 : (a == a')
  · simp
  · cases h2 : (b == b')
    · simp [Nat.zero_add, p1, pe, h2]
    · simp [Nat.zero_add, p1, pe, h2]
theorem run_eql_pair (t e : TypeId) (ht : P.underlying t = some (.array 2 e)) (he : P.underlying e = some (.int .i64)) (hsz : ∀ w, (sizeOf e).run P w = .ok 1 w) (a b a' b' : Int) :
    (binOp .eql t (.agg #[.int .i64 a, .int .i64 b]) (.agg #[.int .i64 a', .int .i64 b'])).run P w = .ok (.bool (a == a' && b == b')) w := by
  rw [run_eql_struct, run_equalIn_pair w 9998 t e ht he hsz]
  rfl
theorem run_neq_pair (t e : TypeId) (ht : P.underlying t = some (.array 2 e)) (he : P.underlying e = some (.int .i64)) (hsz : ∀ w, (sizeOf e).run P w = .ok 1 w) (a b a' b' : Int) :
    (binOp .neq t (.agg #[.int .i64 a, .int .i64 b]) (.agg #[.int .i64 a', .int .i64 b'])).run P w = .ok (.bool (!(a == a' && b == b'))) w := by
  rw [run_neq_struct, run_equalIn_pair w 9998 t e ht he hsz]
  rfl
end
theorem run_eqlP (w : World) (a b a' b' : Int) : (binOp .eql 57 (.agg #[.int .i64 a, .int .i64 b]) (.agg #[.int .i64 a', .int .i64 b'])).run Try.prog w = .ok (.bool (a == a' && b == b')) w :=
  run_eql_pair w 57 3 Try.underlying57 Try.underlying3 (fun w => by simp [go_sem]) a b a' b'
theorem run_neqP (w : World) (a b a' b' : Int) : (binOp .neq 57 (.agg #[.int .i64 a, .int .i64 b]) (.agg #[.int .i64 a', .int .i64 b'])).run Try.prog w = .ok (.bool (!(a == a' && b == b'))) w :=
  run_neq_pair w 57 3 Try.underlying57 Try.underlying3 (fun w => by simp [go_sem]) a b a' b'

theorem tyP : Ty Try.prog 52 57 (Int × Int) := Ty.of (z := .agg #[.int .i64 0, .int .i64 0]) (size := 2) (bytes := 16) Try.underlying52 (by kernel_rfl) rfl (by decide) rfl

/-- what stands in no block, as the document finds it -/
def rpAt (l : List OpD) (k : Nat) : List (Int × Int) := rpF 0 0 (l.take k) ((matchL l).take k)
theorem rpAt_succ (l : List OpD) (k : Nat) (x : OpD) (m : Int) (h : l[k]? = some x) (hm : (matchL l)[k]? = some m) : rpAt l (k + 1) = rpAt l k ++ (if 0 < hgt l k ∨ x.kind = 0 then [] else [((k : Int), if x.kind = 7 then m + 1 else (k : Int) + 1)]) := by
  have hk : k < l.length := (List.getElem?_eq_some_iff.1 h).1
  unfold rpAt hgt
  rw [List.take_add_one, List.take_add_one, h, hm, rpF_append _ _ _ _ _ _ (by simp [matchL_length])]
  simp only [Option.toList, rpF, List.length_take, Nat.zero_add, Nat.min_eq_left (Nat.le_of_lt hk), List.append_nil]
theorem rpF_length (n : Int) (o : Nat) (l : List OpD) (ms : List Int) : (rpF n o l ms).length ≤ l.length := by
  induction l generalizing n o ms with
  | nil => simp [rpF]
  | cons x r ih => cases ms with
    | nil => simp [rpF]
    | cons m ms =>
      simp only [rpF, List.length_append, List.length_cons]
      have := ih (if x.kind = 7 then n + 1 else if x.kind = 0 then n - 1 else n) (o + 1) ms
      split <;> simp <;> omega
theorem rpAt_length (l : List OpD) (k : Nat) : (rpAt l k).length ≤ k := by
  have := rpF_length 0 0 (l.take k) ((matchL l).take k)
  unfold rpAt
  simp at this
  omega
def partsL (l : List OpD) : List (Int × Int) := rpAt l l.length
theorem partsL_flat (f : Fo) (hf : f.ok) : partsL f.flat = partsT 0 f := by
  unfold partsL rpAt
  rw [List.take_length, show f.flat.length = (matchL f.flat).length from (matchL_length _).symm, List.take_length, matchL_flat f hf]
  exact rpF_flat f hf 0
theorem matchL_lt (l : List OpD) (hw : well l = true) : ∀ z ∈ matchL l, z < l.length := by
  obtain ⟨f, hf, rfl⟩ := forest_of_well l hw
  rw [matchL_flat f hf]
  intro z hz
  have := mtT_lt f 0 z hz
  simpa [Fo.size] using this
theorem mtT_ge (f : Fo) (o : Nat) : ∀ z ∈ mtT o f, -1 ≤ z := by
  induction f generalizing o with
  | nil => intro z h; simp [mtT] at h
  | leaf op r ih =>
    intro z h
    simp only [mtT, List.mem_cons] at h
    rcases h with rfl | h
    · omega
    · exact ih _ z h
  | rep op b fin r ihb ihr =>
    intro z h
    simp only [mtT, List.mem_cons, List.mem_append] at h
    rcases h with rfl | h | rfl | h
    · omega
    · exact ihb _ z h
    · omega
    · exact ihr _ z h
theorem matchL_ge (l : List OpD) (hw : well l = true) : ∀ z ∈ matchL l, -1 ≤ z := by
  obtain ⟨f, hf, rfl⟩ := forest_of_well l hw
  rw [matchL_flat f hf]
  exact mtT_ge f 0

/-- what stands in no block, or that operations are not well nested -/
def partsS (l : List OpD) : List (Int × Int) × Int := if well l = true then (partsL l, 0) else ([], 6)
def PartsPost (w : World) (l : List OpD) (e : Ending) (w' : World) : Prop :=
  ∃ a c, e = .returned (.tuple #[.slice a (partsS l).1.length c, .int .i64 (partsS l).2]) ∧ Own w' w.heap.size 57 a c (partsS l).1 ∧ Below w.heap.size w w'

set_option maxRecDepth 100000 in
set_option maxHeartbeats 1600000 in
theorem Parts8_calls (a : Option Addr) (c : Nat) (l : List OpD) (w : World) (h : At w a l) (hl : l.length ≤ 1000000) :
    Calls Try.prog 30 #[.slice a l.length c] w (PartsPost w l) := by
  obtain ⟨Wl, hWl⟩ : ∃ b, b = well l := ⟨_, rfl⟩
  have HWL := hide hWl
  clear hWl
  have hcase : Wl = true ∨ Wl = false := by cases Wl <;> simp
  rcases hcase with rfl | rfl
  rotate_left
  · go_enter Try.func30, Try.ntmps30
    go_wp2_with (go_at_call 25; refine (Match8N a c l _ h hl HWL.out.symm).mono ?_; rintro e w1 ⟨a1, c1, rfl, hbel1⟩)
    go_ret2
    unfold PartsPost
    exact ⟨none, 0, by simp [partsS, ← HWL.out], by simpa [partsS, ← HWL.out] using Own.none _ _ _, hbel1⟩
  · go_enter Try.func30, Try.ntmps30
    go_wp2_with (go_at_call 25; refine (Match8W a c l _ h hl HWL.out.symm).mono ?_; rintro e w1 ⟨a1, c1, rfl, hown1, hbel1⟩; have hat1 := hown1.at_; have hz1 := hbel1.size; have hatl := h.belowN hbel1)
    go_loopw [6, 7] (fun out i wr => ∃ (k : Nat) (ao : Option Addr) (co m : Nat), i = .int .i64 k ∧ out = .slice ao m co ∧ m ≤ (rpAt l k).length ∧ (rpAt l k).length ≤ m ∧ k ≤ l.length ∧ Own wr w1.heap.size 57 ao co (rpAt l k) ∧ Below w1.heap.size w1 wr) (fun _ i _ => l.length - (intOf i).toNat)
    case atStart => exact ⟨0, _, 0, 0, rfl, rfl, by simp [rpAt, rpF], by simp [rpAt, rpF], by omega, by simpa [rpAt, rpF] using Own.new w1 (Nat.le_refl _) _ (Int × Int), Below.alloc (Below.refl _ _) (Nat.le_refl _) _⟩
    case round =>
      obtain ⟨k, ao, co, m, rfl, rfl, hm1, hm2, hk, hown, hbel⟩ := hrel
      have hsz := hbel.size
      have hrl := rpAt_length l k
      by_cases hlt : k < l.length
      · obtain ⟨b1, off1, x, rfl, hx, x0, x1, x2, x3, x4⟩ := hatl.getOp hbel hlt
        obtain ⟨b2, off2, y, rfl, hy, y0⟩ := hat1.getI hbel (show k < (matchL l).length by rw [matchL_length]; omega)
        have hy1 := matchL_lt l HWL.out.symm y (List.mem_of_getElem? hy.out)
        have hy2 := matchL_ge l HWL.out.symm y (List.mem_of_getElem? hy.out)
        have hs := rpAt_succ l k x y hx.out hy.out
        have HS := hide hs
        clear hs
        obtain ⟨hg1, hg2⟩ := hgt_le l k
        have hatr := hatl.belowN (hbel.trans (Below.refl _ _))
        by_cases hh : 0 < hgt l k
        · rw [if_pos (.inl hh), List.append_nil] at HS
          go_wp2_with (go_at_call 51; refine (height_calls _ c k l _ hatr hl hk).mono ?_; rintro e w2 ⟨rfl, rfl⟩)
          go_roundw
          case rel => exact ⟨k + 1, ao, co, m, by go_num, rfl, by rw [HS.out]; exact hm1, by rw [HS.out]; exact hm2, by omega, by rw [HS.out]; exact hown, hbel⟩
          case measure => simp [intOf]; omega
        · rcases kind_cases x with ⟨k7, b7, b0⟩ | ⟨k0, b7, b0⟩ | ⟨k7, k0, b7, b0⟩
          · rw [if_neg (by omega), if_pos k7] at HS
            clear k7
            go_wp2_with (first
              | (go_at_call 51; refine (height_calls _ c k l _ hatr hl hk).mono ?_; rintro e w2 ⟨rfl, rfl⟩)
              | (at_builtin; go_loud (refine wpList_push tyP hown ((k : Int), y + 1) rfl rfl rfl rfl rfl rfl (by omega) hsz (by omega) ?_); intro a2 c2 w2 hown2 hgr2 _))
            rw [← HS.out] at hown2
            have hrl2 := congrArg List.length HS.out
            simp only [List.length_append, List.length_cons, List.length_nil] at hrl2
            go_roundw
            case rel => exact ⟨k + 1, a2, c2, m + 1, by go_num, rfl, by omega, by omega, by omega, hown2, below_push hbel hown hgr2 hsz⟩
            case measure => simp [intOf]; omega
          · rw [if_pos (.inr k0), List.append_nil] at HS
            clear k0
            go_wp2_with (go_at_call 51; refine (height_calls _ c k l _ hatr hl hk).mono ?_; rintro e w2 ⟨rfl, rfl⟩)
            go_roundw
            case rel => exact ⟨k + 1, ao, co, m, by go_num, rfl, by rw [HS.out]; exact hm1, by rw [HS.out]; exact hm2, by omega, by rw [HS.out]; exact hown, hbel⟩
            case measure => simp [intOf]; omega
          · rw [if_neg (by omega), if_neg k7] at HS
            clear k7 k0
            go_wp2_with (first
              | (go_at_call 51; refine (height_calls _ c k l _ hatr hl hk).mono ?_; rintro e w2 ⟨rfl, rfl⟩)
              | (at_builtin; go_loud (refine wpList_push tyP hown ((k : Int), (k : Int) + 1) rfl rfl rfl rfl rfl rfl (by omega) hsz (by omega) ?_); intro a2 c2 w2 hown2 hgr2 _))
            rw [← HS.out] at hown2
            have hrl2 := congrArg List.length HS.out
            simp only [List.length_append, List.length_cons, List.length_nil] at hrl2
            go_roundw
            case rel => exact ⟨k + 1, a2, c2, m + 1, by go_num, rfl, by omega, by omega, by omega, hown2, below_push hbel hown hgr2 hsz⟩
            case measure => simp [intOf]; omega
      · have e : k = l.length := by omega
        subst e
        have hme : m = (rpAt l l.length).length := by omega
        have HME := hide hme
        clear hme
        go_wp2
        go_ret2
        unfold PartsPost
        have e0 : partsS l = (rpAt l l.length, 0) := by unfold partsS; rw [if_pos HWL.out.symm]; rfl
        rw [e0]
        exact ⟨ao, co, by rw [HME.out]; rfl, hown.mono hz1, hbel1.trans (hbel.mono hz1)⟩

/-- one of the parts that are left to tell -/
theorem partsT_cons (o : Nat) (f : Fo) (hf : f.ok) (hn : f.flat ≠ []) : ∃ (m : Int) (g : Fo) (k : Nat) (ms : List Int), g.ok ∧ mtT o f = m :: ms ∧ max (o : Int) m = ((o + k : Nat) : Int) ∧ f.flat.drop (k + 1) = g.flat ∧ k + 1 ≤ f.flat.length ∧ (mtT o f).drop (k + 1) = mtT (o + k + 1) g ∧ partsT o f = ((o : Int), ((o + k + 1 : Nat) : Int)) :: partsT (o + k + 1) g := by
  cases f with
  | nil => simp [Fo.flat] at hn
  | leaf op r => exact ⟨-1, r, 0, mtT (o + 1) r, hf.2.2, rfl, by omega, rfl, by simp [Fo.flat], rfl, rfl⟩
  | rep op b fin r =>
    refine ⟨((o + b.size + 1 : Nat) : Int), r, b.size + 1, _, hf.2.2.2, rfl, by omega, ?_, ?_, ?_, ?_⟩
    · show ((b.flat ++ fin :: r.flat).drop (b.size + 1)) = r.flat
      rw [List.drop_append, List.drop_of_length_le (by simp only [Fo.size]; omega)]
      simp [Fo.size]
    · simp [Fo.flat, Fo.size]
    · show ((mtT (o + 1) b ++ (o : Int) :: mtT (o + b.size + 2) r).drop (b.size + 1)) = _
      rw [List.drop_append, List.drop_of_length_le (by rw [mtT_length]; omega), mtT_length]
      simp
      exact congrArg (fun z => mtT z r) (by omega)
    · rfl

set_option maxRecDepth 100000 in
set_option maxHeartbeats 1600000 in
theorem Parts_calls (a : Option Addr) (c : Nat) (l : List OpD) (w : World) (h : At w a l) (hl : l.length ≤ 1000000) :
    Calls Try.prog 29 #[.slice a l.length c] w (PartsPost w l) := by
  obtain ⟨Wl, hWl⟩ : ∃ b, b = well l := ⟨_, rfl⟩
  have HWL := hide hWl
  clear hWl
  have hcase : Wl = true ∨ Wl = false := by cases Wl <;> simp
  rcases hcase with rfl | rfl
  rotate_left
  · go_enter Try.func29, Try.ntmps29
    go_wp2_with (go_at_call 24; refine (MatchN a c l _ h hl HWL.out.symm).mono ?_; rintro e w1 ⟨a1, c1, rfl, hbel1⟩)
    go_ret2
    unfold PartsPost
    exact ⟨none, 0, by simp [partsS, ← HWL.out], by simpa [partsS, ← HWL.out] using Own.none _ _ _, hbel1⟩
  · obtain ⟨f0, hf0, hlf⟩ := forest_of_well l HWL.out.symm
    have HP : Hid (partsS l = (partsT 0 f0, 0)) := hide (by unfold partsS; rw [if_pos HWL.out.symm, hlf, partsL_flat f0 hf0])
    have HM : Hid (matchL l = mtT 0 f0) := hide (by rw [hlf, matchL_flat f0 hf0])
    have HLF := hide hlf
    have HF0 := hide hf0
    clear hlf hf0
    go_enter Try.func29, Try.ntmps29
    go_wp2_with (go_at_call 24; refine (MatchW a c l _ h hl HWL.out.symm).mono ?_; rintro e w1 ⟨a1, c1, rfl, hown1, hbel1⟩; have hat1 := hown1.at_; have hz1 := hbel1.size; have hatl := h.belowN hbel1)
    go_loopw [6, 7] (fun out i wr => ∃ (k : Nat) (ao : Option Addr) (co m : Nat) (g : Fo) (o : List (Int × Int)), i = .int .i64 k ∧ out = .slice ao m co ∧ m ≤ o.length ∧ o.length ≤ m ∧ m ≤ k ∧ k ≤ l.length ∧ Hid (g.ok) ∧ Hid (l.drop k = g.flat) ∧ Hid ((matchL l).drop k = mtT k g) ∧ Hid (partsT 0 f0 = o ++ partsT k g) ∧ Own wr w1.heap.size 57 ao co o ∧ Below w1.heap.size w1 wr) (fun _ i _ => l.length - (intOf i).toNat)
    case atStart => exact ⟨0, none, 0, 0, f0, [], rfl, rfl, by simp, by simp, by omega, by omega, HF0, HLF, HM, rfl, Own.none _ _ _, Below.refl _ _⟩
    case round =>
      obtain ⟨k, ao, co, m, g, o, rfl, rfl, hm1, hm2, hmk, hk, hg, hlg, hmg, hpg, hown, hbel⟩ := hrel
      have hsz := hbel.size
      by_cases hlt : k < l.length
      · have hne : g.flat ≠ [] := by
          rw [← hlg.out]
          intro e
          have := congrArg List.length e
          simp at this
          omega
        obtain ⟨y', g', q, ms, p1, p2, p3, p4, p5, p6, p7⟩ := partsT_cons k g hg.out hne
        obtain ⟨b2, off2, y, rfl, hy, y0⟩ := hat1.getI hbel (show k < (matchL l).length by rw [matchL_length]; omega)
        have hyy : y = y' := by
          have e1 : ((matchL l).drop k)[0]? = some y := by rw [List.getElem?_drop]; exact hy.out
          rw [hmg.out, p2] at e1
          simpa using e1.symm
        subst hyy
        have hql : k + q + 1 ≤ l.length := by
          have e1 := congrArg List.length hlg.out
          simp only [List.length_drop] at e1
          omega
        have H4 : Hid (l.drop (k + q + 1) = g'.flat) := hide (by rw [← p4, ← hlg.out, List.drop_drop]; congr 1)
        have H6 : Hid ((matchL l).drop (k + q + 1) = mtT (k + q + 1) g') := hide (by rw [← p6, ← hmg.out, List.drop_drop]; congr 1)
        have H7 : Hid (partsT 0 f0 = o ++ [((k : Int), ((k + q + 1 : Nat) : Int))] ++ partsT (k + q + 1) g') := hide (by rw [hpg.out, p7]; simp)
        have H1 := hide p1
        obtain ⟨E, hE⟩ : ∃ E, E = k + q + 1 := ⟨_, rfl⟩
        rw [← hE] at H4 H6 H7 hql
        have hyE : ((k : Int) ≤ y ∧ y + 1 = (E : Int)) ∨ (y < k ∧ (k : Int) + 1 = E) := by omega
        have hkE : k + 1 ≤ E := by omega
        clear p1 p2 p3 p4 p5 p6 p7 hlg hmg hpg hg hne hE
        have hcs : (k : Int) < y ∨ y ≤ k := by omega
        rcases hcs with hc | hc
        · have hyE2 : y + 1 = (E : Int) := by omega
          have hyb : y + 1 ≤ (l.length : Int) := by omega
          have HYE := hide hyE2
          clear hyE hyE2
          go_wp2_with (at_builtin; go_loud (refine wpList_push tyP hown ((k : Int), y + 1) rfl rfl rfl rfl rfl rfl (by omega) hsz (by omega) ?_); intro a2 c2 w2 hown2 hgr2 _)
          rw [HYE.out] at hown2
          go_roundw
          case rel => exact ⟨E, a2, c2, m + 1, g', o ++ [((k : Int), (E : Int))], by rw [HYE.out], rfl, by simp; omega, by simp; omega, by omega, by omega, H1, H4, H6, H7, hown2, below_push hbel hown hgr2 hsz⟩
          case measure => rw [HYE.out]; simp [intOf]; omega
        · have hyE2 : (k : Int) + 1 = (E : Int) := by omega
          have HYE := hide hyE2
          clear hyE hyE2
          go_wp2_with (at_builtin; go_loud (refine wpList_push tyP hown ((k : Int), (k : Int) + 1) rfl rfl rfl rfl rfl rfl (by omega) hsz (by omega) ?_); intro a2 c2 w2 hown2 hgr2 _)
          rw [HYE.out] at hown2
          go_roundw
          case rel => exact ⟨E, a2, c2, m + 1, g', o ++ [((k : Int), (E : Int))], by rw [HYE.out], rfl, by simp; omega, by simp; omega, by omega, by omega, H1, H4, H6, H7, hown2, below_push hbel hown hgr2 hsz⟩
          case measure => rw [HYE.out]; simp [intOf]; omega
      · have e : k = l.length := by omega
        subst e
        have hg0 : g.flat = [] := by rw [← hlg.out]; simp
        have hgn : g = .nil := by cases g <;> simp [Fo.flat] at hg0 ⊢
        subst hgn
        have hpo : partsT 0 f0 = o := by rw [hpg.out]; simp [partsT]
        have HPO := hide hpo
        have hme : m = o.length := by omega
        have HME := hide hme
        clear hme hpo hg0
        go_wp2
        go_ret2
        unfold PartsPost
        rw [HP.out, HPO.out]
        exact ⟨ao, co, by rw [HME.out]; rfl, hown.mono hz1, hbel1.trans (hbel.mono hz1)⟩

set_option maxRecDepth 100000 in
set_option maxHeartbeats 1600000 in
theorem Inside_calls (a : Option Addr) (c : Nat) (l : List OpD) (i : Int) (w : World) (h : At w a l) (hc : l.length ≤ c) (hl : l.length ≤ 1000000) (hi1 : -9223372036854775808 ≤ i) (hi2 : i ≤ 9223372036854775807) :
    Calls Try.prog 33 #[.slice a l.length c, .int .i64 i] w (Inside8Post w l i) := by
  obtain ⟨Wl, hWl⟩ : ∃ b, b = well l := ⟨_, rfl⟩
  have HWL := hide hWl
  clear hWl
  have hcase : Wl = true ∨ Wl = false := by cases Wl <;> simp
  rcases hcase with rfl | rfl
  rotate_left
  · go_enter Try.func33, Try.ntmps33
    go_wp2_with (go_at_call 24; refine (MatchN a c l _ h hl HWL.out.symm).mono ?_; rintro e w1 ⟨a1, c1, rfl, hbel1⟩)
    go_ret2
    unfold Inside8Post
    exact ⟨none, 0, by simp [insideS, ← HWL.out], by simpa [insideS, ← HWL.out] using Own.none _ _ _, hbel1⟩
  · have h3 : i < 0 ∨ (0 ≤ i ∧ (l.length : Int) ≤ i) ∨ (0 ≤ i ∧ i < l.length) := by omega
    rcases h3 with hi0 | ⟨hi0, hi5⟩ | ⟨hi0, hi5⟩
    · go_enter Try.func33, Try.ntmps33
      go_wp2_with (go_at_call 24; refine (MatchW a c l _ h hl HWL.out.symm).mono ?_; rintro e w1 ⟨a1, c1, rfl, hown1, hbel1⟩)
      go_ret2
      unfold Inside8Post
      have e0 : insideS l i = ([], 2) := by unfold insideS; rw [if_pos HWL.out.symm, if_neg (by omega)]
      rw [e0]
      exact ⟨none, 0, rfl, Own.none _ _ _, hbel1⟩
    · go_enter Try.func33, Try.ntmps33
      go_wp2_with (go_at_call 24; refine (MatchW a c l _ h hl HWL.out.symm).mono ?_; rintro e w1 ⟨a1, c1, rfl, hown1, hbel1⟩)
      go_ret2
      unfold Inside8Post
      have e0 : insideS l i = ([], 2) := by unfold insideS; rw [if_pos HWL.out.symm, if_neg (by omega)]
      rw [e0]
      exact ⟨none, 0, rfl, Own.none _ _ _, hbel1⟩
    · obtain ⟨n, rfl⟩ : ∃ n : Nat, i = n := ⟨i.toNat, by omega⟩
      have hn : n < l.length := by omega
      obtain ⟨b1, off1, x, rfl, hx, x0, x1, x2, x3, x4⟩ := h.getOp (Below.refl _ _) hn
      by_cases k7 : x.kind = 7
      rotate_left
      · have b7 : (x.kind == 7) = false := by simp [k7]
        have b9 : (x.kind != 7) = true := by simp [k7]
        have e0 := hide (insideS_not l HWL.out.symm n x hx.out k7)
        clear k7
        go_enter Try.func33, Try.ntmps33
        go_wp2_with (go_at_call 24; refine (MatchW _ c l _ h hl HWL.out.symm).mono ?_; rintro e w1 ⟨a1, c1, rfl, hown1, hbel1⟩; have hbc := (bcell hbel1).1; have hbl := World.block_lt_of_cell? _ _ x0; have x0' := (hbc b1 (off1 + n * 5) hbl).trans x0)
        go_ret2
        unfold Inside8Post
        rw [e0.out]
        exact ⟨none, 0, rfl, Own.none _ _ _, hbel1⟩
      · have b7 : (x.kind == 7) = true := by simp [k7]
        have b9 : (x.kind != 7) = false := by simp [k7]
        obtain ⟨S, hS1, hS2, hS3⟩ := insideS_at l HWL.out.symm n x hx.out k7
        have HS1 := hide hS1
        have HS3 := hide hS3
        have hlk : ((l.drop (n + 1)).take S).length = S := by simp; omega
        have HLK := hide hlk
        obtain ⟨E, hE⟩ : ∃ E, E = n + 1 + S := ⟨_, rfl⟩
        rw [← hE] at HS1 hS2
        have hE1 : n + 1 ≤ E := by omega
        have hE2 : E - (n + 1) = S := by omega
        have HE2 := hide hE2
        have hcut : At w (cutA (some ⟨b1, off1, none⟩) (n + 1) c 5) ((l.drop (n + 1)).take S) := (h.cut hc).take S
        generalize hA1 : cutA (some ⟨b1, off1, none⟩) (n + 1) c 5 = A1 at hcut
        clear k7 hS1 hS3 hlk hE hE2
        go_enter Try.func33, Try.ntmps33
        go_wp2_with (first
          | (go_at_call 24; refine (MatchW _ c l _ h hl HWL.out.symm).mono ?_; rintro e w1 ⟨a1, c1, rfl, hown1, hbel1⟩; have hbc := (bcell hbel1).1; have hbl := World.block_lt_of_cell? _ _ x0; have x0' := (hbc b1 (off1 + n * 5) hbl).trans x0; have hz1 := hbel1.size; obtain ⟨b2, off2, m, rfl, hm, m0⟩ := hown1.at_.getI (Below.refl _ _) (show n < (matchL l).length by rw [matchL_length]; omega); obtain rfl : m = (E : Int) := by { have := hm.out.symm.trans HS1.out; simpa using this })
          | (go_at_call 54; go_loud (refine (CloneO_calls _ _ _ ((l.drop (n + 1)).take S) _ (HE2.out.trans HLK.out.symm) (hcut.belowN hbel1) (by omega)).mono ?_); rintro e w3 ⟨a3, c3, rfl, hown3, hbel3⟩))
        go_ret2
        unfold Inside8Post
        rw [HS3.out]
        exact ⟨a3, c3, by simp only [HLK.out, HE2.out]; rfl, hown3.mono hz1, hbel1.trans (hbel3.mono hz1)⟩
end Go.Proofs.Ytgakjkeigoiekaa
