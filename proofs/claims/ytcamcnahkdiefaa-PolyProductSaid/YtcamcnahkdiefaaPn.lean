/- Const and Var of both sides. -/
import Derived.Test.YtcamcnahkdiefaaPt
namespace Go.Proofs.Ytcamcnahkdiefaa
set_option linter.unusedVariables false
set_option linter.unusedSimpArgs false
open Go.RowKit
/-- one term in a box -/
theorem TOut.one {w : World} {g : Nat} {t : Tm} {ea : Option Addr} {en ec : Nat} (hb : Blk w g 57 #[.int .u64 (t.1.toNat : Int), .slice ea en ec]) (hr : TmH.of w ⟨t.1, ea, en, ec⟩ t) : TOut (fun _ => True) w (some ⟨g, 0, none⟩) 1 1 [t] :=
  ⟨rfl, Nat.le_refl _, by decide, AtT.any ⟨[⟨t.1, ea, en, ec⟩], At.ofBlk hb [(⟨t.1, ea, en, ec⟩ : TmH)] rfl, rfl, fun i h s e1 e2 => by
    have hi : i = 0 := by have := (List.getElem?_eq_some_iff.1 e1).1; simp at this; exact this
    subst hi
    simp at e1 e2
    subst e1 e2
    exact hr⟩⟩
theorem TOut.one_ {w : World} {g : Nat} {t : Tm} {ea : Option Addr} {en : Nat} (hb : Blk w g 57 #[.int .u64 (t.1.toNat : Int), .slice ea en en]) (hn : en = t.2.length) (h6 : en ≤ 1000000) (hat : At w ea t.2) : TOut (fun _ => True) w (some ⟨g, 0, none⟩) 1 1 [t] :=
  TOut.one hb ⟨rfl, hn, Nat.le_refl _, by show en ≤ _; omega, hat⟩
def constT (vars : Int) (c : UInt64) : List Tm := [(c, List.replicate vars.toNat 0)]
def varT (vars i : Int) : List Tm := [(1, (List.replicate vars.toNat (0 : Int)).set i.toNat 1)]
def varBad (vars i : Int) : Prop := vars < 0 ∨ 64 < vars ∨ i < 0 ∨ vars ≤ i
instance (vars i : Int) : Decidable (varBad vars i) := by unfold varBad; infer_instance
def varE (vars i : Int) : Int := if varBad vars i then 2 else mkE vars (varT vars i)
def varL (vars i : Int) : List Tm := if varBad vars i then [] else mkL vars (varT vars i)
def varV (vars i : Int) : Int := if varBad vars i then 0 else mkV vars (varT vars i)
set_option maxRecDepth 100000 in
set_option maxHeartbeats 3200000 in
theorem RConst_good (vn : Nat) (h64 : vn ≤ 64) (c : UInt64) (w : World) (V : Int) (L : List Tm) (E : Int) (hV : mkV (vn : Int) (constT (vn : Int) c) = V) (hL : mkL (vn : Int) (constT (vn : Int) c) = L) (hE : mkE (vn : Int) (constT (vn : Int) c) = E) :
    Calls Try.prog 18 #[.int .i64 (vn : Int), .int .u64 (c.toNat : Int)] w (PolyOut V L E w) := by
  have hb0 := below_box w (.cells #[.int .i64 0, .slice none 0 0] 24)
  have hX := Blk.new w 24 #[.int .i64 0, .slice none 0 0]
  have HZZ : Hid ((w.alloc (.cells #[.int .i64 0, .slice none 0 0] 24)).heap.size = w.heap.size + 1) := World.size_alloc _ _
  have h1 : ¬ (vn : Int) < 0 := by omega
  have h2 : ¬ 64 < (vn : Int) := by omega
  have h3 : (0 : Int) ≤ (vn : Int) := by omega
  have h4 : (vn : Int) ≤ 64 := by omega
  have h5 : min (vn : Int) 64 = (vn : Int) := by omega
  have hR : (List.replicate (vn : Int).toNat (0 : Int)).length = vn := by simp
  obtain ⟨t, ht1, ht2⟩ : ∃ t : Tm, c = t.1 ∧ t.2 = List.replicate (vn : Int).toNat 0 := ⟨(c, List.replicate (vn : Int).toNat 0), rfl, rfl⟩
  have hcT : constT (vn : Int) c = [t] := by unfold constT; rw [← ht2, ht1]
  rw [hcT] at hV hL hE
  subst ht1
  have HT := hide ht2
  have HMK := hide (fun (W : World) (g : Nat) (k : TOut (fun _ => True) W (some ⟨g, 0, none⟩) 1 1 [t]) => RMake_calls (fun _ => True) (vn : Int) (some ⟨g, 0, none⟩) 1 1 [t] W k (by decide) (fun s hs => by rw [List.mem_singleton.1 hs, HT.out, hR]; omega) V L E hV hL hE)
  have hlen : t.2.length = vn := by rw [ht2, hR]
  have HLN := hide hlen
  rw [Int.toNat_natCast] at HT
  clear hcT ht2 hlen hR hV hL hE
  go_enter Try.func18, Try.ntmps18
  go_wp2_with (first
    | (at_make; go_must (refine wpList_mk tyI03 (B := (w.alloc (.cells #[.int .i64 0, .slice none 0 0] 24)).heap.size) (n := vn) rfl rfl rfl rfl rfl rfl (Nat.le_refl _) (by omega) ?_; intro w3 hown3 hg3; rw [HZZ.out] at hown3; have hb3 := below_of_grown hg3; have hB3 := hb0.trans (hb3.mono hb0.size); have hX3 := hX.belowN hb3; have hz3 := hb3.size; have hbx := below_box w3 (.cells #[.int .u64 (t.1.toNat : Int), .slice (some ⟨w.heap.size + 1, 0, none⟩) vn vn] 57); have hB4 := hB3.trans (hbx.mono hB3.size); have hX4 := hX3.belowN hbx))
    | (go_at_call 16; go_must ((refine (HMK.out _ _ (TOut.one_ (Blk.new w3 _ #[.int .u64 (t.1.toNat : Int), .slice _ vn vn]) HLN.out.symm (by omega) (by rw [HT.out]; exact (hown3.alloc _).at_))).mono ?_); rintro v w5 ⟨a5, n5, c5, rfl, hT5, hb5⟩; have hB5 := hB4.trans (hb5.mono hB4.size); have hX5 := hX4.belowN hb5; obtain ⟨x0, x1, x2, x3⟩ := hX5.c2)))
  have hF6 := (hX5.set_ 0 (.int .i64 V)).set_ 1 (.slice a5 n5 c5)
  refine bodyPost_ret (results_rowP rfl _ _ (w.heap.size) _ #[.int .i64 V, .slice a5 n5 c5] (0, 0) _ rfl hF6 Try.underlying24 rfl (by kernel_rfl)) rfl ?_
  exact PolyOut.stored hB5 hT5 (Nat.le_refl _) (by rw [World.size_alloc] at hz3; rw [World.size_alloc]; omega) (by rw [World.size_alloc] at hz3; rw [World.size_alloc]; omega)
set_option maxRecDepth 100000 in
set_option maxHeartbeats 3200000 in
theorem PConst_good (vn : Nat) (h64 : vn ≤ 64) (c : UInt64) (w : World) (V : Int) (L : List Tm) (E : Int) (hV : mkV (vn : Int) (constT (vn : Int) c) = V) (hL : mkL (vn : Int) (constT (vn : Int) c) = L) (hE : mkE (vn : Int) (constT (vn : Int) c) = E) :
    Calls Try.prog 17 #[.int .i64 (vn : Int), .int .u64 (c.toNat : Int)] w (PolyOut V L E w) := by
  have hb0 := below_box w (.cells #[.int .i64 0, .slice none 0 0] 24)
  have hX := Blk.new w 24 #[.int .i64 0, .slice none 0 0]
  have HZZ : Hid ((w.alloc (.cells #[.int .i64 0, .slice none 0 0] 24)).heap.size = w.heap.size + 1) := World.size_alloc _ _
  have h1 : ¬ (vn : Int) < 0 := by omega
  have h2 : ¬ 64 < (vn : Int) := by omega
  have h3 : (0 : Int) ≤ (vn : Int) := by omega
  have h4 : (vn : Int) ≤ 64 := by omega
  have h5 : min (vn : Int) 64 = (vn : Int) := by omega
  have hR : (List.replicate (vn : Int).toNat (0 : Int)).length = vn := by simp
  obtain ⟨t, ht1, ht2⟩ : ∃ t : Tm, c = t.1 ∧ t.2 = List.replicate (vn : Int).toNat 0 := ⟨(c, List.replicate (vn : Int).toNat 0), rfl, rfl⟩
  have hcT : constT (vn : Int) c = [t] := by unfold constT; rw [← ht2, ht1]
  rw [hcT] at hV hL hE
  subst ht1
  have HT := hide ht2
  have HMK := hide (fun (W : World) (g : Nat) (k : TOut (fun _ => True) W (some ⟨g, 0, none⟩) 1 1 [t]) => PMake_calls (fun _ => True) (vn : Int) (some ⟨g, 0, none⟩) 1 1 [t] W k (by decide) (fun s hs => by rw [List.mem_singleton.1 hs, HT.out, hR]; omega) V L E hV hL hE)
  have hlen : t.2.length = vn := by rw [ht2, hR]
  have HLN := hide hlen
  rw [Int.toNat_natCast] at HT
  clear hcT ht2 hlen hR hV hL hE
  go_enter Try.func17, Try.ntmps17
  go_wp2_with (first
    | (at_make; go_must (refine wpList_mk tyI03 (B := (w.alloc (.cells #[.int .i64 0, .slice none 0 0] 24)).heap.size) (n := vn) rfl rfl rfl rfl rfl rfl (Nat.le_refl _) (by omega) ?_; intro w3 hown3 hg3; rw [HZZ.out] at hown3; have hb3 := below_of_grown hg3; have hB3 := hb0.trans (hb3.mono hb0.size); have hX3 := hX.belowN hb3; have hz3 := hb3.size; have hbx := below_box w3 (.cells #[.int .u64 (t.1.toNat : Int), .slice (some ⟨w.heap.size + 1, 0, none⟩) vn vn] 57); have hB4 := hB3.trans (hbx.mono hB3.size); have hX4 := hX3.belowN hbx))
    | (go_at_call 15; go_must ((refine (HMK.out _ _ (TOut.one_ (Blk.new w3 _ #[.int .u64 (t.1.toNat : Int), .slice _ vn vn]) HLN.out.symm (by omega) (by rw [HT.out]; exact (hown3.alloc _).at_))).mono ?_); rintro v w5 ⟨a5, n5, c5, rfl, hT5, hb5⟩; have hB5 := hB4.trans (hb5.mono hB4.size); have hX5 := hX4.belowN hb5; obtain ⟨x0, x1, x2, x3⟩ := hX5.c2)))
  have hF6 := (hX5.set_ 0 (.int .i64 V)).set_ 1 (.slice a5 n5 c5)
  refine bodyPost_ret (results_rowP rfl _ _ (w.heap.size) _ #[.int .i64 V, .slice a5 n5 c5] (0, 0) _ rfl hF6 Try.underlying24 rfl (by kernel_rfl)) rfl ?_
  exact PolyOut.stored hB5 hT5 (Nat.le_refl _) (by rw [World.size_alloc] at hz3; rw [World.size_alloc]; omega) (by rw [World.size_alloc] at hz3; rw [World.size_alloc]; omega)
set_option maxRecDepth 100000 in
set_option maxHeartbeats 3200000 in
theorem RVar_calls (vars i : Int) (w : World) (V : Int) (L : List Tm) (E : Int) (hV : varV vars i = V) (hL : varL vars i = L) (hE : varE vars i = E) :
    Calls Try.prog 20 #[.int .i64 vars, .int .i64 i] w (PolyOut V L E w) := by
  have hb0 := below_box w (.cells #[.int .i64 0, .slice none 0 0] 24)
  have hX := Blk.new w 24 #[.int .i64 0, .slice none 0 0]
  have HZZ : Hid ((w.alloc (.cells #[.int .i64 0, .slice none 0 0] 24)).heap.size = w.heap.size + 1) := World.size_alloc _ _
  unfold varV at hV
  unfold varL at hL
  unfold varE at hE
  by_cases hv : varBad vars i
  case pos =>
    rw [if_pos hv] at hV hL hE
    subst hV hL hE
    have fin : ∀ (a : Act), a.tmps.getD 4 undef = .pointer (some ⟨w.heap.size, 0, none⟩) → True := fun _ _ => trivial
    unfold varBad at hv
    by_cases h1 : vars < 0
    · clear hv fin
      go_enter Try.func20, Try.ntmps20
      go_wp2
      refine bodyPost_ret (results_rowP rfl _ _ (w.heap.size) _ #[.int .i64 0, .slice none 0 0] (0, 0) _ rfl hX Try.underlying24 rfl (by kernel_rfl)) rfl ?_
      exact PolyOut.bad _ _ _ hb0
    · by_cases h2 : 64 < vars
      · clear hv fin
        go_enter Try.func20, Try.ntmps20
        go_wp2
        refine bodyPost_ret (results_rowP rfl _ _ (w.heap.size) _ #[.int .i64 0, .slice none 0 0] (0, 0) _ rfl hX Try.underlying24 rfl (by kernel_rfl)) rfl ?_
        exact PolyOut.bad _ _ _ hb0
      · by_cases h3 : i < 0
        · clear hv fin
          go_enter Try.func20, Try.ntmps20
          go_wp2
          refine bodyPost_ret (results_rowP rfl _ _ (w.heap.size) _ #[.int .i64 0, .slice none 0 0] (0, 0) _ rfl hX Try.underlying24 rfl (by kernel_rfl)) rfl ?_
          exact PolyOut.bad _ _ _ hb0
        · have h4 : vars ≤ i := by omega
          clear hv fin
          go_enter Try.func20, Try.ntmps20
          go_wp2
          refine bodyPost_ret (results_rowP rfl _ _ (w.heap.size) _ #[.int .i64 0, .slice none 0 0] (0, 0) _ rfl hX Try.underlying24 rfl (by kernel_rfl)) rfl ?_
          exact PolyOut.bad _ _ _ hb0
  case neg =>
    rw [if_neg hv] at hV hL hE
    have hv' : 0 ≤ vars ∧ vars ≤ 64 ∧ 0 ≤ i ∧ i < vars := by unfold varBad at hv; omega
    obtain ⟨vn, rfl⟩ : ∃ vn : Nat, vars = vn := ⟨vars.toNat, by omega⟩
    obtain ⟨k, rfl⟩ : ∃ k : Nat, i = k := ⟨i.toNat, by omega⟩
    have h1 : ¬ (vn : Int) < 0 := by omega
    have h2 : ¬ 64 < (vn : Int) := by omega
    have h3 : ¬ (k : Int) < 0 := by omega
    have h4 : ¬ (vn : Int) ≤ (k : Int) := by omega
    have h5 : (0 : Int) ≤ (k : Int) := by omega
    have h6 : (k : Int) < (vn : Int) := by omega
    have h7 : k < vn := by omega
    have h8 : vn ≤ 64 := by omega
    obtain ⟨t, ht1, ht2⟩ : ∃ t : Tm, t.1 = 1 ∧ t.2 = (List.replicate vn (0 : Int)).set k 1 := ⟨(1, (List.replicate vn (0 : Int)).set k 1), rfl, rfl⟩
    have hcT : varT (vn : Int) (k : Int) = [t] := by unfold varT; rw [Int.toNat_natCast, Int.toNat_natCast, ← ht2, ← ht1]
    rw [hcT] at hV hL hE
    have HT := hide ht2
    have hlen : t.2.length = vn := by rw [ht2]; simp
    have HLN := hide hlen
    have HMK := hide (fun (W : World) (g : Nat) (k : TOut (fun _ => True) W (some ⟨g, 0, none⟩) 1 1 [t]) => RMake_calls (fun _ => True) (vn : Int) (some ⟨g, 0, none⟩) 1 1 [t] W k (by decide) (fun s hs => by rw [List.mem_singleton.1 hs, HLN.out]; omega) V L E hV hL hE)
    have h1t : (t.1.toNat : Int) = 1 := by rw [ht1]; rfl
    have H1T := hide h1t
    clear hcT ht1 ht2 hlen hV hL hE h1t hv hv'
    go_enter Try.func20, Try.ntmps20
    go_wp2_with (first
      | (at_make; go_must (refine wpList_mk tyI03 (B := (w.alloc (.cells #[.int .i64 0, .slice none 0 0] 24)).heap.size) (n := vn) rfl rfl rfl rfl rfl rfl (Nat.le_refl _) (by omega) ?_; intro w3 hown3 hg3; rw [HZZ.out] at hown3; have hb3 := below_of_grown hg3; have hB3 := hb0.trans (hb3.mono hb0.size); have hX3 := hX.belowN hb3; have hz3 := hb3.size; have hfz := hown3.frozen k; obtain ⟨z, zu, hz1, hz2, hz4⟩ := hown3.cell1 (i := k) (by simpa using h7) rfl; have hown4 := hown3.set1 k (1 : Int) (.int .i64 1) rfl; have hBN := (fun (cs : Array Value) (T : TypeId) => (World.size_setCell w3 ⟨w.heap.size + 1, k, none⟩ (.int .i64 1)) ▸ Blk.new (w3.setCell ⟨w.heap.size + 1, k, none⟩ (.int .i64 1)) T cs); have hX4 := hX3.far (p := ⟨w.heap.size + 1, k, none⟩) (by simp) (.int .i64 1); have hB4 := hB3.setCell (p := ⟨w.heap.size + 1, k, none⟩) (by simp) (.int .i64 1)))
      | (go_at_call 16; go_must ((refine (HMK.out _ _ (TOut.one_ (by rw [H1T.out]; exact hBN _ _) HLN.out.symm (by omega) (by rw [HT.out]; exact (hown4.alloc _).at_))).mono ?_); rintro v w5 ⟨a5, n5, c5, rfl, hT5, hb5⟩; have hbx := below_box (w3.setCell ⟨w.heap.size + 1, k, none⟩ (.int .i64 1)) (.cells #[.int .u64 1, .slice (some ⟨w.heap.size + 1, 0, none⟩) vn vn] 57); have hB9 := hB4.trans (hbx.mono hB4.size); have hB5 := hB9.trans (hb5.mono hB9.size); have hX5 := (hX4.belowN hbx).belowN hb5; obtain ⟨x0, x1, x2, x3⟩ := hX5.c2)))
    have hF6 := (hX5.set_ 0 (.int .i64 V)).set_ 1 (.slice a5 n5 c5)
    refine bodyPost_ret (results_rowP rfl _ _ (w.heap.size) _ #[.int .i64 V, .slice a5 n5 c5] (0, 0) _ rfl hF6 Try.underlying24 rfl (by kernel_rfl)) rfl ?_
    exact PolyOut.stored hB5 hT5 (Nat.le_refl _) (hX4.belowN hbx).lt hB9.size
set_option maxRecDepth 100000 in
set_option maxHeartbeats 3200000 in
theorem PVar_calls (vars i : Int) (w : World) (V : Int) (L : List Tm) (E : Int) (hV : varV vars i = V) (hL : varL vars i = L) (hE : varE vars i = E) :
    Calls Try.prog 19 #[.int .i64 vars, .int .i64 i] w (PolyOut V L E w) := by
  have hb0 := below_box w (.cells #[.int .i64 0, .slice none 0 0] 24)
  have hX := Blk.new w 24 #[.int .i64 0, .slice none 0 0]
  have HZZ : Hid ((w.alloc (.cells #[.int .i64 0, .slice none 0 0] 24)).heap.size = w.heap.size + 1) := World.size_alloc _ _
  unfold varV at hV
  unfold varL at hL
  unfold varE at hE
  by_cases hv : varBad vars i
  case pos =>
    rw [if_pos hv] at hV hL hE
    subst hV hL hE
    have fin : ∀ (a : Act), a.tmps.getD 4 undef = .pointer (some ⟨w.heap.size, 0, none⟩) → True := fun _ _ => trivial
    unfold varBad at hv
    by_cases h1 : vars < 0
    · clear hv fin
      go_enter Try.func19, Try.ntmps19
      go_wp2
      refine bodyPost_ret (results_rowP rfl _ _ (w.heap.size) _ #[.int .i64 0, .slice none 0 0] (0, 0) _ rfl hX Try.underlying24 rfl (by kernel_rfl)) rfl ?_
      exact PolyOut.bad _ _ _ hb0
    · by_cases h2 : 64 < vars
      · clear hv fin
        go_enter Try.func19, Try.ntmps19
        go_wp2
        refine bodyPost_ret (results_rowP rfl _ _ (w.heap.size) _ #[.int .i64 0, .slice none 0 0] (0, 0) _ rfl hX Try.underlying24 rfl (by kernel_rfl)) rfl ?_
        exact PolyOut.bad _ _ _ hb0
      · by_cases h3 : i < 0
        · clear hv fin
          go_enter Try.func19, Try.ntmps19
          go_wp2
          refine bodyPost_ret (results_rowP rfl _ _ (w.heap.size) _ #[.int .i64 0, .slice none 0 0] (0, 0) _ rfl hX Try.underlying24 rfl (by kernel_rfl)) rfl ?_
          exact PolyOut.bad _ _ _ hb0
        · have h4 : vars ≤ i := by omega
          clear hv fin
          go_enter Try.func19, Try.ntmps19
          go_wp2
          refine bodyPost_ret (results_rowP rfl _ _ (w.heap.size) _ #[.int .i64 0, .slice none 0 0] (0, 0) _ rfl hX Try.underlying24 rfl (by kernel_rfl)) rfl ?_
          exact PolyOut.bad _ _ _ hb0
  case neg =>
    rw [if_neg hv] at hV hL hE
    have hv' : 0 ≤ vars ∧ vars ≤ 64 ∧ 0 ≤ i ∧ i < vars := by unfold varBad at hv; omega
    obtain ⟨vn, rfl⟩ : ∃ vn : Nat, vars = vn := ⟨vars.toNat, by omega⟩
    obtain ⟨k, rfl⟩ : ∃ k : Nat, i = k := ⟨i.toNat, by omega⟩
    have h1 : ¬ (vn : Int) < 0 := by omega
    have h2 : ¬ 64 < (vn : Int) := by omega
    have h3 : ¬ (k : Int) < 0 := by omega
    have h4 : ¬ (vn : Int) ≤ (k : Int) := by omega
    have h5 : (0 : Int) ≤ (k : Int) := by omega
    have h6 : (k : Int) < (vn : Int) := by omega
    have h7 : k < vn := by omega
    have h8 : vn ≤ 64 := by omega
    obtain ⟨t, ht1, ht2⟩ : ∃ t : Tm, t.1 = 1 ∧ t.2 = (List.replicate vn (0 : Int)).set k 1 := ⟨(1, (List.replicate vn (0 : Int)).set k 1), rfl, rfl⟩
    have hcT : varT (vn : Int) (k : Int) = [t] := by unfold varT; rw [Int.toNat_natCast, Int.toNat_natCast, ← ht2, ← ht1]
    rw [hcT] at hV hL hE
    have HT := hide ht2
    have hlen : t.2.length = vn := by rw [ht2]; simp
    have HLN := hide hlen
    have HMK := hide (fun (W : World) (g : Nat) (k : TOut (fun _ => True) W (some ⟨g, 0, none⟩) 1 1 [t]) => PMake_calls (fun _ => True) (vn : Int) (some ⟨g, 0, none⟩) 1 1 [t] W k (by decide) (fun s hs => by rw [List.mem_singleton.1 hs, HLN.out]; omega) V L E hV hL hE)
    have h1t : (t.1.toNat : Int) = 1 := by rw [ht1]; rfl
    have H1T := hide h1t
    clear hcT ht1 ht2 hlen hV hL hE h1t hv hv'
    go_enter Try.func19, Try.ntmps19
    go_wp2_with (first
      | (at_make; go_must (refine wpList_mk tyI03 (B := (w.alloc (.cells #[.int .i64 0, .slice none 0 0] 24)).heap.size) (n := vn) rfl rfl rfl rfl rfl rfl (Nat.le_refl _) (by omega) ?_; intro w3 hown3 hg3; rw [HZZ.out] at hown3; have hb3 := below_of_grown hg3; have hB3 := hb0.trans (hb3.mono hb0.size); have hX3 := hX.belowN hb3; have hz3 := hb3.size; have hfz := hown3.frozen k; obtain ⟨z, zu, hz1, hz2, hz4⟩ := hown3.cell1 (i := k) (by simpa using h7) rfl; have hown4 := hown3.set1 k (1 : Int) (.int .i64 1) rfl; have hBN := (fun (cs : Array Value) (T : TypeId) => (World.size_setCell w3 ⟨w.heap.size + 1, k, none⟩ (.int .i64 1)) ▸ Blk.new (w3.setCell ⟨w.heap.size + 1, k, none⟩ (.int .i64 1)) T cs); have hX4 := hX3.far (p := ⟨w.heap.size + 1, k, none⟩) (by simp) (.int .i64 1); have hB4 := hB3.setCell (p := ⟨w.heap.size + 1, k, none⟩) (by simp) (.int .i64 1)))
      | (go_at_call 15; go_must ((refine (HMK.out _ _ (TOut.one_ (by rw [H1T.out]; exact hBN _ _) HLN.out.symm (by omega) (by rw [HT.out]; exact (hown4.alloc _).at_))).mono ?_); rintro v w5 ⟨a5, n5, c5, rfl, hT5, hb5⟩; have hbx := below_box (w3.setCell ⟨w.heap.size + 1, k, none⟩ (.int .i64 1)) (.cells #[.int .u64 1, .slice (some ⟨w.heap.size + 1, 0, none⟩) vn vn] 57); have hB9 := hB4.trans (hbx.mono hB4.size); have hB5 := hB9.trans (hb5.mono hB9.size); have hX5 := (hX4.belowN hbx).belowN hb5; obtain ⟨x0, x1, x2, x3⟩ := hX5.c2)))
    have hF6 := (hX5.set_ 0 (.int .i64 V)).set_ 1 (.slice a5 n5 c5)
    refine bodyPost_ret (results_rowP rfl _ _ (w.heap.size) _ #[.int .i64 V, .slice a5 n5 c5] (0, 0) _ rfl hF6 Try.underlying24 rfl (by kernel_rfl)) rfl ?_
    exact PolyOut.stored hB5 hT5 (Nat.le_refl _) (hX4.belowN hbx).lt hB9.size
theorem RConst_calls (vars : Int) (c : UInt64) (w : World) (V : Int) (L : List Tm) (E : Int) (hV : mkV vars (constT vars c) = V) (hL : mkL vars (constT vars c) = L) (hE : mkE vars (constT vars c) = E) :
    Calls Try.prog 18 #[.int .i64 vars, .int .u64 (c.toNat : Int)] w (PolyOut V L E w) := by
  by_cases hv : vars < 0 ∨ 64 < vars
  case pos =>
    have hb0 := below_box w (.cells #[.int .i64 0, .slice none 0 0] 24)
    have hX := Blk.new w 24 #[.int .i64 0, .slice none 0 0]
    obtain ⟨q1, q2, q3⟩ := mk_bad hv (constT vars c)
    rw [q1] at hE
    rw [q2] at hV
    rw [q3] at hL
    subst hE hV hL
    by_cases h1 : vars < 0
    · go_enter Try.func18, Try.ntmps18
      go_wp2
      refine bodyPost_ret (results_rowP rfl _ _ (w.heap.size) _ #[.int .i64 0, .slice none 0 0] (0, 0) _ rfl hX Try.underlying24 rfl (by kernel_rfl)) rfl ?_
      exact PolyOut.bad _ _ _ hb0
    · have h2 : 64 < vars := by omega
      go_enter Try.func18, Try.ntmps18
      go_wp2
      refine bodyPost_ret (results_rowP rfl _ _ (w.heap.size) _ #[.int .i64 0, .slice none 0 0] (0, 0) _ rfl hX Try.underlying24 rfl (by kernel_rfl)) rfl ?_
      exact PolyOut.bad _ _ _ hb0
  case neg =>
    obtain ⟨vn, rfl⟩ : ∃ vn : Nat, vars = vn := ⟨vars.toNat, by omega⟩
    exact RConst_good vn (by omega) c w V L E hV hL hE
set_option maxRecDepth 100000 in
set_option maxHeartbeats 3200000 in
theorem PConst_low (vars : Int) (h1 : vars < 0) (h2 : max vars 0 = 0) (c : UInt64) (w : World) :
    Calls Try.prog 17 #[.int .i64 vars, .int .u64 (c.toNat : Int)] w (PolyOut 0 [] 2 w) := by
  have hb0 := below_box w (.cells #[.int .i64 0, .slice none 0 0] 24)
  have hX := Blk.new w 24 #[.int .i64 0, .slice none 0 0]
  have HZZ : Hid ((w.alloc (.cells #[.int .i64 0, .slice none 0 0] 24)).heap.size = w.heap.size + 1) := World.size_alloc _ _
  obtain ⟨t, ht1, ht2⟩ : ∃ t : Tm, c = t.1 ∧ t.2 = List.replicate 0 0 := ⟨(c, List.replicate 0 0), rfl, rfl⟩
  subst ht1
  have HT := hide ht2
  have hlen : t.2.length = 0 := by rw [ht2]; rfl
  have HLN := hide hlen
  obtain ⟨q1, q2, q3⟩ := mk_bad (vars := vars) (by omega) [t]
  have HMK := hide (fun (W : World) (g : Nat) (k : TOut (fun _ => True) W (some ⟨g, 0, none⟩) 1 1 [t]) => PMake_calls (fun _ => True) vars (some ⟨g, 0, none⟩) 1 1 [t] W k (by decide) (fun s hs => by rw [List.mem_singleton.1 hs, HLN.out]; omega) 0 [] 2 q2 q3 q1)
  clear ht2 hlen q1 q2 q3
  go_enter Try.func17, Try.ntmps17
  go_wp2_with (first
    | (at_make; go_must (refine wpList_mk tyI03 (B := (w.alloc (.cells #[.int .i64 0, .slice none 0 0] 24)).heap.size) (n := 0) rfl rfl rfl rfl rfl rfl (Nat.le_refl _) (by omega) ?_; intro w3 hown3 hg3; rw [HZZ.out] at hown3; have hb3 := below_of_grown hg3; have hB3 := hb0.trans (hb3.mono hb0.size); have hX3 := hX.belowN hb3; have hz3 := hb3.size; have hbx := below_box w3 (.cells #[.int .u64 (t.1.toNat : Int), .slice (some ⟨w.heap.size + 1, 0, none⟩) 0 0] 57); have hB4 := hB3.trans (hbx.mono hB3.size); have hX4 := hX3.belowN hbx))
    | (go_at_call 15; go_must ((refine (HMK.out _ _ (TOut.one_ (Blk.new w3 _ #[.int .u64 (t.1.toNat : Int), .slice _ 0 0]) HLN.out.symm (by omega) (by rw [HT.out]; exact (hown3.alloc _).at_))).mono ?_); rintro v w5 ⟨a5, n5, c5, rfl, hT5, hb5⟩; have hB5 := hB4.trans (hb5.mono hB4.size); have hX5 := hX4.belowN hb5; obtain ⟨x0, x1, x2, x3⟩ := hX5.c2)))
  have hF6 := (hX5.set_ 0 (.int .i64 0)).set_ 1 (.slice a5 n5 c5)
  refine bodyPost_ret (results_rowP rfl _ _ (w.heap.size) _ #[.int .i64 0, .slice a5 n5 c5] (0, 0) _ rfl hF6 Try.underlying24 rfl (by kernel_rfl)) rfl ?_
  exact PolyOut.stored hB5 hT5 (Nat.le_refl _) (by rw [World.size_alloc] at hz3; rw [World.size_alloc]; omega) (by rw [World.size_alloc] at hz3; rw [World.size_alloc]; omega)
set_option maxRecDepth 100000 in
set_option maxHeartbeats 3200000 in
theorem PConst_high (vars : Int) (h1 : 64 < vars) (h2 : max vars 0 = vars) (h3 : min vars 64 = 64) (c : UInt64) (w : World) :
    Calls Try.prog 17 #[.int .i64 vars, .int .u64 (c.toNat : Int)] w (PolyOut 0 [] 2 w) := by
  have hb0 := below_box w (.cells #[.int .i64 0, .slice none 0 0] 24)
  have hX := Blk.new w 24 #[.int .i64 0, .slice none 0 0]
  have HZZ : Hid ((w.alloc (.cells #[.int .i64 0, .slice none 0 0] 24)).heap.size = w.heap.size + 1) := World.size_alloc _ _
  obtain ⟨t, ht1, ht2⟩ : ∃ t : Tm, c = t.1 ∧ t.2 = List.replicate 64 0 := ⟨(c, List.replicate 64 0), rfl, rfl⟩
  subst ht1
  have HT := hide ht2
  have hlen : t.2.length = 64 := by rw [ht2]; rfl
  have HLN := hide hlen
  obtain ⟨q1, q2, q3⟩ := mk_bad (vars := vars) (by omega) [t]
  have HMK := hide (fun (W : World) (g : Nat) (k : TOut (fun _ => True) W (some ⟨g, 0, none⟩) 1 1 [t]) => PMake_calls (fun _ => True) vars (some ⟨g, 0, none⟩) 1 1 [t] W k (by decide) (fun s hs => by rw [List.mem_singleton.1 hs, HLN.out]; omega) 0 [] 2 q2 q3 q1)
  clear ht2 hlen q1 q2 q3
  go_enter Try.func17, Try.ntmps17
  go_wp2_with (first
    | (at_make; go_must (refine wpList_mk tyI03 (B := (w.alloc (.cells #[.int .i64 0, .slice none 0 0] 24)).heap.size) (n := 64) rfl rfl rfl rfl rfl rfl (Nat.le_refl _) (by omega) ?_; intro w3 hown3 hg3; rw [HZZ.out] at hown3; have hb3 := below_of_grown hg3; have hB3 := hb0.trans (hb3.mono hb0.size); have hX3 := hX.belowN hb3; have hz3 := hb3.size; have hbx := below_box w3 (.cells #[.int .u64 (t.1.toNat : Int), .slice (some ⟨w.heap.size + 1, 0, none⟩) 64 64] 57); have hB4 := hB3.trans (hbx.mono hB3.size); have hX4 := hX3.belowN hbx))
    | (go_at_call 15; go_must ((refine (HMK.out _ _ (TOut.one_ (Blk.new w3 _ #[.int .u64 (t.1.toNat : Int), .slice _ 64 64]) HLN.out.symm (by omega) (by rw [HT.out]; exact (hown3.alloc _).at_))).mono ?_); rintro v w5 ⟨a5, n5, c5, rfl, hT5, hb5⟩; have hB5 := hB4.trans (hb5.mono hB4.size); have hX5 := hX4.belowN hb5; obtain ⟨x0, x1, x2, x3⟩ := hX5.c2)))
  have hF6 := (hX5.set_ 0 (.int .i64 0)).set_ 1 (.slice a5 n5 c5)
  refine bodyPost_ret (results_rowP rfl _ _ (w.heap.size) _ #[.int .i64 0, .slice a5 n5 c5] (0, 0) _ rfl hF6 Try.underlying24 rfl (by kernel_rfl)) rfl ?_
  exact PolyOut.stored hB5 hT5 (Nat.le_refl _) (by rw [World.size_alloc] at hz3; rw [World.size_alloc]; omega) (by rw [World.size_alloc] at hz3; rw [World.size_alloc]; omega)
theorem PConst_calls (vars : Int) (c : UInt64) (w : World) (V : Int) (L : List Tm) (E : Int) (hV : mkV vars (constT vars c) = V) (hL : mkL vars (constT vars c) = L) (hE : mkE vars (constT vars c) = E) :
    Calls Try.prog 17 #[.int .i64 vars, .int .u64 (c.toNat : Int)] w (PolyOut V L E w) := by
  by_cases hv : vars < 0 ∨ 64 < vars
  case pos =>
    obtain ⟨q1, q2, q3⟩ := mk_bad hv (constT vars c)
    rw [q1] at hE
    rw [q2] at hV
    rw [q3] at hL
    subst hE hV hL
    by_cases h1 : vars < 0
    · exact PConst_low vars h1 (by omega) c w
    · exact PConst_high vars (by omega) (by omega) (by omega) c w
  case neg =>
    obtain ⟨vn, rfl⟩ : ∃ vn : Nat, vars = vn := ⟨vars.toNat, by omega⟩
    exact PConst_good vn (by omega) c w V L E hV hL hE
end Go.Proofs.Ytcamcnahkdiefaa
