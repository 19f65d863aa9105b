/- Several texts of mine in one file. -/
import Derived.Test.YtcamcnahkdiefaaGreatYSRaf
import Derived.Test.YtcamcnahkdiefaaGreatYSRac
import Derived.Test.YtcamcnahkdiefaaGreatYSRaa
import Derived.Test.YtcamcnahkdiefaaGreatYSRad
import Derived.Deep.CutRange
import Derived.Deep.DeepCutAuto
import Derived.Deep.LoopGhost
import Derived.Deep.OwnRows
import Derived.Test.YtcamcnahkdiefaaGreatYSRae
/- Several texts of mine in one file: W3a, Pl, Pl2. -/
/- Chapter 3: what comes out is small; the page's example. -/
namespace Go.Proofs.YtcamcnahkdiefaaGreat
set_option linter.unusedVariables false
set_option linter.unusedSimpArgs false
open Go.RowKit
/-- a polynomial's terms that were handed out -/
structure OutOk (L : List Tm) : Prop where
  len : L.length ≤ 4096
  exp : ∀ t ∈ L, t.2.length ≤ 64
theorem OutOk.nil : OutOk [] := ⟨by decide, fun t ht => by simp at ht⟩
end Go.Proofs.YtcamcnahkdiefaaGreat

/- Plain: sums, products and derivatives by any weights. -/
namespace Go.Proofs.YtcamcnahkdiefaaGreat
set_option linter.unusedVariables false
set_option linter.unusedSimpArgs false
/-- the powers' sum -/
abbrev zipE (e f : List Int) : List Int := List.zipWith (· + ·) e f
theorem lin_map_mul (F : List Int → UInt64) (s : Tm) (B : List Tm) : lin F (B.map (mul1 s)) = s.1 * lin (fun f => F (zipE s.2 f)) B := by
  induction B with
  | nil => simp [lin]
  | cons t B ih =>
    rw [List.map_cons, lin, ih, lin]
    show s.1 * t.1 * F (zipE s.2 t.2) + _ = _
    grind
theorem lin_mul (F : List Int → UInt64) (A B : List Tm) : lin F (mulT A B) = lin (fun e => lin (fun f => F (zipE e f)) B) A := by
  induction A with
  | nil => rfl
  | cons s A ih =>
    have : mulT (s :: A) B = B.map (mul1 s) ++ mulT A B := rfl
    rw [this, lin_append, lin_map_mul, ih, lin]
/-- weights of a derivative -/
def drvF (i : Nat) (F : List Int → UInt64) (e : List Int) : UInt64 := if 0 < e.getD i 0 then UInt64.ofNat (e.getD i 0).toNat * F (e.set i (e.getD i 0 - 1)) else 0
theorem lin_drv1 (F : List Int → UInt64) (i : Nat) (t : Tm) : lin F (drv1 i t) = t.1 * drvF i F t.2 := by
  unfold drv1 drvF
  split
  · rw [lin, lin]; grind
  · rw [lin]; grind
theorem lin_drv (F : List Int → UInt64) (i : Nat) (A : List Tm) : lin F (drvT i A) = lin (drvF i F) A := by
  induction A with
  | nil => rfl
  | cons t A ih =>
    have : drvT i (t :: A) = drv1 i t ++ drvT i A := rfl
    rw [this, lin_append, lin_drv1, ih, lin]
/-- weights that are alike on the powers that stand there -/
theorem lin_congr {F G : List Int → UInt64} {A : List Tm} (h : ∀ t ∈ A, F t.2 = G t.2) : lin F A = lin G A := by
  induction A with
  | nil => rfl
  | cons t A ih => rw [lin, lin, h t List.mem_cons_self, ih fun s hs => h s (List.mem_cons_of_mem _ hs)]
theorem lin_add (F G : List Int → UInt64) (A : List Tm) : lin (fun e => F e + G e) A = lin F A + lin G A := by
  induction A with
  | nil => simp [lin]
  | cons t A ih => rw [lin, lin, lin, ih]; grind
theorem zip_set_l : ∀ (s t : List Int) (i : Nat) (x : Int), i < s.length → i < t.length → zipE (s.set i x) t = (zipE s t).set i (x + t.getD i 0)
  | [], _, _, _, h, _ => by simp at h
  | a :: s, [], _, _, _, h => by simp at h
  | a :: s, b :: t, 0, x, _, _ => rfl
  | a :: s, b :: t, i + 1, x, h, k => by
    have := zip_set_l s t i x (by simpa using h) (by simpa using k)
    simpa [zipE] using this
theorem zip_comm : ∀ (s t : List Int), zipE s t = zipE t s
  | [], [] => rfl
  | [], _ :: _ => rfl
  | _ :: _, [] => rfl
  | a :: s, b :: t => by
    have := zip_comm s t
    simp [zipE] at this ⊢
    exact ⟨Int.add_comm _ _, this⟩
theorem zip_set_r (s t : List Int) (i : Nat) (x : Int) (h : i < s.length) (k : i < t.length) : zipE s (t.set i x) = (zipE s t).set i (s.getD i 0 + x) := by
  rw [zip_comm, zip_set_l t s i x k h, zip_comm, Int.add_comm]
theorem zip_getD (s t : List Int) (i : Nat) (h : i < s.length) (k : i < t.length) : (zipE s t).getD i 0 = s.getD i 0 + t.getD i 0 := by
  simp only [List.getD_eq_getElem?_getD, zipE, List.getElem?_zipWith, List.getElem?_eq_getElem h, List.getElem?_eq_getElem k]
  rfl
theorem ofNat_add (a b : Int) (ha : 0 ≤ a) (hb : 0 ≤ b) : UInt64.ofNat (a + b).toNat = UInt64.ofNat a.toNat + UInt64.ofNat b.toNat := by
  rw [Int.toNat_add ha hb, UInt64.ofNat_add]
theorem InE.getD {e : List Int} (h : InE e) (i : Nat) : 0 ≤ e.getD i 0 := by
  by_cases hi : i < e.length
  · have : e.getD i 0 ∈ e := by rw [List.getD_eq_getElem?_getD, List.getElem?_eq_getElem hi]; exact List.getElem_mem hi
    exact (h _ this).1
  · rw [List.getD_eq_getElem?_getD, List.getElem?_eq_none (by omega)]; exact Int.le_refl _
/-- the derivative of a product, power by power -/
theorem drvF_zip (F : List Int → UInt64) (i : Nat) {s t : List Int} (hs : InE s) (ht : InE t) (h : i < s.length) (k : i < t.length) :
    drvF i F (zipE s t) = drvF i (fun e => F (zipE e t)) s + drvF i (fun f => F (zipE s f)) t := by
  have ha := hs.getD i
  have hb := ht.getD i
  unfold drvF
  rw [zip_getD s t i h k]
  obtain ⟨a, hA⟩ : ∃ a, s.getD i 0 = a := ⟨_, rfl⟩
  obtain ⟨b, hB⟩ : ∃ b, t.getD i 0 = b := ⟨_, rfl⟩
  rw [hA] at ha
  rw [hB] at hb
  rw [hA, hB]
  show (if 0 < a + b then UInt64.ofNat (a + b).toNat * F ((zipE s t).set i (a + b - 1)) else 0) = (if 0 < a then UInt64.ofNat a.toNat * F (zipE (s.set i (a - 1)) t) else 0) + if 0 < b then UInt64.ofNat b.toNat * F (zipE s (t.set i (b - 1))) else 0
  rw [zip_set_l s t i (a - 1) h k, zip_set_r s t i (b - 1) h k, hA, hB, ofNat_add a b ha hb, show a - 1 + b = a + b - 1 by omega, show a + (b - 1) = a + b - 1 by omega]
  by_cases h1 : 0 < a
  · by_cases h2 : 0 < b
    · rw [if_pos (by omega), if_pos h1, if_pos h2]; grind
    · have hb0 : b = 0 := by omega
      subst hb0
      rw [if_pos (by omega), if_pos h1, if_neg h2]
      simp
  · have ha0 : a = 0 := by omega
    subst ha0
    by_cases h2 : 0 < b
    · rw [if_pos (by omega), if_neg h1, if_pos h2]; simp
    · rw [if_neg (by omega), if_neg h1, if_neg h2]; simp
theorem u64_pow_add (x : UInt64) (m n : Nat) : x ^ (m + n) = x ^ m * x ^ n := by
  induction n with
  | zero => rw [Nat.add_zero, UInt64.pow_zero]; grind
  | succ n ih => rw [show m + (n + 1) = (m + n) + 1 by omega, UInt64.pow_succ, UInt64.pow_succ, ih]; grind
theorem monR_zip (xs : List UInt64) : ∀ {e f : List Int}, InE e → InE f → e.length = f.length → monR xs (zipE e f) = monR xs e * monR xs f := by
  induction xs with
  | nil => intro e f _ _ _; simp [monR]
  | cons x xs ih =>
    intro e f he hf hl
    match e, f, hl with
    | [], [], _ => simp [monR]
    | a :: e, b :: f, hl =>
      show monR (x :: xs) ((a + b) :: zipE e f) = _
      rw [monR, monR, monR, ih he.tail hf.tail (by simpa using hl), Int.toNat_add he.head.1 hf.head.1, u64_pow_add]
      grind
theorem lin_scale (F : List Int → UInt64) (c : UInt64) (A : List Tm) : lin (fun e => c * F e) A = c * lin F A := by
  induction A with
  | nil => simp [lin]
  | cons t A ih => rw [lin, lin, ih]; grind
theorem lin_scaleR (F : List Int → UInt64) (c : UInt64) (A : List Tm) : lin (fun e => F e * c) A = lin F A * c := by
  induction A with
  | nil => simp [lin]
  | cons t A ih => rw [lin, lin, ih]; grind
/-- a product at numbers -/
theorem eval_mul (xs : List UInt64) {n : Nat} {A B : List Tm} (hA : LenT n A) (hB : LenT n B) (iA : ∀ t ∈ A, InE t.2) (iB : ∀ t ∈ B, InE t.2) : evalT xs (mulT A B) = evalT xs A * evalT xs B := by
  unfold evalT
  rw [lin_mul]
  have h1 : ∀ s ∈ A, lin (fun f => monR xs (zipE s.2 f)) B = monR xs s.2 * lin (monR xs) B := fun s hs => by
    rw [← lin_scale]
    exact lin_congr fun t ht => monR_zip xs (iA s hs) (iB t ht) (by rw [hA s hs, hB t ht])
  rw [lin_congr (F := fun e => lin (fun f => monR xs (zipE e f)) B) (G := fun e => monR xs e * lin (monR xs) B) h1, lin_scaleR]
/-- what is in order may be -/
theorem chk_of_canon {vars : Int} {n : Nat} : ∀ (pr : Option (List Int)) (l : List Tm), Canon n l → (∀ t ∈ l, rightT vars t.2 = true) → (∀ e, pr = some e → ∀ t ∈ l, ordR e t.2 < 0) → chkT vars pr l = true
  | pr, [], _, _, _ => by cases pr <;> rfl
  | pr, t :: l, hc, hr, hp => by
    have h1 : (t.1 != 0) = true := by simpa using hc.nz t List.mem_cons_self
    have h2 := hr t List.mem_cons_self
    have h3 : okPrev pr t.2 = true := by
      cases pr with
      | none => rfl
      | some e => exact decide_eq_true (hp e rfl t List.mem_cons_self)
    have h4 := chk_of_canon (some t.2) l hc.tail (fun s hs => hr s (List.mem_cons_of_mem _ hs)) (fun e he s hs => by
      injection he with he
      rw [← he]
      exact (List.pairwise_cons.1 hc.srt).1 s hs)
    rw [chkT, h1, h2, h3, h4]; rfl
theorem mem_sort {n : Nat} (l : List Tm) (h : LenT n l) : ∀ t ∈ sortT l, ∃ s ∈ l, s.2 = t.2 := by
  intro t ht
  refine Decidable.byContradiction fun hn => ?_
  have h0 : ∀ s ∈ l, s.2 ≠ t.2 := fun s hs e => hn ⟨s, hs, e⟩
  have h1 := lin_sort (dlt t.2) l h
  rw [lin_dlt_out t.2 l h0, lin_dlt_mem (sortT_canon l h) t ht] at h1
  exact (sortT_canon l h).nz t ht h1
theorem right_sort {vars : Int} {l : List Tm} (h : rightL vars l = true) : rightL vars (sortT l) = true := by
  refine List.all_eq_true.2 fun t ht => ?_
  obtain ⟨s, hs, e⟩ := mem_sort l (rightL_len h) t ht
  rw [← e]
  exact List.all_eq_true.1 h s hs
theorem mk_of_ok {vars : Int} {l : List Tm} (hv : ¬ (vars < 0 ∨ 64 < vars)) (hr : rightL vars l = true) (hl : (sortT l).length ≤ 4096) : mkE vars l = 0 ∧ mkV vars l = vars ∧ mkL vars l = sortT l := by
  have e : mkE vars l = 0 := by unfold mkE; rw [if_neg hv, if_neg (by rw [hr]; decide), if_neg (by omega)]
  exact ⟨e, by unfold mkV; rw [e]; rfl, by unfold mkL; rw [e]; rfl⟩
theorem check_sort {vars : Int} {l : List Tm} (hv : ¬ (vars < 0 ∨ 64 < vars)) (hr : rightL vars l = true) (hl : (sortT l).length ≤ 4096) : checkP vars (sortT l) = true := by
  unfold checkP
  rw [decide_eq_true (show 0 ≤ vars by omega), decide_eq_true (show vars ≤ 64 by omega), decide_eq_true hl, chk_of_canon none _ (sortT_canon l (rightL_len hr)) (List.all_eq_true.1 (right_sort hr)) (fun e he => by cases he)]
  rfl
/-- what came of terms that may be -/
theorem mk_ok0 {vars : Int} {l : List Tm} (h : mkE vars l = 0) : mkV vars l = vars ∧ mkL vars l = sortT l ∧ rightL vars l = true ∧ ¬ (vars < 0 ∨ 64 < vars) ∧ (sortT l).length ≤ 4096 ∧ checkP vars (sortT l) = true := by
  have h0 := h
  unfold mkE at h
  split at h
  · cases h
  · rename_i hv
    split at h
    · cases h
    · rename_i hr
      split at h
      · cases h
      · rename_i hl
        have hr' : rightL vars l = true := by simpa using hr
        exact ⟨by unfold mkV; rw [h0]; rfl, by unfold mkL; rw [h0]; rfl, hr', hv, by omega, check_sort hv hr' (by omega)⟩
end Go.Proofs.YtcamcnahkdiefaaGreat

/- Plain: the derivative of a product. -/
namespace Go.Proofs.YtcamcnahkdiefaaGreat
set_option linter.unusedVariables false
set_option linter.unusedSimpArgs false
theorem drv_facts {va : Int} {A : List Tm} (hA : checkP va A = true) {j : Nat} (hj : (j : Int) < va) : drvOk va A (j : Int) = true ∧ resE (drvOk va A (j : Int)) va (drvT (j : Int).toNat A) = 0 ∧ resV (drvOk va A (j : Int)) va (drvT (j : Int).toNat A) = va ∧
    resL (drvOk va A (j : Int)) va (drvT (j : Int).toNat A) = sortT (drvT j A) ∧ checkP va (sortT (drvT j A)) = true := by
  have hok : drvOk va A (j : Int) = true := by
    unfold drvOk
    rw [hA, decide_eq_true (show (0 : Int) ≤ (j : Int) by omega), decide_eq_true hj]; rfl
  have oA := checkP_ok hA
  have hr := drvT_right (i := j) oA.right
  have hs : (sortT (drvT j A)).length ≤ 4096 := Nat.le_trans (sort_len _) (Nat.le_trans (drvT_len j A) oA.len)
  obtain ⟨h1, h2, h3⟩ := mk_of_ok oA.range hr hs
  rw [hok, Int.toNat_natCast]
  exact ⟨rfl, h1, h2, h3, check_sort oA.range hr hs⟩
end Go.Proofs.YtcamcnahkdiefaaGreat

/- Several texts of mine in one file: N8e, N8g, N8h. -/
/- Chapter 8: Around. -/
namespace Go.Proofs.YtcamcnahkdiefaaGreat
set_option linter.unusedVariables false
set_option linter.unusedSimpArgs false
open Go.RowKit

end Go.Proofs.YtcamcnahkdiefaaGreat

/- Chapter 8, the document's answers: Well, height, Match. -/
namespace Go.Proofs.YtcamcnahkdiefaaGreat
set_option linter.unusedVariables false
set_option linter.unusedSimpArgs false
open Go.RowKit

theorem kind_cases (x : OpD) : (x.kind = 7 ∧ (x.kind == 7) = true ∧ (x.kind == 0) = false) ∨ (x.kind = 0 ∧ (x.kind == 7) = false ∧ (x.kind == 0) = true) ∨ (x.kind ≠ 7 ∧ x.kind ≠ 0 ∧ (x.kind == 7) = false ∧ (x.kind == 0) = false) := by
  by_cases h7 : x.kind = 7
  · left; simp [h7]
  · by_cases h0 : x.kind = 0
    · right; left; simp [h0]
    · right; right; simp [h7, h0]

theorem matchL_length (l : List OpD) : (matchL l).length = l.length := by unfold matchL; rw [mF_length]; simp
end Go.Proofs.YtcamcnahkdiefaaGreat

/- Chapter 8, the document's answers: Deep, Around, Inside, Parts. -/
namespace Go.Proofs.YtcamcnahkdiefaaGreat
set_option linter.unusedVariables false
set_option linter.unusedSimpArgs false
open Go.RowKit

theorem MatchW (a : Option Addr) (c : Nat) (l : List OpD) (w : World) (h : At w a l) (hl : l.length ≤ 1000000) (hw : well l = true) :
    Calls Tryz.prog 96 #[.slice a l.length c] w fun e w' => ∃ a' c', e = .returned (.tuple #[.slice a' l.length c', .int .i64 0]) ∧ Own w' w.heap.size 3 a' c' (matchL l) ∧ Below w.heap.size w w' := by
  refine (Match_calls a c l w h hl).mono ?_
  rintro e w' hp
  unfold MatchPost at hp
  have e0 : matchS l = (matchL l, 0) := by unfold matchS; rw [if_pos hw]
  rw [e0] at hp
  simp only [matchL_length] at hp
  exact hp
theorem MatchN (a : Option Addr) (c : Nat) (l : List OpD) (w : World) (h : At w a l) (hl : l.length ≤ 1000000) (hw : well l = false) :
    Calls Tryz.prog 96 #[.slice a l.length c] w fun e w' => ∃ a' c', e = .returned (.tuple #[.slice a' 0 c', .int .i64 6]) ∧ Below w.heap.size w w' := by
  refine (Match_calls a c l w h hl).mono ?_
  rintro e w' hp
  unfold MatchPost at hp
  have e0 : matchS l = ([], 6) := by unfold matchS; rw [if_neg (by simp [hw])]
  rw [e0] at hp
  obtain ⟨a', c', rfl, h1, h2⟩ := hp
  exact ⟨a', c', rfl, h2⟩

end Go.Proofs.YtcamcnahkdiefaaGreat

/- Several texts of mine in one file: M9a, M9b, M9c, M9d. -/
/- Chapter 9: a block's writes, sums; stores into a slice of structs of the call's own. -/
namespace Go.Proofs.YtcamcnahkdiefaaGreat
set_option linter.unusedVariables false
set_option linter.unusedSimpArgs false
open Go.RowKit

theorem set_flat2 {α : Type} [Flat α] (l : List α) (i f : Nat) (y x : α) (u : Value) (hx : l[i]? = some x) (hf : f < Flat.n α) (hu : Flat.enc y = (Flat.enc x).set f u) : (l.flatMap Flat.enc).set (i * Flat.n α + f) u = (l.set i y).flatMap Flat.enc := by
  induction l generalizing i with
  | nil => simp at hx
  | cons z r ih =>
    cases i with
    | zero =>
      simp at hx
      subst hx
      simp only [List.flatMap_cons, List.set_cons_zero, Nat.zero_mul, Nat.zero_add]
      rw [List.set_append_left _ _ (by rw [Flat.len]; exact hf), hu]
    | succ i =>
      simp only [List.flatMap_cons, List.set_cons_succ]
      rw [List.set_append_right _ _ (by rw [Flat.len, Nat.add_mul]; omega), Flat.len, ← ih i (by simpa using hx)]
      congr 2
      rw [Nat.add_mul]; omega
/-- A store into one cell of an element of a slice of the call's own. -/
theorem Own.setAt {α : Type} [Flat α] {w : World} {B : Nat} {E : TypeId} {g c : Nat} {l : List α} (h : Own w B E (some ⟨g, 0, .none⟩) c l) (i f : Nat) (y x : α) (u : Value) (hx : l[i]? = some x) (hf : f < Flat.n α) (hu : Flat.enc y = (Flat.enc x).set f u) :
    Own (w.setCell ⟨g, i * Flat.n α + f, .none⟩ u) B E (some ⟨g, 0, .none⟩) c (l.set i y) := by
  have := (World.ownsRow.stored h (i * Flat.n α + f) u).1
  unfold Own
  rw [← set_flat2 l i f y x u hx hf hu, List.length_set]
  exact this
/-- A cell of an element of a slice of the call's own. -/
theorem Own.cellAt {α : Type} [Flat α] {w : World} {B : Nat} {E : TypeId} {g c : Nat} {l : List α} (h : Own w B E (some ⟨g, 0, .none⟩) c l) {i f : Nat} {x : α} {u : Value} (hx : l[i]? = some x) (hu : (Flat.enc x)[f]? = some u) : w.cell? ⟨g, i * Flat.n α + f, .none⟩ = some u := by
  obtain ⟨b, off, e, h2⟩ := h.at_ i x hx
  simp at e
  obtain ⟨rfl, rfl⟩ := e
  have := h2 f u hu
  rwa [Nat.zero_add] at this

/-- Slices of the call's own of unlike elements lie apart. -/
theorem Own.ne_E {α β : Type} [Flat α] [Flat β] {w : World} {B B' : Nat} {E E' : TypeId} {g g' c c' : Nat} {l : List α} {l' : List β} (h : Own w B E (some ⟨g, 0, .none⟩) c l) (h' : Own w B' E' (some ⟨g', 0, .none⟩) c' l') (hE : E ≠ E') : g ≠ g' := by
  rintro rfl
  rcases h.2 with ⟨hv, _⟩ | ⟨g1, cap, cur, hv, _, hg, _⟩
  · injection hv with h1; cases h1
  · rcases h'.2 with ⟨hv', _⟩ | ⟨g2, cap', cur', hv', _, hg', _⟩
    · injection hv' with h1; cases h1
    · injection hv with h1
      injection hv' with h2
      simp at h1 h2
      subst h1 h2
      rw [hg] at hg'
      injection hg' with hg'
      injection hg' with _ hg'
      exact hE hg'
theorem blk_div {n : Int} {v : UInt64} (h0 : 0 < n) : (n * (v.toNat : Int) ≤ 65536 ↔ (v.toNat : Int) ≤ 65536 / n) := by
  rw [Int.le_ediv_iff_mul_le h0, Int.mul_comm]
theorem block_calls (n : Int) (v : UInt64) (w : World) (h0 : 0 ≤ n) : Calls Tryz.prog 147 #[.int .i64 n, .int .u64 (v.toNat : Int)] w fun e w' => e = .returned (.tuple #[.int .i64 ((blkS n v).getD 0), .bool (blkS n v).isSome]) ∧ w = w' := by
  by_cases hz : n = 0
  · subst hz
    have e : blkS 0 v = some 0 := by simp [blkS]
    rw [e]
    clear e
    go_enter Tryz.func147, Tryz.ntmps147
    go_wp2
    go_ret2
    exact ⟨rfl, rfl⟩
  · have hnz : (n == 0) = false := by simpa using hz
    by_cases hb : n ≤ 65536
    · have hd := blk_div (n := n) (v := v) (by omega)
      have hd0 : 0 ≤ 65536 / n := Int.ediv_nonneg (by omega) h0
      have hd1 : 65536 / n ≤ 65536 := Int.ediv_le_self _ (by omega)
      have hp : 0 < n := by omega
      by_cases hc : n * (v.toNat : Int) ≤ 65536
      · have e : blkS n v = some (n * (v.toNat : Int)) := by unfold blkS; rw [if_pos ⟨hb, hc⟩]
        have hc2 := hd.1 hc
        have hc3 : 0 ≤ n * (v.toNat : Int) := Int.mul_nonneg h0 (by omega)
        have hv : (v.toNat : Int) ≤ 65536 := by omega
        rw [e]
        clear e hd hz
        go_enter Tryz.func147, Tryz.ntmps147
        go_wp2
        go_ret2
        exact ⟨rfl, rfl⟩
      · have e : blkS n v = none := by unfold blkS; rw [if_neg (fun h => hc h.2)]
        have hc2 : 65536 / n < (v.toNat : Int) := by have := mt hd.2 hc; omega
        rw [e]
        clear e hd hz hc
        go_enter Tryz.func147, Tryz.ntmps147
        go_wp2
        go_ret2
        exact ⟨rfl, rfl⟩
    · have e : blkS n v = none := by unfold blkS; rw [if_neg (fun h => hb h.1)]
      rw [e]
      clear e hz
      go_enter Tryz.func147, Tryz.ntmps147
      go_wp2
      go_ret2
      exact ⟨rfl, rfl⟩

theorem add_calls (a : Option Addr) (c : Nat) (x y : Int) (w : World) (h : At w a [x, y]) (hx : 0 ≤ x ∧ x ≤ 1000000000000000) (hy : 0 ≤ y ∧ y ≤ 1000000000000000) : Calls Tryz.prog 148 #[.slice a 2 c] w fun e w' => e = .returned (.int .i64 (x + y)) ∧ w = w' := by
  obtain ⟨b, off, e, h0⟩ := h 0 x rfl
  obtain ⟨b', off', e', h1⟩ := h 1 y rfl
  subst e
  simp at e'
  obtain ⟨rfl, rfl⟩ := e'
  have c0 : w.cell? ⟨b, off, none⟩ = some (.int .i64 x) := by simpa [Flat.n] using h0 0 _ rfl
  have c1 : w.cell? ⟨b, off + 1, none⟩ = some (.int .i64 y) := by simpa [Flat.n] using h1 0 _ rfl
  obtain ⟨x0, x1⟩ := hx
  obtain ⟨y0, y1⟩ := hy
  clear h0 h1 h
  go_enter Tryz.func148, Tryz.ntmps148
  go_wp2
  go_loopw [3, 8] (fun s i wr => ((i = .int .i64 0 ∧ s = .int .i64 0) ∨ (i = .int .i64 1 ∧ s = .int .i64 x) ∨ (i = .int .i64 2 ∧ s = .int .i64 (x + y))) ∧ w = wr) (fun _ i _ => 2 - (intOf i).toNat)
  case atStart => exact ⟨.inl ⟨rfl, rfl⟩, rfl⟩
  case round =>
    obtain ⟨⟨rfl, rfl⟩ | ⟨rfl, rfl⟩ | ⟨rfl, rfl⟩, rfl⟩ := hrel
    · go_wp2
      go_roundw
      case rel => exact ⟨.inr (.inl ⟨rfl, rfl⟩), by trivial⟩
      case measure => simp [intOf]
    · go_wp2
      go_roundw
      case rel => exact ⟨.inr (.inr ⟨rfl, rfl⟩), by trivial⟩
      case measure => simp [intOf]
    · go_wp2
      go_ret
      exact ⟨rfl, rfl⟩
end Go.Proofs.YtcamcnahkdiefaaGreat

/- Chapter 9: how the program measures. -/
namespace Go.Proofs.YtcamcnahkdiefaaGreat
set_option linter.unusedVariables false
set_option linter.unusedSimpArgs false
open Go.RowKit

theorem tyF : Ty Tryz.prog 227 226 (Int × Int) := Ty.of (z := .agg #[.int .i64 0, .int .i64 0]) (size := 2) (bytes := 16) Tryz.underlying227 (by kernel_rfl) rfl (by decide) rfl
theorem mkI (n : Nat) (hn : n ≤ 1000000) (w : World) : (Instr.makeSlice 90 (.int .i64 (n : Int)) (.int .i64 (n : Int))).run Tryz.prog w = .ok (.slice (some ⟨w.heap.size, 0, none⟩) n n) (w.alloc (.cells (madeCells #[.int .i64 0] n) 3)) :=
  run_make_row' 90 3 (.int .i64 0) 8 Tryz.underlying90 (by kernel_rfl) rfl .i64 .i64 n (by omega) (by omega) w
/-- a new slice of zeros, of one cell each -/
theorem own_made {α : Type} [Flat α] {w : World} {B n : Nat} {E : TypeId} {z : Value} {z0 : α} (he : Flat.enc z0 = [z]) (hB : B ≤ w.heap.size) (hn : n ≤ 1000000) : Own (w.alloc (.cells (madeCells #[z] n) E)) B E (some ⟨w.heap.size, 0, none⟩) n (List.replicate n z0) := by
  have hlen : Flat.n α = 1 := by rw [← Flat.len z0, he]; rfl
  have e : (List.replicate n z0).flatMap Flat.enc = List.replicate n z := by
    induction n with
    | zero => rfl
    | succ n ih => rw [List.replicate_succ, List.flatMap_cons, ih (by omega), he]; rfl
  unfold Own
  rw [e, hlen, List.length_replicate]
  have hs : (madeCells #[z] n).size = n * 1 := by
    have := congrArg List.length (toList_madeCells_one z n)
    simpa using this
  refine ⟨by simp, .inr ⟨w.heap.size, n, _, rfl, hB, heap_alloc_new w _, Nat.le_refl _, by simp only [maxLen]; omega, hs, ?_⟩⟩
  rw [toList_madeCells_one]
  simp

def MeasPost (w : World) (l : List OpD) (e : Ending) (w' : World) : Prop :=
  (well l = true → (∃ S a1 c1 a2 c2, measL l = some S ∧ e = .returned (.tuple #[.slice a1 l.length c1, .slice a2 l.length c2, .int .i64 (S.st.getLast?.getD (0, 0)).2, .int .i64 0]) ∧ Own w' w.heap.size 3 a1 c1 S.sz ∧ Own w' w.heap.size 3 a2 c2 S.rd) ∨
    (measL l = none ∧ e = .returned (.tuple #[.slice none 0 0, .slice none 0 0, .int .i64 0, .int .i64 9]))) ∧
  (well l = false → e = .returned (.tuple #[.slice none 0 0, .slice none 0 0, .int .i64 0, .int .i64 6])) ∧ Below w.heap.size w w'

/-- a slice that was just built -/
theorem own_built {α : Type} [Flat α] {w : World} {B : Nat} {E : TypeId} {cs : Array Value} (l : List α) (hcs : cs.toList = l.flatMap Flat.enc) (hB : B ≤ w.heap.size) (hl : l.length ≤ 1000000) : Own (w.alloc (.cells cs E)) B E (some ⟨w.heap.size, 0, none⟩) l.length l := by
  unfold Own
  have hs : cs.size = l.length * Flat.n α := by rw [← enc_length, ← hcs]; simp
  refine ⟨enc_length l, .inr ⟨w.heap.size, l.length, cs, rfl, hB, heap_alloc_new w _, Nat.le_refl _, by simp only [maxLen]; omega, hs, ?_⟩⟩
  rw [hcs, ← enc_length l, List.take_length]

theorem block_q (n : Int) (v : UInt64) (w : World) (h0 : 0 ≤ n) : Calls Tryz.prog 147 #[.int .i64 n, .int .u64 (v.toNat : Int)] w fun e w' => e = .returned (.tuple #[.int .i64 ((blkS n v).getD 0), .bool (blkS n v).isSome]) ∧ w' = w :=
  (block_calls n v w h0).mono fun e w' ⟨h1, h2⟩ => ⟨h1, h2.symm⟩
theorem writes_of {x : OpD} (h1 : 1 ≤ x.kind) (h2 : x.kind ≤ 6) (w : World) : Calls Tryz.prog 149 #[.agg #[.int .i64 x.kind, .int .i64 x.d, .int .i64 x.a, .int .i64 x.b, .int .u64 (x.v.toNat : Int)]] w fun e w' => e = .returned (.tuple #[.int .i64 x.d, .bool true]) ∧ Below w.heap.size w w' := by
  have := Writes7_calls x w
  rw [dOf_true h1 h2] at this
  simpa using this
theorem wellF_cons {n : Nat} {x : OpD} {r : List OpD} (h : wellF n (x :: r) = true) : 0 ≤ x.kind ∧ x.kind ≤ 7 ∧ (x.kind = 7 → wellF (n + 1) r = true) ∧ (x.kind = 0 → 0 < n ∧ wellF (n - 1) r = true) ∧ (x.kind ≠ 7 → x.kind ≠ 0 → wellF n r = true) := by
  rw [wellF] at h
  by_cases h1 : x.kind < 0 ∨ 7 < x.kind
  · rw [if_pos h1] at h; cases h
  · rw [if_neg h1] at h
    refine ⟨by omega, by omega, fun h7 => ?_, fun h0 => ?_, fun h7 h0 => ?_⟩
    · rwa [if_pos h7] at h
    · rw [if_neg (by omega), if_pos h0] at h
      by_cases hn : n = 0
      · rw [if_pos hn] at h; cases h
      · rw [if_neg hn] at h; exact ⟨by omega, h⟩
    · rwa [if_neg h7, if_neg h0] at h

set_option maxRecDepth 100000 in
set_option maxHeartbeats 1600000 in
theorem measure_bad (a : Option Addr) (c : Nat) (l : List OpD) (w : World) (h : At w a l) (hl : l.length ≤ 1000000) (hw : well l = false) : Calls Tryz.prog 110 #[.slice a l.length c] w (MeasPost w l) := by
  have HM := hide (MatchN a c l w h hl hw)
  have HW := hide hw
  clear hw
  go_enter Tryz.func110, Tryz.ntmps110
  go_wp2
  go_step3
  go_wp2_with (go_at_call 96; ((with_reducible refine (HM.out).mono ?_); rintro e w1 ⟨a1, c1, rfl, hb⟩))
  try rw [Exit.noGoto_ret]
  refine bodyPost_ret (v := .tuple #[.slice none 0 0, .slice none 0 0, .int .i64 0, .int .i64 6]) (by simp [results, Tryz.results110, go_sem]) rfl ?_
  unfold MeasPost
  rw [HW.out]
  exact ⟨(fun h => by cases h), fun _ => rfl, hb⟩

end Go.Proofs.YtcamcnahkdiefaaGreat

/- Chapter 9: how the program measures. -/
namespace Go.Proofs.YtcamcnahkdiefaaGreat
set_option linter.unusedVariables false
set_option linter.unusedSimpArgs false
open Go.RowKit

theorem last_of {α : Type} {st : List α} {m : Nat} {x d : α} (h : st[m]? = some x) (hl : st.length = m + 1) : st.getLast?.getD d = x := by
  rw [List.getLast?_eq_getElem?, hl, Nat.add_sub_cancel, h]; rfl
theorem addTop_set {st : List (Int × Int)} {m : Nat} {x : Int × Int} (h : st[m]? = some x) (hl : st.length = m + 1) (n : Int) : addTop st n = st.set m (x.1, x.2 + n) := by
  unfold addTop
  rw [last_of h hl]
  obtain ⟨r, y, rfl⟩ : ∃ r y, st = r ++ [y] := ⟨st.dropLast, st.getLast (by intro e; subst e; simp at hl), (List.dropLast_concat_getLast _).symm⟩
  simp at hl
  subst hl
  simp

set_option maxRecDepth 100000 in
set_option maxHeartbeats 8000000 in
theorem measure_well (a : Option Addr) (c : Nat) (l : List OpD) (w : World) (h : At w a l) (hl : l.length ≤ 1000000) (hw : well l = true) : Calls Tryz.prog 110 #[.slice a l.length c] w (MeasPost w l) := by
  have HM := hide (MatchW a c l w h hl hw)
  have HW := hide hw
  obtain ⟨R, hR⟩ : ∃ R, R = msF l 0 ⟨[(0, 0)], List.replicate l.length 0, List.replicate l.length 0⟩ l := ⟨_, rfl⟩
  have hRm : measL l = R.bind fun s => if (s.st.getLast?.getD (0, 0)).2 ≤ 65536 then some s else none := by rw [hR]; rfl
  have HR := hide hR
  have HRM := hide hRm
  clear hw hR hRm
  have hmk := fun w => mkI l.length hl w
  go_enter Tryz.func110, Tryz.ntmps110
  go_wp2
  go_step3
  go_upto_region 4 with (go_at_call 96; ((with_reducible refine (HM.out).mono ?_); rintro e w1 ⟨am, cm, rfl, hom, hb⟩))
  have hz1 := hb.size
  go_cut [2, 3] (fun s2 s3 wc => ∃ g1 g2 : Nat, s2 = .slice (some ⟨g1, 0, none⟩) l.length l.length ∧ s3 = .slice (some ⟨g2, 0, none⟩) l.length l.length ∧ Hid (g1 ≠ g2) ∧ Own wc w.heap.size 3 (some ⟨g1, 0, none⟩) l.length (List.replicate l.length (0 : Int)) ∧ Own wc w.heap.size 3 (some ⟨g2, 0, none⟩) l.length (List.replicate l.length (0 : Int)) ∧ Below w.heap.size w wc)
  case first =>
    go_region
    all_goals (go_wp2_with fail; go_meet)
    all_goals
      have k1 : Below w.heap.size w (((w1.alloc (.cells (madeCells #[.int .i64 0] l.length) 3)).alloc (.cells (madeCells #[.int .i64 0] l.length) 3)).drew) := Below.drew ((hb.alloc hz1 _).alloc (by simp; omega) _)
      have k2 : Own (((w1.alloc (.cells (madeCells #[.int .i64 0] l.length) 3)).alloc (.cells (madeCells #[.int .i64 0] l.length) 3)).drew) w.heap.size 3 (some ⟨w1.heap.size, 0, none⟩) l.length (List.replicate l.length (0 : Int)) := ((own_made rfl hz1 hl).alloc _).drew
      have k3 : Own (((w1.alloc (.cells (madeCells #[.int .i64 0] l.length) 3)).alloc (.cells (madeCells #[.int .i64 0] l.length) 3)).drew) w.heap.size 3 (some ⟨w1.heap.size + 1, 0, none⟩) l.length (List.replicate l.length (0 : Int)) := by
        have := (own_made (w := w1.alloc (.cells (madeCells #[.int .i64 0] l.length) 3)) (B := w.heap.size) (E := 3) (z := .int .i64 0) (z0 := (0 : Int)) rfl (by simp; omega) hl).drew
        simpa using this
      first
        | exact ⟨w1.heap.size, w1.heap.size + 1, rfl, rfl, hide (by omega), k2, k3, k1⟩
        | exact ⟨w1.heap.size + 1, w1.heap.size, rfl, rfl, hide (by omega), k3, k2, k1⟩
        | exact ⟨w1.heap.size, w1.heap.size + 1, by simp, by simp, hide (by omega), k2, k3, k1⟩
        | exact ⟨w1.heap.size + 1, w1.heap.size, by simp, by simp, hide (by omega), k3, k2, k1⟩
  case rest =>
    obtain ⟨g1, g2, rfl, rfl, hne, ho1, ho2, hbc⟩ := hcut
    have hzc := hbc.size
    clear hmk
    go_wp2
    go_step3
    go_wp2
    go_loopw [5, 8, 34] (fun s5 s8 s34 wr => ∃ (k m : Nat) (S : Ms) (g8 c8 : Nat), s5 = .int .i64 0 ∧ s34 = .int .i64 k ∧ k ≤ l.length ∧ s8 = .slice (some ⟨g8, 0, none⟩) (m + 1) c8 ∧ Hid (S.st.length = m + 1) ∧ m ≤ k ∧ Hid (wellF m (l.drop k) = true) ∧ Hid (R = msF l k S (l.drop k)) ∧ Hid (MsBd k l.length S) ∧
      Own wr w.heap.size 3 (some ⟨g1, 0, none⟩) l.length S.sz ∧ Own wr w.heap.size 3 (some ⟨g2, 0, none⟩) l.length S.rd ∧ Own wr w.heap.size 226 (some ⟨g8, 0, none⟩) c8 S.st ∧ Below w.heap.size w wr) (fun _ _ i _ => l.length - (intOf i).toNat)
    case atStart =>
      refine ⟨0, 0, ⟨[(0, 0)], List.replicate l.length 0, List.replicate l.length 0⟩, wc.heap.size, 1, rfl, rfl, by omega, rfl, rfl, Nat.le_refl _, HW.out, HR.out, hide ⟨fun x hx => ?_, by simp, by simp⟩, ho1.alloc _, ho2.alloc _, own_built [(0, 0)] rfl hzc (by simp), hbc.alloc hzc _⟩
      simp at hx
      subst hx
      simp
    case round =>
      obtain ⟨k, m, S, g8, c8, rfl, rfl, hk, rfl, hS, hmk, hwk, hRk, hB, ho1, ho2, ho8, hbr⟩ := hrel
      have hzr := hbr.size
      have hmS : m < S.st.length := by rw [hS.out]; omega
      obtain ⟨⟨la, ln⟩, hlast⟩ : ∃ x, S.st[m]? = some x := ⟨_, List.getElem?_eq_getElem hmS⟩
      obtain ⟨hla0, hla1, hln0, hln1⟩ := hB.out.1 _ (List.mem_of_getElem? hlast)
      simp only at hla0 hla1 hln0 hln1
      obtain ⟨j, rfl⟩ := Int.eq_ofNat_of_zero_le hla0
      have t0 : wr.cell? ⟨g8, m * 2, none⟩ = some (.int .i64 (j : Int)) := by simpa [Flat.n] using ho8.cellAt hlast (f := 0) rfl
      have t1 : wr.cell? ⟨g8, m * 2 + 1, none⟩ = some (.int .i64 ln) := by simpa [Flat.n] using ho8.cellAt hlast (f := 1) rfl
      have tf0 := ho8.frozen (m * 2)
      have tf1 := ho8.frozen (m * 2 + 1)
      have hgl1 := (ho1.blk g1 rfl).2
      have hgl2 := (ho2.blk g2 rfl).2
      have hgl8 := (ho8.blk g8 rfl).2
      have hsz1 : S.sz.length = l.length := hB.out.2.1
      have hrd1 : S.rd.length = l.length := hB.out.2.2
      have n18 : g8 ≠ g1 := ho8.ne_E ho1 (by decide)
      have n28 : g8 ≠ g2 := ho8.ne_E ho2 (by decide)
      have n81 := n18.symm
      have n82 := n28.symm
      have n12 : g1 ≠ g2 := hne.out
      have n21 := n12.symm
      have HLT := hide hlast
      have HS1 := hide hsz1
      have HS2 := hide hrd1
      clear hlast hsz1 hrd1 hla0 hmS
      by_cases hlt : k < l.length
      · obtain ⟨b1, off1, x, rfl, hx, x0, x1, x2, x3, x4⟩ := h.getOp hbr hlt
        have hdk := drop_at hx.out
        have hwk' := hwk.out
        rw [hdk] at hwk'
        obtain ⟨q1, q2, q7, q0, qq⟩ := wellF_cons hwk'
        have hRk' := hRk.out
        rw [hdk] at hRk'
        change R = (msStep l k x S).bind (fun s' => msF l (k + 1) s' (l.drop (k + 1))) at hRk'
        have HRK := hide hRk'
        have Q7 := hide q7
        have Q0 := hide q0
        have QQ := hide qq
        clear hdk hwk' hRk' q7 q0 qq
        have hX := Blk.new wr 89 #[.int .i64 x.kind, .int .i64 x.d, .int .i64 x.a, .int .i64 x.b, .int .u64 (x.v.toNat : Int)]
        rcases kind_cases x with ⟨k7, b7, b0⟩ | ⟨k0, b7, b0⟩ | ⟨k7, k0, b7, b0⟩
        · -- a block begins
          have hst : msStep l k x S = some { S with st := S.st ++ [((k : Int), 0)] } := by unfold msStep; rw [if_pos k7]
          have HST := hide hst
          have HB' := hide (hB.out.step hst)
          have HWN := hide (Q7.out k7)
          clear hst k7
          have ho8' : Own (wr.alloc (.cells #[.int .i64 x.kind, .int .i64 x.d, .int .i64 x.a, .int .i64 x.b, .int .u64 (x.v.toNat : Int)] 89)) w.heap.size 226 (some ⟨g8, 0, none⟩) c8 S.st := ho8.alloc _
          go_wp2_with (at_builtin; refine wpList_push tyF ho8' ((k : Int), (0 : Int)) rfl rfl rfl rfl rfl (by simp) hS.out.symm (by simp; omega) (by omega) ?_; intro a3 c3 w3 hown3 hg3 hm3; obtain ⟨g3, rfl, hg3a, hg3b⟩ := hown3.some_ (by simp))
          go_roundw
          case rel =>
            refine ⟨k + 1, m + 1, _, g3, c3, rfl, by go_num, by omega, rfl, ?_, by omega, HWN, ?_, HB', ?_, ?_, hown3, ?_⟩
            · simp [Hid, hS.out]
            · show R = _; rw [HRK.out, HST.out]; rfl
            · exact (ho1.alloc _).grown hg3 (.inr (by simpa using n81))
            · exact (ho2.alloc _).grown hg3 (.inr (by simpa using n82))
            · exact below_push (hbr.alloc hzr _) ho8' hg3 (by simp; omega)
          case measure => simp [intOf]; omega
        · -- a block ends
          obtain ⟨hm0, hwn⟩ := Q0.out k0
          obtain ⟨m', rfl⟩ : ∃ m', m = m' + 1 := ⟨m - 1, by omega⟩
          have hm1 : m' < S.st.length := by rw [hS.out]; omega
          obtain ⟨⟨pa, pn⟩, hprev⟩ : ∃ x, S.st[m']? = some x := ⟨_, List.getElem?_eq_getElem hm1⟩
          obtain ⟨hpa0, hpa1, hpn0, hpn1⟩ := hB.out.1 _ (List.mem_of_getElem? hprev)
          simp only at hpa0 hpa1 hpn0 hpn1
          have p0 : wr.cell? ⟨g8, m' * 2, none⟩ = some (.int .i64 pa) := by simpa [Flat.n] using ho8.cellAt hprev (f := 0) rfl
          have p1 : wr.cell? ⟨g8, m' * 2 + 1, none⟩ = some (.int .i64 pn) := by simpa [Flat.n] using ho8.cellAt hprev (f := 1) rfl
          have pf1 := ho8.frozen (m' * 2 + 1)
          have hjk : j < l.length := by omega
          obtain ⟨b2, off2, y, e, hy, y0, y1, y2, y3, y4⟩ := h.getOp hbr hjk
          simp at e
          obtain ⟨rfl, rfl⟩ := e
          have hv : vAt l (j : Int) = y.v := by unfold vAt; simp [hy.out]
          have hst : msStep l k x S = (blkS ln y.v).map fun n => { st := addTop S.st.dropLast n, sz := S.sz.set j n, rd := S.rd.set j ln } := by
            unfold msStep
            rw [if_neg (by omega), if_pos k0, last_of HLT.out hS.out]
            simp only [hv]
            rfl
          have HST := hide hst
          have HP := hide hprev
          have hown8 : m' + 1 + 1 ≤ c8 := by have := ho8.cap.1; rw [hS.out] at this; exact this
          obtain ⟨z1, u1, e1, e2, s1⟩ := ho1.cell1 (i := j) (by rw [HS1.out]; exact hjk) rfl
          obtain ⟨z2, u2, e3, e4, s2⟩ := ho2.cell1 (i := j) (by rw [HS2.out]; exact hjk) rfl
          have sf1 := ho1.frozen j
          have sf2 := ho2.frozen j
          have HBK := hide (fun w => block_q ln y.v w hln0)
          have hb1l : b1 < wr.heap.size := World.block_lt_of_cell? _ _ x0
          clear hv hst hprev e1 e2 e3 e4 hpa0 hpa1 hm1 hy k0
          cases hbk : blkS ln y.v with
          | none =>
            rw [hbk] at HST HBK
            simp only [Option.getD_none, Option.isSome_none] at HBK
            clear hbk
            have HRN : Hid (R = none) := by rw [HRK.out, HST.out]; rfl
            go_wp2
            go_quiet ((go_at_call 147; exact Calls.quiet_of_same (HBK.out _)))
            go_wp2
            try rw [Exit.noGoto_ret]
            refine bodyPost_ret (v := .tuple #[.slice none 0 0, .slice none 0 0, .int .i64 0, .int .i64 9]) (by simp [results, Tryz.results110, go_sem]) rfl ?_
            unfold MeasPost
            refine ⟨fun _ => .inr ⟨by rw [HRM.out, HRN.out]; rfl, rfl⟩, (fun h => by rw [HW.out] at h; cases h), ?_⟩
            exact Below.trans hbr ((below_drewN ((Below.refl _ _).alloc (Nat.le_refl _) _) _).mono hzr)
          | some n =>
            rw [hbk] at HST HBK
            simp only [Option.getD_some, Option.isSome_some] at HBK
            have hn2 : n = ln * (y.v.toNat : Int) ∧ n ≤ 65536 := by
              unfold blkS at hbk
              split at hbk
              · rename_i hc; injection hbk with hbk; exact ⟨hbk.symm, by omega⟩
              · cases hbk
            have hn0 : 0 ≤ n := by rw [hn2.1]; exact Int.mul_nonneg hln0 (by omega)
            have hn1 := hn2.2
            clear hbk hn2
            go_wp2
            go_quiet ((go_at_call 147; exact Calls.quiet_of_same (HBK.out _)))
            go_wp2
            go_region
            have hdl : (S.st.dropLast).length = m' + 1 := by simp [hS.out]
            have hdp : (S.st.dropLast)[m']? = some (pa, pn) := by rw [List.getElem?_dropLast, if_pos (by rw [hS.out]; omega)]; exact HP.out
            have hne8 : S.st ≠ [] := by intro e; have := hS.out; rw [e] at this; simp at this
            have hB' := hB.out.step HST.out
            have hst' : addTop S.st.dropLast n = (S.st.dropLast).set m' (pa, pn + n) := addTop_set hdp hdl n
            have HDL := hide hdl
            have HDP := hide hdp
            have HNE := hide hne8
            have HB' := hide hB'
            have HST' := hide hst'
            clear hdl hdp hne8 hB' hst'
            have hpn9 : pn ≤ 1000000000000000 := by omega
            have hn9 : n ≤ 1000000000000000 := by omega
            go_wp2_with (go_at_call 148; ((with_reducible refine (add_calls (some ⟨wr.heap.size + 1, 0, none⟩) 2 pn n _ ?_ ⟨hpn0, hpn9⟩ ⟨hn0, hn9⟩).mono ?_); rotate_right; (rintro e w2 ⟨rfl, rfl⟩)))
            rotate_right
            · exact At.ofBlk (g := wr.heap.size + 1) (T := 3) (cs := #[.int .i64 pn, .int .i64 n]) (by have := Blk.new (((((wr.alloc (.cells #[.int .i64 x.kind, .int .i64 x.d, .int .i64 x.a, .int .i64 x.b, .int .u64 (x.v.toNat : Int)] 89)).drewN (nq + 1)).setCell ⟨g1, j, none⟩ (.int .i64 n)).setCell ⟨g2, j, none⟩ (.int .i64 ln))) 3 #[.int .i64 pn, .int .i64 n]; simpa using this) [pn, n] rfl
            go_roundw
            case rel =>
              have e8 := ((((((ho8.pop HNE.out).alloc (.cells #[.int .i64 x.kind, .int .i64 x.d, .int .i64 x.a, .int .i64 x.b, .int .u64 (x.v.toNat : Int)] 89)).drewN (nq + 1)).far (p := ⟨g1, j, none⟩) (by simpa using n18) (.int .i64 n)).far (p := ⟨g2, j, none⟩) (by simpa using n28) (.int .i64 ln)).setAt m' 1 (pa, pn + n) (pa, pn) (.int .i64 (pn + n)) HDP.out (by decide) rfl).alloc (.cells #[.int .i64 pn, .int .i64 n] 3)
              have e1 := (((((ho1.alloc (.cells #[.int .i64 x.kind, .int .i64 x.d, .int .i64 x.a, .int .i64 x.b, .int .u64 (x.v.toNat : Int)] 89)).drewN (nq + 1)).set1 j n (.int .i64 n) rfl).far (p := ⟨g2, j, none⟩) (by simpa using n12) (.int .i64 ln)).far (p := ⟨g8, m' * 2 + 1, none⟩) (by simpa using n81) (.int .i64 (pn + n))).alloc (.cells #[.int .i64 pn, .int .i64 n] 3)
              have e2 := (((((ho2.alloc (.cells #[.int .i64 x.kind, .int .i64 x.d, .int .i64 x.a, .int .i64 x.b, .int .u64 (x.v.toNat : Int)] 89)).drewN (nq + 1)).far (p := ⟨g1, j, none⟩) (by simpa using n21) (.int .i64 n)).set1 j ln (.int .i64 ln) rfl).far (p := ⟨g8, m' * 2 + 1, none⟩) (by simpa using n82) (.int .i64 (pn + n))).alloc (.cells #[.int .i64 pn, .int .i64 n] 3)
              have f1 := (ho1.blk g1 rfl).1
              have f2 := (ho2.blk g2 rfl).1
              have f8 := (ho8.blk g8 rfl).1
              refine ⟨k + 1, m', _, g8, c8, rfl, by go_num, by omega, rfl, ?_, by omega, hwn, ?_, HB', ?_, ?_, ?_, ?_⟩
              · simp only [Hid, HST'.out, List.length_set]; exact HDL.out
              · show R = _; rw [HRK.out, HST.out]; rfl
              · exact e1
              · exact e2
              · rw [HST'.out]; exact e8
              · exact ((((below_drewN (hbr.alloc hzr _) _).setCell (p := ⟨g1, j, none⟩) f1 _).setCell (p := ⟨g2, j, none⟩) f2 _).setCell (p := ⟨g8, m' * 2 + 1, none⟩) f8 _).alloc (by simp; omega) _
            case measure => simp [intOf]; omega
        · -- a write
          have hst : msStep l k x S = some { S with st := addTop S.st 1, sz := S.sz.set k 1 } := by unfold msStep; rw [if_neg k7, if_neg k0]
          have HST := hide hst
          have HB' := hide (hB.out.step hst)
          have HWN := hide (QQ.out k7 k0)
          obtain ⟨z1, u1, e1, e2, s1⟩ := ho1.cell1 (i := k) (by rw [HS1.out]; exact hlt) rfl
          have sf1 := ho1.frozen k
          have HWR := hide (fun w => writes_of (x := x) (by omega) (by omega) w)
          clear hst k7 k0 e1 e2
          go_wp2_with (go_at_call 149; ((with_reducible refine (HWR.out _).mono ?_); rintro e w2 ⟨rfl, hb2⟩; obtain ⟨hz2, hB2, hX2⟩ := box5 hb2; have t1' := (hB2.cell (p := ⟨g8, m * 2 + 1, none⟩) hgl8).trans t1; have tf1' := (hB2.frozen (p := ⟨g8, m * 2 + 1, none⟩) hgl8).trans tf1; have s1' := (hB2.cell (p := ⟨g1, k, none⟩) hgl1).trans s1; have sf1' := (hB2.frozen (p := ⟨g1, k, none⟩) hgl1).trans sf1; have ho1' := ho1.below hB2 (Nat.le_refl _); have ho2' := ho2.below hB2 (Nat.le_refl _); have ho8' := ho8.below hB2 (Nat.le_refl _); have hbr' := hbr.trans (hB2.mono hzr); clear hb2 hX2))
          go_roundw
          case rel =>
            have hst' := addTop_set HLT.out hS.out 1
            have f1 := (ho1.blk g1 rfl).1
            have f8 := (ho8.blk g8 rfl).1
            refine ⟨k + 1, m, _, g8, c8, rfl, by go_num, by omega, rfl, ?_, by omega, HWN, ?_, HB', ?_, ?_, ?_, ?_⟩
            · simp only [Hid, hst', List.length_set]; exact hS.out
            · show R = _; rw [HRK.out, HST.out]; rfl
            · exact (ho1'.set1 k 1 (.int .i64 1) rfl).far (p := ⟨g8, m * 2 + 1, none⟩) (by simpa using n81) _
            · exact (ho2'.far (p := ⟨g1, k, none⟩) (by simpa using n21) _).far (p := ⟨g8, m * 2 + 1, none⟩) (by simpa using n82) _
            · rw [hst']
              exact (ho8'.far (p := ⟨g1, k, none⟩) (by simpa using n18) (.int .i64 1)).setAt m 1 ((j : Int), ln + 1) ((j : Int), ln) (.int .i64 (ln + 1)) HLT.out (by decide) rfl
            · exact (hbr'.setCell (p := ⟨g1, k, none⟩) f1 _).setCell (p := ⟨g8, m * 2 + 1, none⟩) f8 _
          case measure => simp [intOf]; omega
      · have ek : k = l.length := by omega
        subst ek
        have hd : l.drop l.length = [] := List.drop_eq_nil_of_le (by omega)
        have hm0 : m = 0 := by have := hwk.out; rw [hd] at this; simpa [wellF] using this
        have hRS : R = some S := by have := hRk.out; rw [hd] at this; exact this
        subst hm0
        have HRS := hide hRS
        clear hd hRS
        have hcs : ln ≤ 65536 ∨ 65536 < ln := by omega
        have hlst : S.st.getLast?.getD (0, 0) = ((j : Int), ln) := last_of HLT.out hS.out
        have HLST := hide hlst
        clear hlst
        rcases hcs with hc | hc
        · have hd : decide (65536 < ln) = false := by simpa using hc
          go_wp2
          go_quiet (fail)
          go_wp2
          try rw [Exit.noGoto_ret]
          refine bodyPost_ret (v := .tuple #[.slice (some ⟨g1, 0, none⟩) l.length l.length, .slice (some ⟨g2, 0, none⟩) l.length l.length, .int .i64 ln, .int .i64 0]) (by simp [results, Tryz.results110, go_sem]) rfl ?_
          unfold MeasPost
          refine ⟨fun _ => .inl ⟨S, some ⟨g1, 0, none⟩, l.length, some ⟨g2, 0, none⟩, l.length, ?_, ?_, ho1.drewN _, ho2.drewN _⟩, (fun h => by rw [HW.out] at h; cases h), below_drewN hbr _⟩
          · rw [HRM.out, HRS.out]
            simp only [Option.bind_some]
            rw [HLST.out, if_pos hc]
          · rw [HLST.out]
        · have hd : decide (65536 < ln) = true := by simpa using hc
          go_wp2
          try rw [Exit.noGoto_ret]
          refine bodyPost_ret (v := .tuple #[.slice none 0 0, .slice none 0 0, .int .i64 0, .int .i64 9]) (by simp [results, Tryz.results110, go_sem]) rfl ?_
          unfold MeasPost
          refine ⟨fun _ => .inr ⟨?_, rfl⟩, (fun h => by rw [HW.out] at h; cases h), hbr⟩
          rw [HRM.out, HRS.out]
          simp only [Option.bind_some]
          rw [HLST.out, if_neg (by simp only; omega)]
end Go.Proofs.YtcamcnahkdiefaaGreat

/- Chapter 9: Writes, Sizes, Rounds. -/
namespace Go.Proofs.YtcamcnahkdiefaaGreat
set_option linter.unusedVariables false
set_option linter.unusedSimpArgs false
open Go.RowKit

theorem msF_bd (l : List OpD) (N : Nat) : ∀ (r : List OpD) (k : Nat) (s s' : Ms), MsBd k N s → msF l k s r = some s' → MsBd (k + r.length) N s' := by
  intro r
  induction r with
  | nil => intro k s s' h e; simp [msF] at e; subst e; exact h
  | cons x r ih =>
    intro k s s' h e
    simp only [msF] at e
    cases hs : msStep l k x s with
    | none => rw [hs] at e; cases e
    | some s1 =>
      rw [hs] at e
      have := ih (k + 1) s1 s' (h.step hs) e
      rwa [show k + 1 + r.length = k + (x :: r).length by simp; omega] at this
theorem measL_lengths {l : List OpD} {S : Ms} (h : measL l = some S) : S.sz.length = l.length ∧ S.rd.length = l.length ∧ 0 ≤ (S.st.getLast?.getD (0, 0)).2 ∧ (S.st.getLast?.getD (0, 0)).2 ≤ 65536 := by
  unfold measL at h
  cases hm : msF l 0 ⟨[(0, 0)], List.replicate l.length 0, List.replicate l.length 0⟩ l with
  | none => rw [hm] at h; cases h
  | some s =>
    rw [hm] at h
    simp only [Option.bind_some] at h
    split at h
    · rename_i hc
      injection h with h
      subst h
      have := msF_bd l l.length l 0 _ s ⟨fun x hx => by simp at hx; subst hx; simp, by simp, by simp⟩ hm
      refine ⟨this.2.1, this.2.2, ?_, hc⟩
      by_cases h0 : s.st = []
      · simp [h0]
      · exact (this.1 _ (mem_last h0)).2.2.1
    · cases h
def measO (l : List OpD) : Option Ms := if well l = true then measL l else none
/-- the errors -/
def sizeE (l : List OpD) : Int := if well l = true then (if (measL l).isSome = true then 0 else 9) else 6
def sizeW (l : List OpD) : Int := match measO l with | some S => (S.st.getLast?.getD (0, 0)).2 | none => 0
def sizeZ (l : List OpD) : List Int := match measO l with | some S => S.sz | none => []
def sizeR (l : List OpD) : List Int := match measO l with | some S => S.rd | none => []

def MeasAll (w : World) (l : List OpD) (e : Ending) (w' : World) : Prop :=
  ∃ a1 c1 a2 c2, e = .returned (.tuple #[.slice a1 (sizeZ l).length c1, .slice a2 (sizeR l).length c2, .int .i64 (sizeW l), .int .i64 (sizeE l)]) ∧ Own w' w.heap.size 3 a1 c1 (sizeZ l) ∧ Own w' w.heap.size 3 a2 c2 (sizeR l) ∧ Below w.heap.size w w'
theorem measure_calls (a : Option Addr) (c : Nat) (l : List OpD) (w : World) (h : At w a l) (hl : l.length ≤ 1000000) : Calls Tryz.prog 110 #[.slice a l.length c] w (MeasAll w l) := by
  cases hw : well l with
  | true =>
    refine (measure_well a c l w h hl hw).mono ?_
    rintro e w' ⟨h1, h2, h3⟩
    unfold MeasAll sizeZ sizeR sizeW sizeE measO
    simp only [hw, if_true]
    rcases h1 hw with ⟨S, a1, c1, a2, c2, hm, rfl, o1, o2⟩ | ⟨hm, rfl⟩
    · obtain ⟨l1, l2, _⟩ := measL_lengths hm
      rw [hm]
      exact ⟨a1, c1, a2, c2, by simp [l1, l2], o1, o2, h3⟩
    · rw [hm]
      exact ⟨none, 0, none, 0, rfl, Own.none _ _ _, Own.none _ _ _, h3⟩
  | false =>
    refine (measure_bad a c l w h hl hw).mono ?_
    rintro e w' ⟨h1, h2, h3⟩
    unfold MeasAll sizeZ sizeR sizeW sizeE measO
    simp only [hw]
    rw [h2 hw]
    exact ⟨none, 0, none, 0, rfl, Own.none _ _ _, Own.none _ _ _, h3⟩
theorem SizeW_calls (a : Option Addr) (c : Nat) (l : List OpD) (w : World) (h : At w a l) (hl : l.length ≤ 1000000) : Calls Tryz.prog 58 #[.slice a l.length c] w fun e w' => e = .returned (.tuple #[.int .i64 (sizeW l), .int .i64 (sizeE l)]) ∧ Below w.heap.size w w' := by
  have HM := hide (measure_calls a c l w h hl)
  unfold MeasAll at HM
  generalize sizeW l = W at *
  generalize sizeE l = E at *
  go_enter Tryz.func58, Tryz.ntmps58
  go_wp2_with (go_at_call 110; ((with_reducible refine (HM.out).mono ?_); rintro e w1 ⟨a1, c1, a2, c2, rfl, o1, o2, hb⟩))
  go_ret2
  exact ⟨rfl, hb⟩
theorem SizeZ_calls (a : Option Addr) (c : Nat) (l : List OpD) (w : World) (h : At w a l) (hl : l.length ≤ 1000000) : Calls Tryz.prog 97 #[.slice a l.length c] w fun e w' => ∃ a' c', e = .returned (.tuple #[.slice a' (sizeZ l).length c', .int .i64 (sizeE l)]) ∧ Own w' w.heap.size 3 a' c' (sizeZ l) ∧ Below w.heap.size w w' := by
  have HM := hide (measure_calls a c l w h hl)
  unfold MeasAll at HM
  generalize sizeW l = W at *
  generalize sizeE l = E at *
  obtain ⟨P, hP⟩ : ∃ P, P = (fun e w' => ∃ a' c', e = Ending.returned (.tuple #[.slice a' (sizeZ l).length c', .int .i64 E]) ∧ Own w' w.heap.size 3 a' c' (sizeZ l) ∧ Below w.heap.size w w') := ⟨_, rfl⟩
  rw [← hP]
  have HP := hide hP
  clear hP
  go_enter Tryz.func97, Tryz.ntmps97
  go_wp2_with (go_at_call 110; ((with_reducible refine (HM.out).mono ?_); rintro e w1 ⟨a1, c1, a2, c2, rfl, o1, o2, hb⟩))
  rw [HP.out]
  first
    | exact ⟨a1, c1, rfl, o1, hb⟩
    | exact ⟨a2, c2, rfl, o2, hb⟩
end Go.Proofs.YtcamcnahkdiefaaGreat

/- Several texts of mine in one file: Sya, Syb, Syc. -/
/- symbol.reckon and the document's does: what an operation makes of two polynomials. -/
namespace Go.Proofs.YtcamcnahkdiefaaGreat
set_option linter.unusedVariables false
set_option linter.unusedSimpArgs false
open Go.RowKit
theorem AtTP.grown {P : Nat → Prop} {w w' : World} {a : Option Addr} {ts : List Tm} {row : Option Nat} (h : AtTP P w a ts) (hgr : w.grownBy w' row) (hg : ∀ g, row = some g → ¬ P g) : AtTP P w' a ts := by
  obtain ⟨hs, h1, h2, h3, h4, h5⟩ := h
  cases row with
  | none => exact ⟨hs, h1.grown hgr (fun _ => .inr rfl), h2, fun j y t e1 e2 => by obtain ⟨k1, k2, k3, k4, k5⟩ := h3 j y t e1 e2; exact ⟨k1, k2, k3, k4, k5.grown hgr (fun _ => .inr rfl)⟩, h4, h5⟩
  | some g =>
    refine ⟨hs, h1.grown hgr (fun hne => ?_), h2, fun j y t e1 e2 => ?_, h4, h5⟩
    · have htn : ts ≠ [] := by rintro rfl; exact hne (List.eq_nil_of_length_eq_zero h2)
      refine .inl fun e' => hg g rfl (h4 htn g e')
    · obtain ⟨k1, k2, k3, k4, k5⟩ := h3 j y t e1 e2
      refine ⟨k1, k2, k3, k4, k5.grown hgr (fun hne => ?_)⟩
      refine .inl fun e' => hg g rfl (h5 j y t e1 e2 hne g e')
theorem AtTP.bounded {P : Nat → Prop} {w : World} {a : Option Addr} {ts : List Tm} (h : AtTP P w a ts) : AtTP (fun q => P q ∧ q < w.heap.size) w a ts := by
  obtain ⟨hs, h1, h2, h3, h4, h5⟩ := h
  refine ⟨hs, h1, h2, h3, fun hne q e => ⟨h4 hne q e, ?_⟩, fun i y t e1 e2 hne q e => ⟨h5 i y t e1 e2 hne q e, ?_⟩⟩
  · obtain ⟨b, off, e', hb⟩ := h1.lt (by rintro rfl; exact hne (List.eq_nil_of_length_eq_zero h2.symm))
    rw [e'] at e; simp at e; omega
  · obtain ⟨b, off, e', hb⟩ := (h3 i y t e1 e2).2.2.2.2.lt hne
    rw [e'] at e; simp at e; omega
theorem TOut.grown {P : Nat → Prop} {w w' : World} {a : Option Addr} {n c : Nat} {M : List Tm} {row : Option Nat} (h : TOut P w a n c M) (hgr : w.grownBy w' row) (hg : ∀ g, row = some g → ¬ P g) : TOut P w' a n c M := ⟨h.len, h.cap, h.max, h.at_.grown hgr hg⟩
theorem TOut.bounded {P : Nat → Prop} {w : World} {a : Option Addr} {n c : Nat} {M : List Tm} (h : TOut P w a n c M) : TOut (fun q => P q ∧ q < w.heap.size) w a n c M := ⟨h.len, h.cap, h.max, h.at_.bounded⟩
/-- what an operation makes of two polynomials of va variables -/
def symE (va k : Int) (v : UInt64) (A B : List Tm) : Int :=
  if k = 1 then mkE va (A ++ B) else if k = 2 then mkE va (A ++ sortT (negT B)) else if k = 3 then mulE va A B else if k = 4 then mkE va (negT A) else if k = 5 then mkE va (constT va v) else 0
/-- what an operation makes of two polynomials of va variables -/
def symV (va k : Int) (v : UInt64) (A B : List Tm) : Int :=
  if k = 1 then mkV va (A ++ B) else if k = 2 then mkV va (A ++ sortT (negT B)) else if k = 3 then mulV va A B else if k = 4 then mkV va (negT A) else if k = 5 then mkV va (constT va v) else va
/-- what an operation makes of two polynomials of va variables -/
def symL (va k : Int) (v : UInt64) (A B : List Tm) : List Tm :=
  if k = 1 then mkL va (A ++ B) else if k = 2 then mkL va (A ++ sortT (negT B)) else if k = 3 then mulL va A B else if k = 4 then mkL va (negT A) else if k = 5 then mkL va (constT va v) else A
theorem checkP_len {va : Int} {A : List Tm} (h : checkP va A = true) : A.length ≤ 1000000 ∧ ∀ t ∈ A, t.2.length ≤ 1000000 := by
  have h' := (checkP_ok h).len6
  refine ⟨?_, h'⟩
  unfold checkP at h
  simp only [Bool.and_eq_true, decide_eq_true_eq] at h
  omega
/-- a polynomial and an error, the polynomial perhaps no new one -/
def PolyAny (P : Nat → Prop) (V : Int) (L : List Tm) (E : Int) (w : World) (e : Ending) (w' : World) : Prop :=
  ∃ a n c, e = .returned (.tuple #[.agg #[.int .i64 V, .slice a n c], .int .i64 E]) ∧ TOut (fun q => P q ∨ w.heap.size ≤ q) w' a n c L ∧ Below w.heap.size w w'
theorem PolyOut.any {V : Int} {L : List Tm} {E : Int} {w w' : World} {e : Ending} (P : Nat → Prop) (h : PolyOut V L E w e w') : PolyAny P V L E w e w' := by
  obtain ⟨a, n, c, rfl, h1, h2⟩ := h
  exact ⟨a, n, c, rfl, h1.imp fun q hq => .inr hq, h2⟩
theorem four_boxes (w : World) (T1 T2 T3 T4 : TypeId) (c1 c2 c3 c4 : Array Value) : Blk ((((w.alloc (.cells c1 T1)).alloc (.cells c2 T2)).alloc (.cells c3 T3)).alloc (.cells c4 T4)) w.heap.size T1 c1 ∧ Blk ((((w.alloc (.cells c1 T1)).alloc (.cells c2 T2)).alloc (.cells c3 T3)).alloc (.cells c4 T4)) (w.heap.size + 1) T2 c2 ∧
    Blk ((((w.alloc (.cells c1 T1)).alloc (.cells c2 T2)).alloc (.cells c3 T3)).alloc (.cells c4 T4)) (w.heap.size + 1 + 1) T3 c3 ∧ Blk ((((w.alloc (.cells c1 T1)).alloc (.cells c2 T2)).alloc (.cells c3 T3)).alloc (.cells c4 T4)) (w.heap.size + 1 + 1 + 1) T4 c4 ∧ Below w.heap.size w ((((w.alloc (.cells c1 T1)).alloc (.cells c2 T2)).alloc (.cells c3 T3)).alloc (.cells c4 T4)) ∧ ((((w.alloc (.cells c1 T1)).alloc (.cells c2 T2)).alloc (.cells c3 T3)).alloc (.cells c4 T4)).heap.size = w.heap.size + 1 + 1 + 1 + 1 := by
  obtain ⟨h1, h2, h3, hb, hz⟩ := three_boxes w T1 T2 T3 c1 c2 c3
  have h4 := Blk.new (((w.alloc (.cells c1 T1)).alloc (.cells c2 T2)).alloc (.cells c3 T3)) T4 c4
  rw [hz] at h4
  exact ⟨h1.alloc _, h2.alloc _, h3.alloc _, h4, hb.alloc (by omega) _, by simp⟩
theorem neg_facts {va : Int} {B : List Tm} (h : checkP va B = true) : mkE va (negT B) = 0 ∧ mkV va (negT B) = va ∧ mkL va (negT B) = sortT (negT B) ∧ checkP va (sortT (negT B)) = true := by
  have k := checkP_ok h
  have hr := negT_right k.right
  have hl : (sortT (negT B)).length ≤ 4096 := Nat.le_trans (sort_len _) (by rw [negT_len]; exact k.len)
  obtain ⟨e1, e2, e3⟩ := mk_of_ok k.range hr hl
  exact ⟨e1, e2, e3, check_sort k.range hr hl⟩
set_option maxRecDepth 100000 in
set_option maxHeartbeats 3200000 in
theorem Reckon_add (gb : Nat) (d0 a0 b0 : Int) (v : UInt64) (P Q : Nat → Prop) (va : Int) (a b : Option Addr) (n c m d : Nat) (A B : List Tm) (w : World) (h : TOut P w a n c A) (h' : TOut Q w b m d B) (hQA : checkP va A = true) (hQB : checkP va B = true) (V : Int) (L : List Tm) (E : Int) (hV : mkV va (A ++ B) = V) (hL : mkL va (A ++ B) = L) (hE : mkE va (A ++ B) = E) :
    Calls Tryz.prog 129 #[.pointer (some ⟨gb, 0, none⟩), .agg #[.int .i64 1, .int .i64 d0, .int .i64 a0, .int .i64 b0, .int .u64 (v.toNat : Int)], .agg #[.int .i64 va, .slice a n c], .agg #[.int .i64 va, .slice b m d]] w (PolyOut V L E w) := by
  obtain ⟨hX1, hX2, hX3, hX4, hb0, hz0⟩ := four_boxes w 89 42 42 42 #[.int .i64 1, .int .i64 d0, .int .i64 a0, .int .i64 b0, .int .u64 (v.toNat : Int)] #[.int .i64 va, .slice a n c] #[.int .i64 va, .slice b m d] #[.int .i64 0, .slice none 0 0]
  obtain ⟨W0, hW0⟩ : ∃ W0, ((((w.alloc (.cells #[.int .i64 1, .int .i64 d0, .int .i64 a0, .int .i64 b0, .int .u64 (v.toNat : Int)] 89)).alloc (.cells #[.int .i64 va, .slice a n c] 42)).alloc (.cells #[.int .i64 va, .slice b m d] 42)).alloc (.cells #[.int .i64 0, .slice none 0 0] 42)) = W0 := ⟨_, rfl⟩
  rw [hW0] at hX1 hX2 hX3 hX4 hb0 hz0
  obtain ⟨o0, o1, o2, o3, o4, o5, o6, o7, o8, o9⟩ := hX1.c5
  obtain ⟨p0, p1, p2, p3⟩ := hX2.c2
  obtain ⟨q0, q1, q2, q3⟩ := hX3.c2
  have HW0 := hide hW0
  have HA := hide (PAdd_good P Q va a b n c m d A B W0 (h.belowN hb0) (h'.belowN hb0) hQA hQB V L E hV hL hE)
  clear hW0 hQA hQB h h' hV hL hE
  go_enter Tryz.func129, Tryz.ntmps129
  go_wp2_with (go_at_call 160; go_must ((rw [HW0.out]); (with_reducible refine (HA.out).mono ?_); rintro vv w9 ⟨a9, n9, c9, rfl, hT9, hb9⟩; have hX9 := hX4.belowN hb9; obtain ⟨x0, x1, x2, x3⟩ := hX9.c2))
  have hB9 := hb0.trans (hb9.mono hb0.size)
  have hg9 : w.heap.size + 1 + 1 + 1 < W0.heap.size := by omega
  have hs9 := hb0.size
  have hF6 := (hX9.set_ 0 (.int .i64 V)).set_ 1 (.slice a9 n9 c9)
  refine bodyPost_ret (results_rowP rfl _ _ (w.heap.size + 1 + 1 + 1) _ #[.int .i64 V, .slice a9 n9 c9] (0, 0) _ rfl hF6 Tryz.underlying42 rfl (by kernel_rfl)) rfl ?_
  exact PolyOut.stored hB9 hT9 (by omega) hg9 hs9
set_option maxRecDepth 100000 in
set_option maxHeartbeats 3200000 in
theorem Reckon_sub (gb : Nat) (d0 a0 b0 : Int) (v : UInt64) (P Q : Nat → Prop) (va : Int) (a b : Option Addr) (n c m d : Nat) (A B : List Tm) (w : World) (h : TOut P w a n c A) (h' : TOut Q w b m d B) (hQA : checkP va A = true) (hQB : checkP va B = true) (V : Int) (L : List Tm) (E : Int) (hV : mkV va (A ++ sortT (negT B)) = V) (hL : mkL va (A ++ sortT (negT B)) = L) (hE : mkE va (A ++ sortT (negT B)) = E) :
    Calls Tryz.prog 129 #[.pointer (some ⟨gb, 0, none⟩), .agg #[.int .i64 2, .int .i64 d0, .int .i64 a0, .int .i64 b0, .int .u64 (v.toNat : Int)], .agg #[.int .i64 va, .slice a n c], .agg #[.int .i64 va, .slice b m d]] w (PolyOut V L E w) := by
  obtain ⟨e1, e2, e3, e4⟩ := neg_facts hQB
  obtain ⟨hX1, hX2, hX3, hX4, hb0, hz0⟩ := four_boxes w 89 42 42 42 #[.int .i64 2, .int .i64 d0, .int .i64 a0, .int .i64 b0, .int .u64 (v.toNat : Int)] #[.int .i64 va, .slice a n c] #[.int .i64 va, .slice b m d] #[.int .i64 0, .slice none 0 0]
  obtain ⟨W0, hW0⟩ : ∃ W0, ((((w.alloc (.cells #[.int .i64 2, .int .i64 d0, .int .i64 a0, .int .i64 b0, .int .u64 (v.toNat : Int)] 89)).alloc (.cells #[.int .i64 va, .slice a n c] 42)).alloc (.cells #[.int .i64 va, .slice b m d] 42)).alloc (.cells #[.int .i64 0, .slice none 0 0] 42)) = W0 := ⟨_, rfl⟩
  rw [hW0] at hX1 hX2 hX3 hX4 hb0 hz0
  obtain ⟨o0, o1, o2, o3, o4, o5, o6, o7, o8, o9⟩ := hX1.c5
  obtain ⟨p0, p1, p2, p3⟩ := hX2.c2
  obtain ⟨q0, q1, q2, q3⟩ := hX3.c2
  have HW0 := hide hW0
  obtain ⟨M, hM⟩ : ∃ M, sortT (negT B) = M := ⟨_, rfl⟩
  rw [hM] at hV hL hE e3 e4
  have HA := hide (PNeg_good Q va b m d B W0 (h'.belowN hb0) hQB va M 0 e2 e3 e1)
  have HB := hide (fun (W : World) (kk : Below W0.heap.size W0 W) (a2 : Option Addr) (n2 c2 : Nat) (kT : TOut (fun q => W0.heap.size ≤ q) W a2 n2 c2 M) => PAdd_good P (fun q => W0.heap.size ≤ q) va a a2 n c n2 c2 A M W ((h.belowN hb0).belowN kk) kT hQA e4 V L E hV hL hE)
  clear hW0 hQA hQB h h' hV hL hE hM e1 e2 e3 e4
  go_enter Tryz.func129, Tryz.ntmps129
  go_wp2_with (first
    | (go_at_call 160; go_must ((with_reducible refine (HB.out _ hb2 _ _ _ hT2).mono ?_); rintro vv w9 ⟨a9, n9, c9, rfl, hT9, hb9⟩; have hB8 := hb2.trans (hb9.mono hb2.size); have hX9 := hX4.belowN hB8; obtain ⟨x0, x1, x2, x3⟩ := hX9.c2))
    | (go_at_call 161; go_must ((rw [HW0.out]); (with_reducible refine (HA.out).mono ?_); rintro vv w1 ⟨a1, n1, c1, rfl, hT1, hb1⟩; have hb2 := hb1.alloc hb1.size (.cells #[.int .i64 va, .slice a1 n1 c1] 42); have hT2 := hT1.belowN (below_box w1 (.cells #[.int .i64 va, .slice a1 n1 c1] 42)); have hN := Blk.new w1 42 #[.int .i64 va, .slice a1 n1 c1]; obtain ⟨y0, y1, y2, y3⟩ := hN.c2; obtain ⟨p4, p5, p6, p7⟩ := (hX2.belowN hb2).c2; obtain ⟨x4, x5, x6, x7⟩ := (hX4.belowN hb2).c2; have hzz := hb1.size)))
  have hB9 := hb0.trans (hB8.mono hb0.size)
  have hg9 : w.heap.size + 1 + 1 + 1 < (w1.alloc (.cells #[.int .i64 va, .slice a1 n1 c1] 42)).heap.size := by have := hb2.size; omega
  have hs9 := Nat.le_trans hb0.size hb2.size
  have hF6 := (hX9.set_ 0 (.int .i64 V)).set_ 1 (.slice a9 n9 c9)
  refine bodyPost_ret (results_rowP rfl _ _ (w.heap.size + 1 + 1 + 1) _ #[.int .i64 V, .slice a9 n9 c9] (0, 0) _ rfl hF6 Tryz.underlying42 rfl (by kernel_rfl)) rfl ?_
  exact PolyOut.stored hB9 hT9 (by omega) hg9 hs9
set_option maxRecDepth 100000 in
set_option maxHeartbeats 3200000 in
theorem Reckon_mul (gb : Nat) (d0 a0 b0 : Int) (v : UInt64) (P Q : Nat → Prop) (va : Int) (a b : Option Addr) (n c m d : Nat) (A B : List Tm) (w : World) (h : TOut P w a n c A) (h' : TOut Q w b m d B) (hQA : checkP va A = true) (hQB : checkP va B = true) (V : Int) (L : List Tm) (E : Int) (hV : mulV va A B = V) (hL : mulL va A B = L) (hE : mulE va A B = E) :
    Calls Tryz.prog 129 #[.pointer (some ⟨gb, 0, none⟩), .agg #[.int .i64 3, .int .i64 d0, .int .i64 a0, .int .i64 b0, .int .u64 (v.toNat : Int)], .agg #[.int .i64 va, .slice a n c], .agg #[.int .i64 va, .slice b m d]] w (PolyOut V L E w) := by
  obtain ⟨hX1, hX2, hX3, hX4, hb0, hz0⟩ := four_boxes w 89 42 42 42 #[.int .i64 3, .int .i64 d0, .int .i64 a0, .int .i64 b0, .int .u64 (v.toNat : Int)] #[.int .i64 va, .slice a n c] #[.int .i64 va, .slice b m d] #[.int .i64 0, .slice none 0 0]
  obtain ⟨W0, hW0⟩ : ∃ W0, ((((w.alloc (.cells #[.int .i64 3, .int .i64 d0, .int .i64 a0, .int .i64 b0, .int .u64 (v.toNat : Int)] 89)).alloc (.cells #[.int .i64 va, .slice a n c] 42)).alloc (.cells #[.int .i64 va, .slice b m d] 42)).alloc (.cells #[.int .i64 0, .slice none 0 0] 42)) = W0 := ⟨_, rfl⟩
  rw [hW0] at hX1 hX2 hX3 hX4 hb0 hz0
  obtain ⟨o0, o1, o2, o3, o4, o5, o6, o7, o8, o9⟩ := hX1.c5
  obtain ⟨p0, p1, p2, p3⟩ := hX2.c2
  obtain ⟨q0, q1, q2, q3⟩ := hX3.c2
  have HW0 := hide hW0
  have HA := hide (PMul_good P Q va a b n c m d A B W0 (h.belowN hb0) (h'.belowN hb0) hQA hQB V L E hV hL hE)
  clear hW0 hQA hQB h h' hV hL hE
  go_enter Tryz.func129, Tryz.ntmps129
  go_wp2_with (go_at_call 162; go_must ((rw [HW0.out]); (with_reducible refine (HA.out).mono ?_); rintro vv w9 ⟨a9, n9, c9, rfl, hT9, hb9⟩; have hX9 := hX4.belowN hb9; obtain ⟨x0, x1, x2, x3⟩ := hX9.c2))
  have hB9 := hb0.trans (hb9.mono hb0.size)
  have hg9 : w.heap.size + 1 + 1 + 1 < W0.heap.size := by omega
  have hs9 := hb0.size
  have hF6 := (hX9.set_ 0 (.int .i64 V)).set_ 1 (.slice a9 n9 c9)
  refine bodyPost_ret (results_rowP rfl _ _ (w.heap.size + 1 + 1 + 1) _ #[.int .i64 V, .slice a9 n9 c9] (0, 0) _ rfl hF6 Tryz.underlying42 rfl (by kernel_rfl)) rfl ?_
  exact PolyOut.stored hB9 hT9 (by omega) hg9 hs9
set_option maxRecDepth 100000 in
set_option maxHeartbeats 3200000 in
theorem Reckon_neg (gb : Nat) (d0 a0 b0 : Int) (v : UInt64) (P Q : Nat → Prop) (va : Int) (a b : Option Addr) (n c m d : Nat) (A B : List Tm) (w : World) (h : TOut P w a n c A) (h' : TOut Q w b m d B) (hQA : checkP va A = true) (hQB : checkP va B = true) (V : Int) (L : List Tm) (E : Int) (hV : mkV va (negT A) = V) (hL : mkL va (negT A) = L) (hE : mkE va (negT A) = E) :
    Calls Tryz.prog 129 #[.pointer (some ⟨gb, 0, none⟩), .agg #[.int .i64 4, .int .i64 d0, .int .i64 a0, .int .i64 b0, .int .u64 (v.toNat : Int)], .agg #[.int .i64 va, .slice a n c], .agg #[.int .i64 va, .slice b m d]] w (PolyOut V L E w) := by
  obtain ⟨hX1, hX2, hX3, hX4, hb0, hz0⟩ := four_boxes w 89 42 42 42 #[.int .i64 4, .int .i64 d0, .int .i64 a0, .int .i64 b0, .int .u64 (v.toNat : Int)] #[.int .i64 va, .slice a n c] #[.int .i64 va, .slice b m d] #[.int .i64 0, .slice none 0 0]
  obtain ⟨W0, hW0⟩ : ∃ W0, ((((w.alloc (.cells #[.int .i64 4, .int .i64 d0, .int .i64 a0, .int .i64 b0, .int .u64 (v.toNat : Int)] 89)).alloc (.cells #[.int .i64 va, .slice a n c] 42)).alloc (.cells #[.int .i64 va, .slice b m d] 42)).alloc (.cells #[.int .i64 0, .slice none 0 0] 42)) = W0 := ⟨_, rfl⟩
  rw [hW0] at hX1 hX2 hX3 hX4 hb0 hz0
  obtain ⟨o0, o1, o2, o3, o4, o5, o6, o7, o8, o9⟩ := hX1.c5
  obtain ⟨p0, p1, p2, p3⟩ := hX2.c2
  obtain ⟨q0, q1, q2, q3⟩ := hX3.c2
  have HW0 := hide hW0
  have HA := hide (PNeg_good P va a n c A W0 (h.belowN hb0) hQA V L E hV hL hE)
  clear hW0 hQA hQB h h' hV hL hE
  go_enter Tryz.func129, Tryz.ntmps129
  go_wp2_with (go_at_call 161; go_must ((rw [HW0.out]); (with_reducible refine (HA.out).mono ?_); rintro vv w9 ⟨a9, n9, c9, rfl, hT9, hb9⟩; have hX9 := hX4.belowN hb9; obtain ⟨x0, x1, x2, x3⟩ := hX9.c2))
  have hB9 := hb0.trans (hb9.mono hb0.size)
  have hg9 : w.heap.size + 1 + 1 + 1 < W0.heap.size := by omega
  have hs9 := hb0.size
  have hF6 := (hX9.set_ 0 (.int .i64 V)).set_ 1 (.slice a9 n9 c9)
  refine bodyPost_ret (results_rowP rfl _ _ (w.heap.size + 1 + 1 + 1) _ #[.int .i64 V, .slice a9 n9 c9] (0, 0) _ rfl hF6 Tryz.underlying42 rfl (by kernel_rfl)) rfl ?_
  exact PolyOut.stored hB9 hT9 (by omega) hg9 hs9
set_option maxRecDepth 100000 in
set_option maxHeartbeats 3200000 in
theorem Reckon_con (gb : Nat) (d0 a0 b0 : Int) (v : UInt64) (P Q : Nat → Prop) (va : Int) (a b : Option Addr) (n c m d : Nat) (A B : List Tm) (w : World) (h : TOut P w a n c A) (h' : TOut Q w b m d B) (hQA : checkP va A = true) (hQB : checkP va B = true) (V : Int) (L : List Tm) (E : Int) (bm bn : Value) (hbk : Blk w gb 159 #[.int .i64 va, bm, bn]) (hV : mkV va (constT va v) = V) (hL : mkL va (constT va v) = L) (hE : mkE va (constT va v) = E) :
    Calls Tryz.prog 129 #[.pointer (some ⟨gb, 0, none⟩), .agg #[.int .i64 5, .int .i64 d0, .int .i64 a0, .int .i64 b0, .int .u64 (v.toNat : Int)], .agg #[.int .i64 va, .slice a n c], .agg #[.int .i64 va, .slice b m d]] w (PolyOut V L E w) := by
  obtain ⟨hX1, hX2, hX3, hX4, hb0, hz0⟩ := four_boxes w 89 42 42 42 #[.int .i64 5, .int .i64 d0, .int .i64 a0, .int .i64 b0, .int .u64 (v.toNat : Int)] #[.int .i64 va, .slice a n c] #[.int .i64 va, .slice b m d] #[.int .i64 0, .slice none 0 0]
  have hbk0 := hbk.belowN hb0
  have hn1 : w.heap.size + 1 + 1 + 1 ≠ gb := by have := hbk.lt; omega
  have hn2 : w.heap.size + 1 + 1 + 1 ≠ w.heap.size := by omega
  have hbk1 := hbk0
  obtain ⟨k0, k1, k2, k3, k4, k5⟩ := hbk0.c3
  obtain ⟨W0, hW0⟩ : ∃ W0, ((((w.alloc (.cells #[.int .i64 5, .int .i64 d0, .int .i64 a0, .int .i64 b0, .int .u64 (v.toNat : Int)] 89)).alloc (.cells #[.int .i64 va, .slice a n c] 42)).alloc (.cells #[.int .i64 va, .slice b m d] 42)).alloc (.cells #[.int .i64 0, .slice none 0 0] 42)) = W0 := ⟨_, rfl⟩
  rw [hW0] at hbk1 hX1 hX2 hX3 hX4 hb0 hz0
  obtain ⟨o0, o1, o2, o3, o4, o5, o6, o7, o8, o9⟩ := hX1.c5
  obtain ⟨p0, p1, p2, p3⟩ := hX2.c2
  obtain ⟨q0, q1, q2, q3⟩ := hX3.c2
  have HW0 := hide hW0
  have HA := hide (fun (W : World) => PConst_calls va v W V L E hV hL hE)
  clear hW0 hQA hQB h h' hV hL hE hbk hbk0
  go_enter Tryz.func129, Tryz.ntmps129
  go_wp2
  go_region_held3 (fun w' => w'.cell? ⟨w.heap.size, 4, none⟩ = some (.int .u64 (v.toNat : Int)) ∧ w'.cell? ⟨gb, 0, none⟩ = some (.int .i64 va)) (go_keep) (first | (go_at_call 111; go_must ((rw [HW0.out]); (with_reducible refine (HA.out W0.drew).mono ?_); rintro vv w9 ⟨a9, n9, c9, rfl, hT9, hb9x⟩; have hb9 : Below W0.heap.size W0 w9 := (Below.drew (Below.refl W0.heap.size W0)).trans hb9x; obtain ⟨r0, r1, r2, r3, r4, r5, r6, r7, r8, r9⟩ := (hX1.belowN hb9).c5; obtain ⟨l0, l1, l2, l3, l4, l5⟩ := (hbk1.belowN hb9).c3; have hX9 := hX4.belowN hb9; obtain ⟨x0, x1, x2, x3⟩ := hX9.c2)))
  go_wp2
  have hB9 := hb0.trans (hb9.mono hb0.size)
  have hg9 : w.heap.size + 1 + 1 + 1 < W0.heap.size := by omega
  have hs9 := hb0.size
  have hF6 := (hX9.set_ 0 (.int .i64 V)).set_ 1 (.slice a9 n9 c9)
  refine bodyPost_ret (results_rowP rfl _ _ (w.heap.size + 1 + 1 + 1) _ #[.int .i64 V, .slice a9 n9 c9] (0, 0) _ rfl hF6 Tryz.underlying42 rfl (by kernel_rfl)) rfl ?_
  exact PolyOut.stored hB9 hT9 (by omega) hg9 hs9
end Go.Proofs.YtcamcnahkdiefaaGreat

/- What an operation makes of two polynomials, whatever its kind. -/
namespace Go.Proofs.YtcamcnahkdiefaaGreat
set_option linter.unusedVariables false
set_option linter.unusedSimpArgs false
open Go.RowKit
theorem Reckon_calls (gb : Nat) (k d0 a0 b0 : Int) (v : UInt64) (hk : 1 ≤ k ∧ k ≤ 5) (P Q : Nat → Prop) (va : Int) (a b : Option Addr) (n c m d : Nat) (A B : List Tm) (w : World) (h : TOut P w a n c A) (h' : TOut Q w b m d B) (hQA : checkP va A = true) (hQB : checkP va B = true)
    (bm bn : Value) (hbk : Blk w gb 159 #[.int .i64 va, bm, bn]) (V : Int) (L : List Tm) (E : Int) (hV : symV va k v A B = V) (hL : symL va k v A B = L) (hE : symE va k v A B = E) :
    Calls Tryz.prog 129 #[.pointer (some ⟨gb, 0, none⟩), .agg #[.int .i64 k, .int .i64 d0, .int .i64 a0, .int .i64 b0, .int .u64 (v.toNat : Int)], .agg #[.int .i64 va, .slice a n c], .agg #[.int .i64 va, .slice b m d]] w (PolyOut V L E w) := by
  have hc : k = 1 ∨ k = 2 ∨ k = 3 ∨ k = 4 ∨ k = 5 := by omega
  rcases hc with rfl | rfl | rfl | rfl | rfl
  · exact Reckon_add gb d0 a0 b0 v P Q va a b n c m d A B w h h' hQA hQB V L E hV hL hE
  · exact Reckon_sub gb d0 a0 b0 v P Q va a b n c m d A B w h h' hQA hQB V L E hV hL hE
  · exact Reckon_mul gb d0 a0 b0 v P Q va a b n c m d A B w h h' hQA hQB V L E hV hL hE
  · exact Reckon_neg gb d0 a0 b0 v P Q va a b n c m d A B w h h' hQA hQB V L E hV hL hE
  · exact Reckon_con gb d0 a0 b0 v P Q va a b n c m d A B w h h' hQA hQB V L E bm bn hbk hV hL hE
/-- what comes of an operation that may be is a polynomial that may be -/
theorem mk_fine {va : Int} {l : List Tm} (h : mkE va l = 0) : mkV va l = va ∧ checkP va (mkL va l) = true := by
  obtain ⟨e1, e2, _, _, _, e3⟩ := mk_ok0 h
  exact ⟨e1, by rw [e2]; exact e3⟩
theorem sym_fine {va k : Int} {v : UInt64} {A B : List Tm} (hA : checkP va A = true) (h : symE va k v A B = 0) : symV va k v A B = va ∧ checkP va (symL va k v A B) = true := by
  unfold symE at h
  unfold symV symL
  split at h
  · rename_i hk; rw [if_pos hk, if_pos hk]; exact mk_fine h
  rename_i h1; rw [if_neg h1, if_neg h1]
  split at h
  · rename_i hk; rw [if_pos hk, if_pos hk]; exact mk_fine h
  rename_i h2; rw [if_neg h2, if_neg h2]
  split at h
  · rename_i hk; rw [if_pos hk, if_pos hk]
    unfold mulE at h
    split at h
    · rename_i hr
      unfold mulV mulL
      rw [if_pos hr, if_pos hr]; exact mk_fine h
    · cases h
  rename_i h3; rw [if_neg h3, if_neg h3]
  split at h
  · rename_i hk; rw [if_pos hk, if_pos hk]; exact mk_fine h
  rename_i h4; rw [if_neg h4, if_neg h4]
  split at h
  · rename_i hk; rw [if_pos hk, if_pos hk]; exact mk_fine h
  rename_i h5; rw [if_neg h5, if_neg h5]
  exact ⟨rfl, hA⟩
/-- a run on polynomials: the error of the first operation that has none, and what the registers are -/
def runS (va : Int) : List OpD → List (List Tm) → Int × List (List Tm)
  | [], r => (0, r)
  | x :: l, r => if symE va x.kind x.v (r.getD x.a.toNat []) (r.getD x.b.toNat []) = 0 then runS va l (r.set x.d.toNat (symL va x.kind x.v (r.getD x.a.toNat []) (r.getD x.b.toNat []))) else (symE va x.kind x.v (r.getD x.a.toNat []) (r.getD x.b.toNat []), [])
/-- polynomials of va variables that may be -/
def AllP (va : Int) (r : List (List Tm)) : Prop := ∀ L ∈ r, checkP va L = true
theorem AllP.get {va : Int} {r : List (List Tm)} (h : AllP va r) {k : Nat} (hk : k < r.length) : checkP va (r.getD k []) = true := by
  rw [List.getD_eq_getElem?_getD, List.getElem?_eq_getElem hk]
  exact h _ (List.getElem_mem hk)
theorem AllP.set {va : Int} {r : List (List Tm)} (h : AllP va r) {L : List Tm} (hL : checkP va L = true) (k : Nat) : AllP va (r.set k L) := fun M hM => by
  rcases List.mem_or_eq_of_mem_set hM with h1 | h1
  · exact h M h1
  · rw [h1]; exact hL
/-- a polynomial in memory -/
structure PoH where
  v : Int
  a : Option Addr
  n : Nat
  c : Nat
instance : Flat PoH := ⟨2, fun x => [.int .i64 x.v, .slice x.a x.n x.c], fun _ => rfl, fun x u hu => by simp at hu; rcases hu with rfl | rfl <;> rfl, by decide⟩
instance : Inhabited PoH := ⟨⟨0, none, 0, 0⟩⟩
/-- a state in memory -/
structure StH where
  v : Int
  a : Option Addr
  n : Nat
  c : Nat
  k : Int
instance : Flat StH := ⟨3, fun x => [.int .i64 x.v, .slice x.a x.n x.c, .int .i64 x.k], fun _ => rfl, fun x u hu => by simp at hu; rcases hu with rfl | rfl | rfl <;> rfl, by decide⟩
instance : Inhabited StH := ⟨⟨0, none, 0, 0, 0⟩⟩
/-- polynomials of va variables in memory -/
def PsAt (P : Nat → Prop) (w : World) (va : Int) (hs : List PoH) (r : List (List Tm)) : Prop := hs.length = r.length ∧ ∀ (i : Nat) (h : PoH) (L : List Tm), hs[i]? = some h → r[i]? = some L → h.v = va ∧ TOut P w h.a h.n h.c L
theorem PsAt.belowN {P : Nat → Prop} {w w' : World} {va : Int} {hs : List PoH} {r : List (List Tm)} (h : PsAt P w va hs r) (hb : Below w.heap.size w w') : PsAt P w' va hs r := ⟨h.1, fun i y L e1 e2 => ⟨(h.2 i y L e1 e2).1, (h.2 i y L e1 e2).2.belowN hb⟩⟩
theorem PsAt.imp {P Q : Nat → Prop} {w : World} {va : Int} {hs : List PoH} {r : List (List Tm)} (h : PsAt P w va hs r) (hi : ∀ q, P q → Q q) : PsAt Q w va hs r := ⟨h.1, fun i y L e1 e2 => ⟨(h.2 i y L e1 e2).1, (h.2 i y L e1 e2).2.imp hi⟩⟩
theorem PsAt.grown {P : Nat → Prop} {w w' : World} {va : Int} {hs : List PoH} {r : List (List Tm)} {row : Option Nat} (h : PsAt P w va hs r) (hgr : w.grownBy w' row) (hg : ∀ g, row = some g → ¬ P g) : PsAt P w' va hs r := ⟨h.1, fun i y L e1 e2 => ⟨(h.2 i y L e1 e2).1, (h.2 i y L e1 e2).2.grown hgr hg⟩⟩
theorem PsAt.bounded {P : Nat → Prop} {w : World} {va : Int} {hs : List PoH} {r : List (List Tm)} (h : PsAt P w va hs r) : PsAt (fun q => P q ∧ q < w.heap.size) w va hs r := ⟨h.1, fun i y L e1 e2 => ⟨(h.2 i y L e1 e2).1, (h.2 i y L e1 e2).2.bounded⟩⟩
theorem PsAt.nil (P : Nat → Prop) (w : World) (va : Int) : PsAt P w va [] [] := ⟨rfl, fun i h L e => by simp at e⟩
theorem PsAt.push {P : Nat → Prop} {w : World} {va : Int} {hs : List PoH} {r : List (List Tm)} (h : PsAt P w va hs r) {y : PoH} {L : List Tm} (hv : y.v = va) (hT : TOut P w y.a y.n y.c L) : PsAt P w va (hs ++ [y]) (r ++ [L]) := by
  refine ⟨by simp [h.1], fun i z M e1 e2 => ?_⟩
  by_cases hi : i < hs.length
  · rw [List.getElem?_append_left hi] at e1
    rw [List.getElem?_append_left (by rw [← h.1]; exact hi)] at e2
    exact h.2 i z M e1 e2
  · have h0 : i = hs.length := by
      have := List.getElem?_eq_some_iff.1 e1
      obtain ⟨h1, _⟩ := this
      simp at h1; omega
    subst h0
    rw [List.getElem?_append_right (Nat.le_refl _)] at e1
    rw [h.1, List.getElem?_append_right (Nat.le_refl _)] at e2
    simp at e1 e2
    subst e1 e2
    exact ⟨hv, hT⟩
theorem PsAt.set {P : Nat → Prop} {w : World} {va : Int} {hs : List PoH} {r : List (List Tm)} (h : PsAt P w va hs r) {y : PoH} {L : List Tm} (k : Nat) (hv : y.v = va) (hT : TOut P w y.a y.n y.c L) : PsAt P w va (hs.set k y) (r.set k L) := by
  refine ⟨by simp [h.1], fun i z M e1 e2 => ?_⟩
  by_cases hi : k = i
  · subst hi
    rw [List.getElem?_set] at e1 e2
    simp at e1 e2
    obtain ⟨_, rfl⟩ := e1
    obtain ⟨_, rfl⟩ := e2
    exact ⟨hv, hT⟩
  · rw [List.getElem?_set_ne hi] at e1 e2
    exact h.2 i z M e1 e2
theorem PsAt.get {P : Nat → Prop} {w : World} {va : Int} {hs : List PoH} {r : List (List Tm)} (h : PsAt P w va hs r) {k : Nat} {y : PoH} (hy : hs[k]? = some y) : y.v = va ∧ TOut P w y.a y.n y.c (r.getD k []) := by
  have hk : k < r.length := by rw [← h.1]; exact (List.getElem?_eq_some_iff.1 hy).1
  refine h.2 k y _ hy ?_
  rw [List.getD_eq_getElem?_getD, List.getElem?_eq_getElem hk]
  rfl
end Go.Proofs.YtcamcnahkdiefaaGreat

/- The document's run of operations on polynomials. -/
namespace Go.Proofs.YtcamcnahkdiefaaGreat
set_option linter.unusedVariables false
set_option linter.unusedSimpArgs false
open Go.RowKit
theorem tyPo : Ty Tryz.prog 27 42 PoH := Ty.of (z := .agg #[.int .i64 0, .slice none 0 0]) (size := 2) (bytes := 32) Tryz.underlying27 (by kernel_rfl) rfl (by decide) rfl
theorem At.getPo {w wr : World} {a : Option Addr} {l : List PoH} (h : At w a l) (hb : Below w.heap.size w wr) {k : Nat} (hk : k < l.length) :
    ∃ b off x, a = some ⟨b, off, none⟩ ∧ Hid (l[k]? = some x) ∧ wr.cell? ⟨b, off + k * 2, none⟩ = some (.int .i64 x.v) ∧ wr.cell? ⟨b, off + k * 2 + 1, none⟩ = some (.slice x.a x.n x.c) := by
  obtain ⟨b, off, x, e, hx, hc⟩ := (h.belowN hb).get hk
  exact ⟨b, off, x, e, hx, hc 0 _ rfl, hc 1 _ rfl⟩
/-- a list of polynomials and an error -/
def PolysOut (va : Int) (RR : List (List Tm)) (EE : Int) (w : World) (e : Ending) (w' : World) : Prop :=
  ∃ a' n' c' hs', e = .returned (.tuple #[.slice a' n' c', .int .i64 EE]) ∧ n' = RR.length ∧ Own w' w.heap.size 42 a' c' hs' ∧ PsAt (fun _ => True) w' va hs' RR ∧ Below w.heap.size w w'
end Go.Proofs.YtcamcnahkdiefaaGreat
