/- Words for memory that the walks of this seat share: data that lies flat in cells, slices that read as lists, slices of the call's own; and the laws of append over them. No program is named here. -/
import Derived.WalkKit
import Derived.WalkSpells
import Derived.WalkLawsBesides
import Derived.Deep.QuietTactic
import Derived.Deep.Draws
import Derived.BigQuiet
import Derived.Maps.AppendAt
import Derived.Deep.AppendLies
namespace Go.Proofs.Ytoklehndfncmnaa
set_option linter.unusedVariables false
set_option linter.unusedSimpArgs false
open Go.RowKit

theorem hide {p : Prop} (h : p) : Hid p := h

/-- Data of a fixed number of cells, none of which leads on. -/
class Flat (α : Type) where
  n : Nat
  enc : α → List Value
  len : ∀ x, (enc x).length = n
  one : ∀ x, ∀ u ∈ enc x, u.oneCell' = true
  pos : 0 < n

instance : Flat Int := ⟨1, fun x => [.int .i64 x], fun _ => rfl, fun x u hu => by simp at hu; subst hu; rfl, by decide⟩
instance : Flat UInt64 := ⟨1, fun x => [.int .u64 (x.toNat : Int)], fun _ => rfl, fun x u hu => by simp at hu; subst hu; rfl, by decide⟩
instance : Flat Bool := ⟨1, fun x => [.bool x], fun _ => rfl, fun x u hu => by simp at hu; subst hu; rfl, by decide⟩
/-- two ints -/
instance : Flat (Int × Int) := ⟨2, fun x => [.int .i64 x.1, .int .i64 x.2], fun _ => rfl, fun x u hu => by simp at hu; rcases hu with rfl | rfl <;> rfl, by decide⟩
/-- a slice's head: where it lies, how long it is, its room -/
structure Hd where
  a : Option Addr
  n : Nat
  c : Nat
instance : Flat Hd := ⟨1, fun x => [.slice x.a x.n x.c], fun _ => rfl, fun x u hu => by simp at hu; subst hu; rfl, by decide⟩

/-- An operation: its kind, its registers, its value. -/
structure OpD where
  kind : Int
  d : Int
  a : Int
  b : Int
  v : UInt64
  deriving DecidableEq
instance : Flat OpD := ⟨5, fun x => [.int .i64 x.kind, .int .i64 x.d, .int .i64 x.a, .int .i64 x.b, .int .u64 (x.v.toNat : Int)], fun _ => rfl,
  fun x u hu => by simp at hu; rcases hu with rfl | rfl | rfl | rfl | rfl <;> rfl, by decide⟩

/-- Block `g` is just the cells `cs`, of type `T`, none frozen. -/
def Blk (w : World) (g : Nat) (T : TypeId) (cs : Array Value) : Prop := w.heap[g]? = some (.cells cs T (0, 0))
section
variable {w w' : World} {g : Nat} {T : TypeId} {cs : Array Value}
theorem Blk.lt (h : Blk w g T cs) : g < w.heap.size := (Array.getElem?_eq_some_iff.1 h).1
theorem Blk.cell (h : Blk w g T cs) (i : Nat) : w.cell? ⟨g, i, none⟩ = cs[i]? := cell_of_row w g i cs T (0, 0) h
theorem Blk.cell_ (h : Blk w g T cs) {i : Nat} {v : Value} (hv : cs[i]? = some v) : w.cell? ⟨g, i, none⟩ = some v := (h.cell i).trans hv
theorem Blk.frozen (h : Blk w g T cs) (i : Nat) : w.frozen? ⟨g, i, none⟩ = false := frozen_of_row w g i cs T h
theorem Blk.new (w : World) (T : TypeId) (cs : Array Value) : Blk (w.alloc (.cells cs T)) w.heap.size T cs := heap_alloc_new w _
theorem Blk.set_ (h : Blk w g T cs) (i : Nat) (u : Value) : Blk (w.setCell ⟨g, i, none⟩ u) g T (cs.setIfInBounds i u) := by
  unfold Blk at h ⊢
  simp [World.setCell, Array.getElem?_modify, h]
theorem Blk.far (h : Blk w g T cs) {p : Addr} (hp : g ≠ p.block) (u : Value) : Blk (w.setCell p u) g T cs := (Below.heap_setCell w p u g hp).trans h
theorem Blk.alloc (h : Blk w g T cs) (o : Obj) : Blk (w.alloc o) g T cs := (Below.heap_alloc w o g h.lt).trans h
theorem Blk.drewN (h : Blk w g T cs) (n : Nat) : Blk (w.drewN n) g T cs := h
theorem Blk.below {B : Nat} (h : Blk w g T cs) (hb : Below B w w') (hB : g < B) : Blk w' g T cs := (hb.block g hB).trans h
theorem Blk.belowN (h : Blk w g T cs) (hb : Below w.heap.size w w') : Blk w' g T cs := (hb.block g h.lt).trans h
theorem Blk.grown {row : Option Nat} (h : Blk w g T cs) (hb : w.grownBy w' row) (hg : some g ≠ row) : Blk w' g T cs := (hb.block g h.lt hg).trans h
end

theorem Blk.c1 {w : World} {g : Nat} {T : TypeId} {u0 : Value} (h : Blk w g T #[u0]) : w.cell? ⟨g, 0, none⟩ = some u0 ∧ w.frozen? ⟨g, 0, none⟩ = false := ⟨h.cell 0, h.frozen 0⟩
theorem Blk.c2 {w : World} {g : Nat} {T : TypeId} {u0 u1 : Value} (h : Blk w g T #[u0, u1]) : w.cell? ⟨g, 0, none⟩ = some u0 ∧ w.cell? ⟨g, 1, none⟩ = some u1 ∧ w.frozen? ⟨g, 0, none⟩ = false ∧ w.frozen? ⟨g, 1, none⟩ = false := ⟨h.cell 0, h.cell 1, h.frozen 0, h.frozen 1⟩
theorem Blk.c3 {w : World} {g : Nat} {T : TypeId} {u0 u1 u2 : Value} (h : Blk w g T #[u0, u1, u2]) : w.cell? ⟨g, 0, none⟩ = some u0 ∧ w.cell? ⟨g, 1, none⟩ = some u1 ∧ w.cell? ⟨g, 2, none⟩ = some u2 ∧ w.frozen? ⟨g, 0, none⟩ = false ∧ w.frozen? ⟨g, 1, none⟩ = false ∧ w.frozen? ⟨g, 2, none⟩ = false := ⟨h.cell 0, h.cell 1, h.cell 2, h.frozen 0, h.frozen 1, h.frozen 2⟩
theorem Blk.c4 {w : World} {g : Nat} {T : TypeId} {u0 u1 u2 u3 : Value} (h : Blk w g T #[u0, u1, u2, u3]) : w.cell? ⟨g, 0, none⟩ = some u0 ∧ w.cell? ⟨g, 1, none⟩ = some u1 ∧ w.cell? ⟨g, 2, none⟩ = some u2 ∧ w.cell? ⟨g, 3, none⟩ = some u3 ∧ w.frozen? ⟨g, 0, none⟩ = false ∧ w.frozen? ⟨g, 1, none⟩ = false ∧ w.frozen? ⟨g, 2, none⟩ = false ∧ w.frozen? ⟨g, 3, none⟩ = false := ⟨h.cell 0, h.cell 1, h.cell 2, h.cell 3, h.frozen 0, h.frozen 1, h.frozen 2, h.frozen 3⟩
theorem Blk.c5 {w : World} {g : Nat} {T : TypeId} {u0 u1 u2 u3 u4 : Value} (h : Blk w g T #[u0, u1, u2, u3, u4]) : w.cell? ⟨g, 0, none⟩ = some u0 ∧ w.cell? ⟨g, 1, none⟩ = some u1 ∧ w.cell? ⟨g, 2, none⟩ = some u2 ∧ w.cell? ⟨g, 3, none⟩ = some u3 ∧ w.cell? ⟨g, 4, none⟩ = some u4 ∧ w.frozen? ⟨g, 0, none⟩ = false ∧ w.frozen? ⟨g, 1, none⟩ = false ∧ w.frozen? ⟨g, 2, none⟩ = false ∧ w.frozen? ⟨g, 3, none⟩ = false ∧ w.frozen? ⟨g, 4, none⟩ = false := ⟨h.cell 0, h.cell 1, h.cell 2, h.cell 3, h.cell 4, h.frozen 0, h.frozen 1, h.frozen 2, h.frozen 3, h.frozen 4⟩
theorem Blk.c6 {w : World} {g : Nat} {T : TypeId} {u0 u1 u2 u3 u4 u5 : Value} (h : Blk w g T #[u0, u1, u2, u3, u4, u5]) : w.cell? ⟨g, 0, none⟩ = some u0 ∧ w.cell? ⟨g, 1, none⟩ = some u1 ∧ w.cell? ⟨g, 2, none⟩ = some u2 ∧ w.cell? ⟨g, 3, none⟩ = some u3 ∧ w.cell? ⟨g, 4, none⟩ = some u4 ∧ w.cell? ⟨g, 5, none⟩ = some u5 ∧ w.frozen? ⟨g, 0, none⟩ = false ∧ w.frozen? ⟨g, 1, none⟩ = false ∧ w.frozen? ⟨g, 2, none⟩ = false ∧ w.frozen? ⟨g, 3, none⟩ = false ∧ w.frozen? ⟨g, 4, none⟩ = false ∧ w.frozen? ⟨g, 5, none⟩ = false := ⟨h.cell 0, h.cell 1, h.cell 2, h.cell 3, h.cell 4, h.cell 5, h.frozen 0, h.frozen 1, h.frozen 2, h.frozen 3, h.frozen 4, h.frozen 5⟩

theorem grown_trans {a b c : World} {row : Option Nat} (h : a.grownBy b row) (k : b.grownBy c row) : a.grownBy c row :=
  ⟨k.os.trans h.os, k.tape.trans h.tape, k.output.trans h.output, Nat.le_trans h.size k.size, fun i hi hne => (k.block i (Nat.lt_of_lt_of_le hi h.size) hne).trans (h.block i hi hne)⟩
theorem grown_of_below {a b : World} (h : Below a.heap.size a b) (row : Option Nat) : a.grownBy b row := ⟨h.os, h.tape, h.output, h.size, fun i hi _ => h.block i hi⟩
theorem below_of_grown {a b : World} (h : a.grownBy b none) : Below a.heap.size a b := ⟨h.os, h.tape, h.output, h.size, fun i hi => h.block i hi (by simp)⟩
theorem grown_setCell (w : World) (g i : Nat) (u : Value) : w.grownBy (w.setCell ⟨g, i, none⟩ u) (some g) :=
  ⟨rfl, rfl, rfl, by simp [World.setCell], fun k _ hne => Below.heap_setCell w ⟨g, i, none⟩ u k fun e => hne (by rw [e])⟩
theorem grown_drewN (w : World) (n : Nat) (row : Option Nat) : w.grownBy (w.drewN n) row := ⟨rfl, rfl, rfl, Nat.le_refl _, fun _ _ _ => rfl⟩
theorem below_drewN {B : Nat} {a w : World} (h : Below B a w) (n : Nat) : Below B a (w.drewN n) := ⟨h.os, h.tape, h.output, h.size, h.block⟩
theorem below_drawn (w : World) (B n : Nat) : Below B w (w.drewN n) := ⟨rfl, rfl, rfl, Nat.le_refl _, fun _ _ => rfl⟩

/-- Where a cut begins: nothing lies behind an array's end. -/
def cutA (a : Option Addr) (l m s : Nat) : Option Addr := if m = l then a else a.map (·.add (l * s))

theorem cut_zero (a : Option Addr) (m s : Nat) : (if m = 0 then a else a.map (·.add (0 * s))) = a := by
  split
  · rfl
  · cases a with
    | none => rfl
    | some ad => simp [Addr.add]
@[simp] theorem cutA_zero (a : Option Addr) (m s : Nat) : cutA a 0 m s = a := cut_zero a m s
-- cuts of slices, without parting on the room
section
variable {P : Program} (w : World) (t : TypeId) (a : Option Addr) (len cap : Nat) (ht : P.underlying t = some (.slice (P.elem t)))
include ht
@[simp] theorem run_cut_lh (kl kh : IntKind) (l h : Int) (h0 : 0 ≤ l) (h1 : l ≤ h) (h2 : h ≤ cap) :
    (Instr.slice t (.slice a len cap) (some (.int kl l)) (some (.int kh h)) none).run P w =
      ((sizeOf (P.elem t)).run P w).andThen fun s w => .ok (.slice (cutA a l.toNat cap s) (h.toNat - l.toNat) (cap - l.toNat)) w := run_slice_lh w t a len cap ht kl kh l h h0 h1 h2
@[simp] theorem run_cut_l (kl : IntKind) (l : Int) (h0 : 0 ≤ l) (h1 : l ≤ len) :
    (Instr.slice t (.slice a len cap) (some (.int kl l)) none none).run P w =
      ((sizeOf (P.elem t)).run P w).andThen fun s w => .ok (.slice (cutA a l.toNat cap s) (len - l.toNat) (cap - l.toNat)) w := run_slice_l w t a len cap ht kl l h0 h1
@[simp] theorem run_cut_any (lo hi mx : Option Value) :
    (Instr.slice t (.slice a len cap) lo hi mx).run P w =
      ((Instr.sliceBounds true len cap lo hi mx).run P w).andThen fun b w => ((sizeOf (P.elem t)).run P w).andThen fun s w => .ok (.slice (cutA a b.1 b.2.2 s) (b.2.1 - b.1) (b.2.2 - b.1)) w := run_slice_any w t a len cap ht lo hi mx
@[simp] theorem run_cut_h (kh : IntKind) (h : Int) (h0 : 0 ≤ h) (h2 : h ≤ cap) :
    (Instr.slice t (.slice a len cap) none (some (.int kh h)) none).run P w =
      ((sizeOf (P.elem t)).run P w).andThen fun _ w => .ok (.slice a h.toNat cap) w := by
  rw [run_slice_h w t a len cap ht kh h h0 h2]
  cases (sizeOf (P.elem t)).run P w with
  | ok s w => simp only [Result.andThen, sliced, cut_zero]; simp
  | halt h w => rfl
end

/-- What was there reads as it did. -/
theorem bcell {W w1 : World} (hb : Below W.heap.size W w1) : (∀ b o, b < W.heap.size → w1.cell? ⟨b, o, none⟩ = W.cell? ⟨b, o, none⟩) ∧ (∀ b o, b < W.heap.size → w1.frozen? ⟨b, o, none⟩ = W.frozen? ⟨b, o, none⟩) :=
  ⟨fun b o h => hb.cell (p := ⟨b, o, none⟩) h, fun b o h => hb.frozen (p := ⟨b, o, none⟩) h⟩

/-- A quiet callee, met behind draws. -/
theorem quiet_add {P : Program} {f : FuncId} {args : Array Value} {w : World} {a n : Nat} {v : Value}
    (h : Calls P f args (w.drewN (a + n)) fun e w' => e = .returned v ∧ ∃ m, w' = (w.drewN (a + n)).drewN m) :
    Calls P f args (w.drewN (a + n)) fun e w'' => e = .returned v ∧ ∃ m, w'' = w.drewN (a + m) :=
  h.mono fun _ _ ⟨he, m, hm⟩ => ⟨he, n + m, by rw [hm, World.drewN_drewN, Nat.add_assoc]⟩

section
variable {α : Type} [Flat α]

/-- Memory from `a` on holds the data of `l`. -/
def At (w : World) (a : Option Addr) (l : List α) : Prop :=
  ∀ i x, l[i]? = some x → ∃ b off, a = some ⟨b, off, none⟩ ∧ ∀ f u, (Flat.enc x)[f]? = some u → w.cell? ⟨b, off + i * Flat.n α + f, none⟩ = some u

theorem At.nil (w : World) (a : Option Addr) : At w a ([] : List α) := fun i x h => by simp at h

theorem At.get {w : World} {a : Option Addr} {l : List α} (h : At w a l) {k : Nat} (hk : k < l.length) :
    ∃ b off x, a = some ⟨b, off, none⟩ ∧ Hid (l[k]? = some x) ∧ ∀ f u, (Flat.enc x)[f]? = some u → w.cell? ⟨b, off + k * Flat.n α + f, none⟩ = some u := by
  obtain ⟨b, off, h1, h2⟩ := h k l[k] (List.getElem?_eq_getElem hk)
  exact ⟨b, off, l[k], h1, List.getElem?_eq_getElem hk, h2⟩

theorem enc_head (x : α) : ∃ u, (Flat.enc x)[0]? = some u := by
  have h : 0 < (Flat.enc x).length := by rw [Flat.len]; exact Flat.pos
  exact ⟨_, List.getElem?_eq_getElem h⟩

/-- The block in which a list that is not empty lies. -/
theorem At.lt {w : World} {a : Option Addr} {l : List α} (h : At w a l) (hl : l ≠ []) : ∃ b off, a = some ⟨b, off, none⟩ ∧ b < w.heap.size := by
  obtain ⟨x, r, rfl⟩ := List.exists_cons_of_ne_nil hl
  obtain ⟨b, off, h1, h2⟩ := h 0 x rfl
  obtain ⟨u, hu⟩ := enc_head x
  exact ⟨b, off, h1, World.block_lt_of_cell? w _ (h2 0 u hu)⟩

theorem At.keep {w w' : World} {a : Option Addr} {l : List α} (h : At w a l) (hk : ∀ b off, a = some ⟨b, off, none⟩ → b < w.heap.size → w'.heap[b]? = w.heap[b]?) : At w' a l := by
  intro i x hx
  obtain ⟨b, off, h1, h2⟩ := h i x hx
  refine ⟨b, off, h1, fun f u hu => ?_⟩
  have hc := h2 f u hu
  rw [← hc]
  exact World.cell?_of_block (hk b off h1 (World.block_lt_of_cell? w _ hc))

theorem At.below {B : Nat} {w w' : World} {a : Option Addr} {l : List α} (h : At w a l) (hb : Below B w w') (hB : w.heap.size ≤ B) : At w' a l :=
  h.keep fun b _ _ hlt => hb.block b (by omega)

theorem At.drewN {w : World} {a : Option Addr} {l : List α} (h : At w a l) (n : Nat) : At (w.drewN n) a l := h

theorem At.belowN {w w' : World} {a : Option Addr} {l : List α} (h : At w a l) (hb : Below w.heap.size w w') : At w' a l := h.below hb (Nat.le_refl _)

theorem At.grown {w w' : World} {a : Option Addr} {l : List α} {row : Option Nat} (h : At w a l) (hg : w.grownBy w' row) (hr : l ≠ [] → a.map (·.block) ≠ row ∨ row = none) : At w' a l := by
  by_cases hl : l = []
  · subst hl; exact At.nil _ _
  · refine h.keep fun b off e hlt => hg.block b hlt fun hh => ?_
    subst e
    rcases hr hl with h1 | h1
    · exact h1 hh
    · subst h1; cases hh

theorem At.take {w : World} {a : Option Addr} {l : List α} (h : At w a l) (k : Nat) : At w a (l.take k) := by
  intro i x hx
  rw [List.getElem?_take] at hx
  split at hx
  · exact h i x hx
  · cases hx

theorem addr_add (b off k : Nat) : (⟨b, off, none⟩ : Addr).add k = ⟨b, off + k, none⟩ := by
  unfold Addr.add; split <;> simp_all

theorem At.drop {w : World} {a : Option Addr} {l : List α} (h : At w a l) (k : Nat) : At w (a.map (·.add (k * Flat.n α))) (l.drop k) := by
  intro i x hx
  rw [List.getElem?_drop] at hx
  obtain ⟨b, off, rfl, h2⟩ := h _ x hx
  refine ⟨b, off + k * Flat.n α, by simp [addr_add], fun f u hu => ?_⟩
  rw [← h2 f u hu]
  congr 2
  rw [Nat.add_mul]; omega

/-- What a cut leaves. -/
theorem At.cut {w : World} {a : Option Addr} {l : List α} (h : At w a l) {k c : Nat} (hc : l.length ≤ c) : At w (cutA a k c (Flat.n α)) (l.drop k) := by
  unfold cutA
  split
  · rename_i e
    rw [List.drop_eq_nil_of_le (by omega)]
    exact At.nil _ _
  · exact h.drop k
theorem cutA_block (a : Option Addr) (l m s : Nat) : (cutA a l m s).map (·.block) = a.map (·.block) := by
  unfold cutA
  split
  · rfl
  · cases a with
    | none => rfl
    | some ad => simp [Addr.add]; split <;> rfl

/-- The slice at `a`, with room `c`, is the call's own: it lies in a block from `B` on, whose elements are of type `E`, at its head; it holds the data of `l`. -/
def Own (w : World) (B : Nat) (E : TypeId) (a : Option Addr) (c : Nat) (l : List α) : Prop :=
  w.ownsRow B E (Flat.n α) (.slice a l.length c) l.length (l.flatMap Flat.enc)

theorem enc_flat (l : List α) (i : Nat) (x : α) (hx : l[i]? = some x) (f : Nat) (u : Value) (hu : (Flat.enc x)[f]? = some u) : (l.flatMap Flat.enc)[i * Flat.n α + f]? = some u := by
  have hf : f < Flat.n α := by rw [← Flat.len x]; exact (List.getElem?_eq_some_iff.1 hu).1
  induction l generalizing i with
  | nil => simp at hx
  | cons y r ih =>
    rw [List.flatMap_cons]
    cases i with
    | zero =>
      simp at hx
      subst hx
      rw [List.getElem?_append_left (by rw [Flat.len]; omega)]
      simpa using hu
    | succ i =>
      rw [List.getElem?_append_right (by rw [Flat.len, Nat.add_mul]; omega), Flat.len]
      have : (i + 1) * Flat.n α + f - Flat.n α = i * Flat.n α + f := by rw [Nat.add_mul]; omega
      rw [this]
      exact ih i (by simpa using hx)

theorem enc_length (l : List α) : (l.flatMap Flat.enc).length = l.length * Flat.n α := by
  induction l with
  | nil => simp
  | cons y r ih => rw [List.flatMap_cons, List.length_append, Flat.len, ih, List.length_cons, Nat.add_mul]; omega

theorem enc_one (l : List α) : ∀ u ∈ l.flatMap Flat.enc, u.oneCell' = true := by
  intro u hu
  obtain ⟨x, _, hx⟩ := List.mem_flatMap.1 hu
  exact Flat.one x u hx

theorem Own.none (w : World) (B : Nat) (E : TypeId) : Own w B E .none 0 ([] : List α) := World.ownsRow_nil w B E _

/-- an empty slice of the call's own, over a new array without room -/
theorem Own.new {B : Nat} (w : World) (hB : B ≤ w.heap.size) (E : TypeId) (α : Type) [Flat α] : Own (w.alloc (.cells #[] E)) B E (some ⟨w.heap.size, 0, .none⟩) 0 ([] : List α) := by
  exact World.ownsRow_made w #[] 0 hB (by decide) (by simp)

theorem Own.at_ {w : World} {B : Nat} {E : TypeId} {a : Option Addr} {c : Nat} {l : List α} (h : Own w B E a c l) : At w a l := by
  intro i x hx
  have hl : i < l.length := (List.getElem?_eq_some_iff.1 hx).1
  rcases h.2 with ⟨_, h0⟩ | ⟨g, cap, cur, hv, _⟩
  · omega
  · have ha : a = some ⟨g, 0, .none⟩ := by injection hv
    subst ha
    refine ⟨g, 0, rfl, fun f u hu => ?_⟩
    have := World.ownsRow.cells h (g := g) rfl _ u (enc_flat l i x hx f u hu)
    rw [addr_add] at this
    rw [← this]
    congr 2
    omega

theorem Own.cap {w : World} {B : Nat} {E : TypeId} {a : Option Addr} {c : Nat} {l : List α} (h : Own w B E a c l) : l.length ≤ c ∧ c ≤ maxLen := by
  rcases h.2 with ⟨hv, h0⟩ | ⟨g, cap, cur, hv, _, _, h1, h2, _⟩
  · injection hv with _ _ h; subst h; exact ⟨by omega, by decide⟩
  · injection hv with _ _ h; subst h; exact ⟨h1, h2⟩

/-- Where it lies. -/
theorem Own.blk {w : World} {B : Nat} {E : TypeId} {a : Option Addr} {c : Nat} {l : List α} (h : Own w B E a c l) : ∀ k, a.map (·.block) = some k → B ≤ k ∧ k < w.heap.size := by
  intro k hk
  cases a with
  | none => simp at hk
  | some ad => exact World.ownsRow.lt h k (by simpa [Value.ownBlock] using hk)

theorem Own.form {w : World} {B : Nat} {E : TypeId} {a : Option Addr} {c : Nat} {l : List α} (h : Own w B E a c l) : (a = .none ∧ c = 0 ∧ l = []) ∨ ∃ g, a = some ⟨g, 0, .none⟩ ∧ B ≤ g ∧ g < w.heap.size := by
  rcases h.2 with ⟨hv, h0⟩ | ⟨g, cap, cur, hv, hB, hg, _⟩
  · injection hv with h1 h2 h3
    exact .inl ⟨h1, h3, List.eq_nil_of_length_eq_zero h0⟩
  · injection hv with h1 h2 h3
    exact .inr ⟨g, h1, hB, (Array.getElem?_eq_some_iff.1 hg).1⟩

theorem Own.mono {w : World} {B B' : Nat} {E : TypeId} {a : Option Addr} {c : Nat} {l : List α} (h : Own w B E a c l) (hB : B' ≤ B) : Own w B' E a c l := by
  refine ⟨h.1, ?_⟩
  rcases h.2 with h | ⟨g, cap, cur, hv, hb, r⟩
  · exact .inl h
  · exact .inr ⟨g, cap, cur, hv, by omega, r⟩

theorem Own.keep {w w' : World} {B : Nat} {E : TypeId} {a : Option Addr} {c : Nat} {l : List α} (h : Own w B E a c l) (hk : ∀ k, a.map (·.block) = some k → k < w.heap.size → w'.heap[k]? = w.heap[k]?) : Own w' B E a c l := by
  refine ⟨h.1, ?_⟩
  rcases h.2 with h | ⟨g, cap, cur, hv, hb, hh, r⟩
  · exact .inl h
  · have ha : a = some ⟨g, 0, .none⟩ := by injection hv
    exact .inr ⟨g, cap, cur, hv, hb, by rw [hk g (by rw [ha]; rfl) (Array.getElem?_eq_some_iff.1 hh).1]; exact hh, r⟩

theorem Own.below {B' : Nat} {w w' : World} {B : Nat} {E : TypeId} {a : Option Addr} {c : Nat} {l : List α} (h : Own w B E a c l) (hb : Below B' w w') (hB : w.heap.size ≤ B') : Own w' B E a c l :=
  h.keep fun k _ hlt => hb.block k (by omega)
theorem Own.belowN {w w' : World} {B : Nat} {E : TypeId} {a : Option Addr} {c : Nat} {l : List α} (h : Own w B E a c l) (hb : Below w.heap.size w w') : Own w' B E a c l := h.below hb (Nat.le_refl _)
theorem Own.setCell {w : World} {B : Nat} {E : TypeId} {a : Option Addr} {c : Nat} {l : List α} (h : Own w B E a c l) {p : Addr} (hp : p.block < B) (u : Value) : Own (w.setCell p u) B E a c l :=
  h.keep fun k hk _ => Below.heap_setCell w p u k (by have := (h.blk k hk).1; omega)
theorem Own.alloc {w : World} {B : Nat} {E : TypeId} {a : Option Addr} {c : Nat} {l : List α} (h : Own w B E a c l) (o : Obj) : Own (w.alloc o) B E a c l :=
  h.keep fun k _ hlt => Below.heap_alloc w o k hlt
theorem Own.drew {w : World} {B : Nat} {E : TypeId} {a : Option Addr} {c : Nat} {l : List α} (h : Own w B E a c l) : Own w.drew B E a c l := h
theorem Own.drewN {w : World} {B : Nat} {E : TypeId} {a : Option Addr} {c : Nat} {l : List α} (h : Own w B E a c l) (n : Nat) : Own (w.drewN n) B E a c l := h
theorem set_flat (l : List α) (i : Nat) (y : α) (u : Value) (hn : Flat.n α = 1) (hu : Flat.enc y = [u]) : (l.flatMap Flat.enc).set i u = (l.set i y).flatMap Flat.enc := by
  induction l generalizing i with
  | nil => rfl
  | cons x r ih =>
    have hx := Flat.len x
    rw [hn] at hx
    obtain ⟨v, hv⟩ := List.length_eq_one_iff.1 hx
    cases i with
    | zero => simp [hv, hu]
    | succ i => simp [hv, ih]
/-- A store into a slice of the call's own, of one-cell elements. -/
theorem Own.set1 {w : World} {B : Nat} {E : TypeId} {g c : Nat} {l : List α} (h : Own w B E (some ⟨g, 0, .none⟩) c l) (i : Nat) (y : α) (u : Value) (hu : Flat.enc y = [u]) :
    Own (w.setCell ⟨g, i, .none⟩ u) B E (some ⟨g, 0, .none⟩) c (l.set i y) := by
  have hn : Flat.n α = 1 := by rw [← Flat.len y, hu]; rfl
  have := (World.ownsRow.stored h i u).1
  unfold Own
  rw [← set_flat l i y u hn hu, List.length_set]
  exact this
theorem Own.cell1 {w : World} {B : Nat} {E : TypeId} {g c : Nat} {l : List α} (h : Own w B E (some ⟨g, 0, .none⟩) c l) {i : Nat} (hi : i < l.length) (hn : Flat.n α = 1) : ∃ x u, l[i]? = some x ∧ Flat.enc x = [u] ∧ w.cell? ⟨g, i, .none⟩ = some u := by
  have hx := Flat.len l[i]
  rw [hn] at hx
  obtain ⟨u, hu⟩ := List.length_eq_one_iff.1 hx
  obtain ⟨b, off, e, h2⟩ := h.at_ i l[i] (List.getElem?_eq_getElem hi)
  simp at e
  obtain ⟨rfl, rfl⟩ := e
  have := h2 0 u (by rw [hu]; rfl)
  rw [hn] at this
  exact ⟨l[i], u, List.getElem?_eq_getElem hi, hu, by simpa using this⟩
theorem Own.frozen {w : World} {B : Nat} {E : TypeId} {g c : Nat} {l : List α} (h : Own w B E (some ⟨g, 0, .none⟩) c l) (i : Nat) : w.frozen? ⟨g, i, .none⟩ = false := World.ownsRow.frozenAt h i
theorem Own.grown {w w' : World} {B : Nat} {E : TypeId} {a : Option Addr} {c : Nat} {l : List α} {row : Option Nat} (h : Own w B E a c l) (hg : w.grownBy w' row) (hr : a.map (·.block) = .none ∨ a.map (·.block) ≠ row) : Own w' B E a c l := by
  refine h.keep fun k hk hlt => hg.block k hlt fun e => ?_
  rcases hr with h1 | h1
  · rw [h1] at hk; cases hk
  · exact h1 (hk.trans e)
end

/-- A slice of slices of words. -/
def AtL (w : World) (a : Option Addr) (ls : List (List UInt64)) : Prop :=
  ∃ hs : List Hd, At w a hs ∧ hs.length = ls.length ∧ ∀ (i : Nat) (h : Hd) (l : List UInt64), hs[i]? = some h → ls[i]? = some l → h.n = l.length ∧ l.length ≤ h.c ∧ At w h.a l

theorem AtL.get {w wr : World} {a : Option Addr} {ls : List (List UInt64)} (h : AtL w a ls) (hb : Below w.heap.size w wr) {k : Nat} (hk : k < ls.length) :
    ∃ b off ha hc l, a = some ⟨b, off, none⟩ ∧ Hid (ls[k]? = some l) ∧ wr.cell? ⟨b, off + k, none⟩ = some (.slice ha l.length hc) ∧ l.length ≤ hc ∧ At w ha l := by
  obtain ⟨hs, h1, h2, h3⟩ := h
  obtain ⟨b, off, x, e, hx, hc⟩ := (h1.belowN hb).get (k := k) (by omega)
  obtain ⟨e1, e2, e3⟩ := h3 k x ls[k] hx (List.getElem?_eq_getElem hk)
  have := hc 0 _ rfl
  refine ⟨b, off, x.a, x.c, ls[k], e, List.getElem?_eq_getElem hk, ?_, e2, e3⟩
  rw [← e1]
  simpa [Flat.n] using this

theorem AtL.belowN {w w' : World} {a : Option Addr} {ls : List (List UInt64)} (h : AtL w a ls) (hb : Below w.heap.size w w') : AtL w' a ls := by
  obtain ⟨hs, h1, h2, h3⟩ := h
  exact ⟨hs, h1.belowN hb, h2, fun i x l hx hl => let ⟨e1, e2, e3⟩ := h3 i x l hx hl; ⟨e1, e2, e3.belowN hb⟩⟩

theorem At.getU {w wr : World} {a : Option Addr} {l : List UInt64} (h : At w a l) (hb : Below w.heap.size w wr) {k : Nat} (hk : k < l.length) :
    ∃ b off x, a = some ⟨b, off, none⟩ ∧ Hid (l[k]? = some x) ∧ wr.cell? ⟨b, off + k, none⟩ = some (.int .u64 (x.toNat : Int)) := by
  obtain ⟨b, off, x, e, hx, hc⟩ := (h.belowN hb).get hk
  have := hc 0 _ rfl
  exact ⟨b, off, x, e, hx, by simpa [Flat.n] using this⟩
theorem At.getI {w wr : World} {a : Option Addr} {l : List Int} (h : At w a l) (hb : Below w.heap.size w wr) {k : Nat} (hk : k < l.length) :
    ∃ b off x, a = some ⟨b, off, none⟩ ∧ Hid (l[k]? = some x) ∧ wr.cell? ⟨b, off + k, none⟩ = some (.int .i64 x) := by
  obtain ⟨b, off, x, e, hx, hc⟩ := (h.belowN hb).get hk
  have := hc 0 _ rfl
  exact ⟨b, off, x, e, hx, by simpa [Flat.n] using this⟩
/-- An operation's cells. -/
theorem At.getOp {w wr : World} {a : Option Addr} {l : List OpD} (h : At w a l) (hb : Below w.heap.size w wr) {k : Nat} (hk : k < l.length) :
    ∃ b off x, a = some ⟨b, off, none⟩ ∧ Hid (l[k]? = some x) ∧ wr.cell? ⟨b, off + k * 5, none⟩ = some (.int .i64 x.kind) ∧ wr.cell? ⟨b, off + k * 5 + 1, none⟩ = some (.int .i64 x.d) ∧
      wr.cell? ⟨b, off + k * 5 + 2, none⟩ = some (.int .i64 x.a) ∧ wr.cell? ⟨b, off + k * 5 + 3, none⟩ = some (.int .i64 x.b) ∧ wr.cell? ⟨b, off + k * 5 + 4, none⟩ = some (.int .u64 (x.v.toNat : Int)) := by
  obtain ⟨b, off, x, e, hx, hc⟩ := (h.belowN hb).get hk
  exact ⟨b, off, x, e, hx, hc 0 _ rfl, hc 1 _ rfl, hc 2 _ rfl, hc 3 _ rfl, hc 4 _ rfl⟩
theorem At.getP {w wr : World} {a : Option Addr} {l : List (Int × Int)} (h : At w a l) (hb : Below w.heap.size w wr) {k : Nat} (hk : k < l.length) :
    ∃ b off x, a = some ⟨b, off, none⟩ ∧ Hid (l[k]? = some x) ∧ wr.cell? ⟨b, off + k * 2, none⟩ = some (.int .i64 x.1) ∧ wr.cell? ⟨b, off + k * 2 + 1, none⟩ = some (.int .i64 x.2) := by
  obtain ⟨b, off, x, e, hx, hc⟩ := (h.belowN hb).get hk
  exact ⟨b, off, x, e, hx, hc 0 _ rfl, hc 1 _ rfl⟩

/-- A slice of slices of words that is the call's own; what its elements hold lies elsewhere among the call's own blocks. -/
def OwnL (w : World) (B : Nat) (E : TypeId) (a : Option Addr) (c : Nat) (hs : List Hd) (ls : List (List UInt64)) : Prop :=
  Own w B E a c hs ∧ hs.length = ls.length ∧ ∀ (i : Nat) (h : Hd) (l : List UInt64), hs[i]? = some h → ls[i]? = some l → h.n = l.length ∧ l.length ≤ h.c ∧ At w h.a l ∧ (l ≠ [] → ∃ g, h.a.map (·.block) = some g ∧ B ≤ g ∧ a.map (·.block) ≠ some g)

theorem OwnL.none (w : World) (B : Nat) (E : TypeId) : OwnL w B E .none 0 [] [] := ⟨Own.none _ _ _, rfl, fun i h l hx => by simp at hx⟩
theorem OwnL.at_ {w : World} {B : Nat} {E : TypeId} {a : Option Addr} {c : Nat} {hs : List Hd} {ls : List (List UInt64)} (h : OwnL w B E a c hs ls) : AtL w a ls :=
  ⟨hs, h.1.at_, h.2.1, fun i x l hx hl => let ⟨e1, e2, e3, _⟩ := h.2.2 i x l hx hl; ⟨e1, e2, e3⟩⟩
theorem OwnL.belowN {w w' : World} {B : Nat} {E : TypeId} {a : Option Addr} {c : Nat} {hs : List Hd} {ls : List (List UInt64)} (h : OwnL w B E a c hs ls) (hb : Below w.heap.size w w') : OwnL w' B E a c hs ls :=
  ⟨h.1.belowN hb, h.2.1, fun i x l hx hl => let ⟨e1, e2, e3, e4⟩ := h.2.2 i x l hx hl; ⟨e1, e2, e3.belowN hb, e4⟩⟩
theorem OwnL.setCell {w : World} {B : Nat} {E : TypeId} {a : Option Addr} {c : Nat} {hs : List Hd} {ls : List (List UInt64)} (h : OwnL w B E a c hs ls) {p : Addr} (hp : p.block < B) (u : Value) : OwnL (w.setCell p u) B E a c hs ls := by
  refine ⟨h.1.setCell hp u, h.2.1, fun i x l hx hl => ?_⟩
  obtain ⟨e1, e2, e3, e4⟩ := h.2.2 i x l hx hl
  refine ⟨e1, e2, ?_, e4⟩
  by_cases hl0 : l = []
  · subst hl0; exact At.nil _ _
  · obtain ⟨g, hg, hB, _⟩ := e4 hl0
    exact e3.keep fun b off e _ => Below.heap_setCell w p u b (by rw [e] at hg; simp at hg; omega)
theorem OwnL.push {w w' : World} {B : Nat} {E : TypeId} {a a' : Option Addr} {c c' : Nat} {hs : List Hd} {ls : List (List UInt64)} (h : OwnL w B E a c hs ls) {ha : Option Addr} {hc : Nat} {l : List UInt64} (hat : At w ha l) (hcap : l.length ≤ hc)
    (hne : l ≠ [] → ∃ g, ha.map (·.block) = some g ∧ B ≤ g ∧ a.map (·.block) ≠ some g) (own : Own w' B E a' c' (hs ++ [⟨ha, l.length, hc⟩])) (hg : w.grownBy w' (a.map (·.block))) (hm : a'.map (·.block) = a.map (·.block) ∨ ∃ g, a'.map (·.block) = some g ∧ w.heap.size ≤ g) :
    OwnL w' B E a' c' (hs ++ [⟨ha, l.length, hc⟩]) (ls ++ [l]) := by
  obtain ⟨h1, h2, h3⟩ := h
  have far : ∀ (b : Option Addr) (m : List UInt64), At w b m → m ≠ [] → (∃ g, b.map (·.block) = some g ∧ B ≤ g ∧ a.map (·.block) ≠ some g) → ∃ g, b.map (·.block) = some g ∧ B ≤ g ∧ a'.map (·.block) ≠ some g := by
    intro b m hb hm0 ⟨g, hg1, hg2, hba⟩
    refine ⟨g, hg1, hg2, ?_⟩
    rcases hm with e | ⟨g', e, hlt⟩
    · rw [e]; exact hba
    · obtain ⟨k, off, rfl, hk⟩ := hb.lt hm0
      simp at hg1
      rw [e]
      simp
      omega
  have ne : ∀ (b : Option Addr), (∃ g, b.map (·.block) = some g ∧ B ≤ g ∧ a.map (·.block) ≠ some g) → b.map (·.block) ≠ a.map (·.block) := by
    intro b ⟨g, hg1, _, hg2⟩ e
    exact hg2 (by rw [← e, hg1])
  refine ⟨own, by simp [h2], fun i x y hx hy => ?_⟩
  by_cases hi : i < hs.length
  · rw [List.getElem?_append_left hi] at hx
    rw [List.getElem?_append_left (by omega)] at hy
    obtain ⟨e1, e2, e3, e4⟩ := h3 i x y hx hy
    exact ⟨e1, e2, e3.grown hg fun hy0 => .inl (ne _ (e4 hy0)), fun hy0 => far _ _ e3 hy0 (e4 hy0)⟩
  · rw [List.getElem?_append_right (by omega)] at hx
    rw [List.getElem?_append_right (by omega)] at hy
    have hi0 : i - hs.length = 0 := by
      have := (List.getElem?_eq_some_iff.1 hx).1
      simp at this
      omega
    have hi1 : i - ls.length = 0 := by omega
    rw [hi0] at hx
    rw [hi1] at hy
    simp at hx hy
    subst hx hy
    exact ⟨rfl, hcap, hat.grown hg fun hy0 => .inl (ne _ (hne hy0)), fun hy0 => far _ _ hat hy0 (hne hy0)⟩
/-- A list in new blocks is not where a slice of the call's own lies. -/
theorem own_apart {α β : Type} [Flat α] [Flat β] {w w0 w1 : World} {B B1 : Nat} {E E1 : TypeId} {a a1 : Option Addr} {c c1 : Nat} {l : List α} {m : List β} (h : Own w B E a c l) (h1 : Own w1 B1 E1 a1 c1 m) (hB : B ≤ B1) (hw : w.heap.size ≤ B1) : m ≠ [] → ∃ g, a1.map (·.block) = some g ∧ B ≤ g ∧ a.map (·.block) ≠ some g := by
  intro h0
  rcases h1.form with ⟨_, _, e⟩ | ⟨g, rfl, hg, _⟩
  · exact absurd e h0
  · exact ⟨g, rfl, by omega, fun e => by have := (h.blk g e).2; omega⟩

theorem drop_at {α : Type} {l : List α} {k : Nat} {x : α} (h : l[k]? = some x) : l.drop k = x :: l.drop (k + 1) := by
  obtain ⟨h1, rfl⟩ := List.getElem?_eq_some_iff.1 h
  exact List.drop_eq_getElem_cons h1

/-- A slice type and its elements' row of the program's table. -/
structure Ty (P : Program) (T E : TypeId) (α : Type) [Flat α] : Prop where
  und : P.underlying T = some (.slice E)
  info : ∃ i z, P.info? E = some i ∧ i.zero = some z ∧ i.size = Flat.n α ∧ i.bytes ≤ 128 ∧ z.cells.size = Flat.n α

theorem Ty.of {P : Program} {T E : TypeId} {α : Type} [Flat α] {z : Value} {size bytes : Nat} (h0 : P.underlying T = some (.slice E)) (h : (P.info? E).map (fun i => (i.zero, i.size, i.bytes)) = some (some z, size, bytes))
    (h1 : size = Flat.n α) (h2 : bytes ≤ 128) (h3 : z.cells.size = Flat.n α) : Ty P T E α := by
  obtain ⟨i, hi, hz0, hz1, hz2⟩ := info_parts h
  exact ⟨h0, i, z, hi, hz0, hz1.trans h1, by omega, h3⟩

section
variable {P : Program} {ops : Array Oper} {rest : List Oper} {o : Oper} {act : Act} {Q : Exit → Act → World → Prop} {α : Type} [Flat α]

/-- append of one element: it lies in a new block of its own when the builtin is called. -/
theorem wpList_push {w : World} {T E : TypeId} (ty : Ty P T E α) {B : Nat} {a : Option Addr} {c : Nat} {l : List α} (own : Own w B E a c l) (y : α) {s x : Operand} {cs : Array Value} (hgd : o.guard = none)
    (ho : o.op = .call { callee := .builtin .append, args := #[s, x], argTypes := #[T, T] }) (hcs : cs.toList = Flat.enc y)
    {n k : Nat} (hs : act.eval s = .slice a n c) (hx : act.eval x = .slice (some ⟨k, 0, none⟩) 1 1) (hk : k = w.heap.size) (hn : n = l.length) (hB : B ≤ w.heap.size) (hl : n ≤ 1000000000)
    (h : ∀ a' c' w', Own w' B E a' c' (l ++ [y]) → w.grownBy w' (a.map (·.block)) → (a'.map (·.block) = a.map (·.block) ∨ ∃ g, a'.map (·.block) = some g ∧ w.heap.size ≤ g) → wpList P ops Q rest (act.put o.dst (.slice a' (n + 1) c')) w') :
    wpList P ops Q (o :: rest) act (w.alloc (.cells cs E)) := by
  subst hn hk
  obtain ⟨i, z, hi, hz, hsz, hby, hzs⟩ := ty.info
  refine wpList_plain hgd fun K hK => ?_
  have own1 : (w.alloc (.cells cs E)).ownsRow B E (Flat.n α) (.slice a l.length c) l.length (l.flatMap Flat.enc) := World.ownsRow.alloc own _
  have hn : cs.toList.length = 1 * Flat.n α := by rw [hcs, Flat.len, Nat.one_mul]
  have hnews : ∀ j u, cs.toList[j]? = some u → (w.alloc (.cells cs E)).cell? ((⟨w.heap.size, 0, none⟩ : Addr).add j) = some u := by
    intro j u hu
    rw [addr_add, cell_of_row _ w.heap.size (0 + j) cs E (0, 0) (heap_alloc_new w _)]
    simpa using hu
  obtain ⟨v', w', hr, h2, h3, _, h5⟩ := run_append_own_at (P := P) (w.alloc (.cells cs E)) B T o.type E i z (Flat.n α) i.bytes ty.und hi hz hsz rfl hzs Flat.pos _ _ _ own1 ⟨w.heap.size, 0, none⟩ 1 1 cs.toList hn hnews
    (by rw [hcs]; exact Flat.one y) (by simp only [maxLen]; omega) (Nat.le_trans (Nat.mul_le_mul (show l.length + 1 ≤ 1000000001 by omega) hby) (by decide)) (by simp; omega)
  unfold Oper.wp execOp
  simp only [ho, resolve, invoke, builtin, Sem.run_bind, Sem.run_pure, Result.andThen_ok, List.map_toArray, List.map_cons, List.map_nil, hs, hx, hr]
  have hblk : w.grownBy w' (a.map (·.block)) := by
    have e : Value.ownBlock (.slice a l.length c) = a.map (·.block) := by cases a <;> rfl
    rw [e] at h3
    exact ⟨h3.os, h3.tape, h3.output, Nat.le_trans (by simp) h3.size, fun k hk hne => (h3.block k (by simp; omega) hne).trans (Below.heap_alloc w _ k hk)⟩
  have hform : ∃ a' c', v' = .slice a' (l.length + 1) c' := by
    rcases h2.2 with ⟨rfl, h0⟩ | ⟨g, cap, cur, rfl, _⟩
    · omega
    · exact ⟨_, _, rfl⟩
  obtain ⟨a', c', rfl⟩ := hform
  refine hK _ _ (h a' c' w' ?_ hblk ?_)
  · unfold Own
    rw [List.flatMap_append, List.length_append]
    simpa [← hcs] using h2
  · have e : Value.ownBlock (.slice a l.length c) = a.map (·.block) := by cases a <;> rfl
    have e' : Value.ownBlock (.slice a' (l.length + 1) c') = a'.map (·.block) := by cases a' <;> rfl
    rcases h5 with h5 | h5
    · left; rw [← e, ← e', h5]
    · right; exact ⟨_, by rw [← e', h5], by simp⟩

/-- append of a whole list that lies elsewhere, or is empty. -/
theorem run_append_none {w : World} {T E : TypeId} (ty : Ty P T E α) {B : Nat} {a : Option Addr} {c : Nat} {l : List α} (own : Own w B E a c l) (c2 : Nat) (t0 : TypeId) :
    (Builtin.append_ #[T, T] t0 #[.slice a l.length c, .slice none 0 c2]).run P w = .ok (.slice a l.length c) w := by
  obtain ⟨i, z, hi, hz, hsz, hby, hzs⟩ := ty.info
  rcases own.2 with ⟨hv, h0⟩ | ⟨g, cap, cur, hv, _, _, hnc, _⟩
  · rw [hv]
    simp [Builtin.append_, run_underlying ty.und, sizeOf, typeInfo, hi, Builtin.lenOf, Builtin.firstCells]
  · rw [hv]
    simp [Builtin.append_, run_underlying ty.und, sizeOf, typeInfo, hi, Builtin.lenOf, Builtin.firstCells, hnc, storeCells]

theorem run_append_all {w : World} {T E : TypeId} (ty : Ty P T E α) {B : Nat} {a : Option Addr} {c : Nat} {l : List α} (own : Own w B E a c l) {a2 : Option Addr} {c2 : Nat} {l2 : List α} (src : At w a2 l2) (t0 : TypeId)
    (hB : B ≤ w.heap.size) (hl : l.length ≤ 1000000000) (hl2 : l2.length ≤ 1000000000) :
    ∃ a' c' w', (Builtin.append_ #[T, T] t0 #[.slice a l.length c, .slice a2 l2.length c2]).run P w = .ok (.slice a' (l.length + l2.length) c') w' ∧ Own w' B E a' c' (l ++ l2) ∧ w.grownBy w' (a.map (·.block)) ∧
      (a'.map (·.block) = a.map (·.block) ∨ ∃ g, a'.map (·.block) = some g ∧ w.heap.size ≤ g) := by
  obtain ⟨i, z, hi, hz, hsz, hby, hzs⟩ := ty.info
  cases a2 with
  | none =>
    have h0 : l2 = [] := by
      cases l2 with
      | nil => rfl
      | cons x r => obtain ⟨b, off, h, _⟩ := src 0 x rfl; cases h
    subst h0
    exact ⟨a, c, w, run_append_none ty own c2 t0, by simpa using own, World.grownBy.refl w _, .inl rfl⟩
  | some ad =>
    have hnews : ∀ j u, (l2.flatMap Flat.enc)[j]? = some u → w.cell? (ad.add j) = some u := by
      intro j u hu
      have hj : j < l2.length * Flat.n α := by rw [← enc_length]; exact (List.getElem?_eq_some_iff.1 hu).1
      have hp : 0 < Flat.n α := Flat.pos
      have hi' : j / Flat.n α < l2.length := (Nat.div_lt_iff_lt_mul hp).2 hj
      have hx := List.getElem?_eq_getElem hi'
      obtain ⟨b, off, e, h2⟩ := src _ _ hx
      injection e with e
      subst e
      have hf : j % Flat.n α < (Flat.enc l2[j / Flat.n α]).length := by rw [Flat.len]; exact Nat.mod_lt _ hp
      have h3 := enc_flat l2 _ _ hx _ _ (List.getElem?_eq_getElem hf)
      have hdm : j / Flat.n α * Flat.n α + j % Flat.n α = j := by rw [Nat.mul_comm]; exact Nat.div_add_mod j _
      rw [hdm, hu] at h3
      have h4 := h2 _ _ (List.getElem?_eq_getElem hf)
      rw [addr_add, ← h3] at *
      rw [← h4]
      congr 2
      omega
    obtain ⟨v', w', hr, h2, h3, h4, h5⟩ := run_append_own_at (P := P) w B T t0 E i z (Flat.n α) i.bytes ty.und hi hz hsz rfl hzs Flat.pos _ _ _ own ad l2.length c2 _ (enc_length l2) hnews
      (enc_one l2) (by simp only [maxLen]; omega) (Nat.le_trans (Nat.mul_le_mul (show l.length + l2.length ≤ 2000000000 by omega) hby) (by decide)) hB
    have e : Value.ownBlock (.slice a l.length c) = a.map (·.block) := by cases a <;> rfl
    have hform : ∃ a' c', v' = .slice a' (l.length + l2.length) c' := by
      rcases h2.2 with ⟨rfl, h0⟩ | ⟨g, cap, cur, rfl, _⟩
      · exact ⟨none, 0, by rw [h0]⟩
      · exact ⟨_, _, rfl⟩
    obtain ⟨a', c', rfl⟩ := hform
    have e' : Value.ownBlock (.slice a' (l.length + l2.length) c') = a'.map (·.block) := by cases a' <;> rfl
    refine ⟨a', c', w', hr, ?_, by rw [← e]; exact h3, ?_⟩
    · unfold Own
      rw [List.flatMap_append, List.length_append]
      exact h2
    · rcases h5 with h5 | h5
      · left; rw [← e, ← e', h5]
      · right; exact ⟨_, by rw [← e', h5], Nat.le_refl _⟩

theorem wpList_pushAll {w : World} {T E : TypeId} (ty : Ty P T E α) {B : Nat} {a : Option Addr} {c : Nat} {l : List α} (own : Own w B E a c l) {a2 : Option Addr} {c2 : Nat} {l2 : List α} (src : At w a2 l2) {s x : Operand} (hgd : o.guard = none)
    (ho : o.op = .call { callee := .builtin .append, args := #[s, x], argTypes := #[T, T] })
    {n n2 : Nat} (hs : act.eval s = .slice a n c) (hx : act.eval x = .slice a2 n2 c2) (hn : n = l.length) (hn2 : n2 = l2.length) (hB : B ≤ w.heap.size) (hl : n ≤ 1000000000) (hl2 : n2 ≤ 1000000000)
    (h : ∀ a' c' w', Own w' B E a' c' (l ++ l2) → w.grownBy w' (a.map (·.block)) → (a'.map (·.block) = a.map (·.block) ∨ ∃ g, a'.map (·.block) = some g ∧ w.heap.size ≤ g) → wpList P ops Q rest (act.put o.dst (.slice a' (n + n2) c')) w') :
    wpList P ops Q (o :: rest) act w := by
  subst hn hn2
  refine wpList_plain hgd fun K hK => ?_
  obtain ⟨a', c', w', hr, h1, h2, h3⟩ := run_append_all ty own src o.type hB hl hl2 (c2 := c2)
  unfold Oper.wp execOp
  simp only [ho, resolve, invoke, builtin, Sem.run_bind, Sem.run_pure, Result.andThen_ok, List.map_toArray, List.map_cons, List.map_nil, hs, hx, hr]
  exact hK _ _ (h a' c' w' h1 h2 h3)
end

section
variable {α : Type} [Flat α]
/-- Below B nothing turns when a slice of the call's own grows. -/
theorem below_push {B : Nat} {w0 w w' : World} {E : TypeId} {a : Option Addr} {c : Nat} {l : List α} (h : Below B w0 w) (own : Own w B E a c l) (hg : w.grownBy w' (a.map (·.block))) (hB : B ≤ w.heap.size) : Below B w0 w' :=
  h.grown hg hB fun k hk => (own.blk k hk).1
end

section
variable {α : Type} [Flat α]
/-- A block that is known whole, as a list. -/
theorem At.ofBlk {w : World} {g : Nat} {T : TypeId} {cs : Array Value} (h : Blk w g T cs) (l : List α) (hcs : cs.toList = l.flatMap Flat.enc) : At w (some ⟨g, 0, none⟩) l := by
  intro i x hx
  refine ⟨g, 0, rfl, fun f u hu => ?_⟩
  have h1 := enc_flat l i x hx f u hu
  rw [← hcs] at h1
  rw [Nat.zero_add]
  exact (h.cell _).trans (by simpa using h1)
theorem At.one {w : World} {g : Nat} {l : List α} (h : At w (some ⟨g, 0, none⟩) l) (i : Nat) (x : α) (hx : l[i]? = some x) (f : Nat) (u : Value) (hu : (Flat.enc x)[f]? = some u) : w.cell? ⟨g, i * Flat.n α + f, none⟩ = some u := by
  obtain ⟨b, off, e, h2⟩ := h i x hx
  simp at e
  obtain ⟨rfl, rfl⟩ := e
  have := h2 f u hu
  rwa [Nat.zero_add] at this
theorem Own.some_ {w : World} {B : Nat} {E : TypeId} {a : Option Addr} {c : Nat} {l : List α} (h : Own w B E a c l) (hl : l ≠ []) : ∃ g, a = some ⟨g, 0, .none⟩ ∧ B ≤ g ∧ g < w.heap.size := by
  rcases h.form with ⟨_, _, e⟩ | h
  · exact absurd e hl
  · exact h
end
end Go.Proofs.Ytoklehndfncmnaa
