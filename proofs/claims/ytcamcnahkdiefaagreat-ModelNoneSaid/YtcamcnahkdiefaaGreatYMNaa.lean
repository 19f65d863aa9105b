/- Several texts of mine in one file. -/
import Derived.WalkKit
import Derived.WalkSpells
import Derived.WalkLawsBesides
import Derived.Deep.QuietTactic
import Derived.Deep.Draws
import Derived.BigQuiet
import Derived.Maps.AppendAt
import Derived.Deep.AppendLies
import Derived.Deep.RegionHeld3
import Derived.StillTailTactics
/- Several texts of mine in one file: Pre, St, Rg, Nest, Nest2, Sz, Fl, U8. -/
/- Words for memory that the walks of this seat share: data that lies flat in cells, slices that read as lists, slices of the call's own; and the laws of append over them. No program is named here. -/
namespace Go.Proofs.YtcamcnahkdiefaaGreat
set_option linter.unusedVariables false
set_option linter.unusedSimpArgs false
open Go.RowKit

theorem hide {p : Prop} (h : p) : Hid p := h

/-- Data of a fixed number of cells, none of which leads on. -/
class Flat (α : Type) where
  n : Nat
  enc : α → List Value
  len : ∀ x, (enc x).length = n
  one : ∀ x, ∀ u ∈ enc x, u.oneCell' = true
  pos : 0 < n

instance : Flat Int := ⟨1, fun x => [.int .i64 x], fun _ => rfl, fun x u hu => by simp at hu; subst hu; rfl, by decide⟩
instance : Flat UInt64 := ⟨1, fun x => [.int .u64 (x.toNat : Int)], fun _ => rfl, fun x u hu => by simp at hu; subst hu; rfl, by decide⟩
instance : Flat Bool := ⟨1, fun x => [.bool x], fun _ => rfl, fun x u hu => by simp at hu; subst hu; rfl, by decide⟩
instance : Flat (Int × Int) := ⟨2, fun x => [.int .i64 x.1, .int .i64 x.2], fun _ => rfl, fun x u hu => by simp at hu; rcases hu with rfl | rfl <;> rfl, by decide⟩
structure Hd where
  a : Option Addr
  n : Nat
  c : Nat
instance : Flat Hd := ⟨1, fun x => [.slice x.a x.n x.c], fun _ => rfl, fun x u hu => by simp at hu; subst hu; rfl, by decide⟩

structure OpD where
  kind : Int
  d : Int
  a : Int
  b : Int
  v : UInt64
  deriving DecidableEq
instance : Flat OpD := ⟨5, fun x => [.int .i64 x.kind, .int .i64 x.d, .int .i64 x.a, .int .i64 x.b, .int .u64 (x.v.toNat : Int)], fun _ => rfl,
  fun x u hu => by simp at hu; rcases hu with rfl | rfl | rfl | rfl | rfl <;> rfl, by decide⟩

def Blk (w : World) (g : Nat) (T : TypeId) (cs : Array Value) : Prop := w.heap[g]? = some (.cells cs T (0, 0))
section
variable {w w' : World} {g : Nat} {T : TypeId} {cs : Array Value}
theorem Blk.lt (h : Blk w g T cs) : g < w.heap.size := (Array.getElem?_eq_some_iff.1 h).1
theorem Blk.cell (h : Blk w g T cs) (i : Nat) : w.cell? ⟨g, i, none⟩ = cs[i]? := cell_of_row w g i cs T (0, 0) h
theorem Blk.cell_ (h : Blk w g T cs) {i : Nat} {v : Value} (hv : cs[i]? = some v) : w.cell? ⟨g, i, none⟩ = some v := (h.cell i).trans hv
theorem Blk.frozen (h : Blk w g T cs) (i : Nat) : w.frozen? ⟨g, i, none⟩ = false := frozen_of_row w g i cs T h
theorem Blk.new (w : World) (T : TypeId) (cs : Array Value) : Blk (w.alloc (.cells cs T)) w.heap.size T cs := heap_alloc_new w _
theorem Blk.set_ (h : Blk w g T cs) (i : Nat) (u : Value) : Blk (w.setCell ⟨g, i, none⟩ u) g T (cs.setIfInBounds i u) := by
  unfold Blk at h ⊢
  simp [World.setCell, Array.getElem?_modify, h]
theorem Blk.far (h : Blk w g T cs) {p : Addr} (hp : g ≠ p.block) (u : Value) : Blk (w.setCell p u) g T cs := (Below.heap_setCell w p u g hp).trans h
theorem Blk.alloc (h : Blk w g T cs) (o : Obj) : Blk (w.alloc o) g T cs := (Below.heap_alloc w o g h.lt).trans h
theorem Blk.drewN (h : Blk w g T cs) (n : Nat) : Blk (w.drewN n) g T cs := h
theorem Blk.below {B : Nat} (h : Blk w g T cs) (hb : Below B w w') (hB : g < B) : Blk w' g T cs := (hb.block g hB).trans h
theorem Blk.belowN (h : Blk w g T cs) (hb : Below w.heap.size w w') : Blk w' g T cs := (hb.block g h.lt).trans h
theorem Blk.grown {row : Option Nat} (h : Blk w g T cs) (hb : w.grownBy w' row) (hg : some g ≠ row) : Blk w' g T cs := (hb.block g h.lt hg).trans h
end

theorem Blk.c1 {w : World} {g : Nat} {T : TypeId} {u0 : Value} (h : Blk w g T #[u0]) : w.cell? ⟨g, 0, none⟩ = some u0 ∧ w.frozen? ⟨g, 0, none⟩ = false := ⟨h.cell 0, h.frozen 0⟩
theorem Blk.c2 {w : World} {g : Nat} {T : TypeId} {u0 u1 : Value} (h : Blk w g T #[u0, u1]) : w.cell? ⟨g, 0, none⟩ = some u0 ∧ w.cell? ⟨g, 1, none⟩ = some u1 ∧ w.frozen? ⟨g, 0, none⟩ = false ∧ w.frozen? ⟨g, 1, none⟩ = false := ⟨h.cell 0, h.cell 1, h.frozen 0, h.frozen 1⟩
theorem Blk.c3 {w : World} {g : Nat} {T : TypeId} {u0 u1 u2 : Value} (h : Blk w g T #[u0, u1, u2]) : w.cell? ⟨g, 0, none⟩ = some u0 ∧ w.cell? ⟨g, 1, none⟩ = some u1 ∧ w.cell? ⟨g, 2, none⟩ = some u2 ∧ w.frozen? ⟨g, 0, none⟩ = false ∧ w.frozen? ⟨g, 1, none⟩ = false ∧ w.frozen? ⟨g, 2, none⟩ = false := ⟨h.cell 0, h.cell 1, h.cell 2, h.frozen 0, h.frozen 1, h.frozen 2⟩
theorem Blk.c4 {w : World} {g : Nat} {T : TypeId} {u0 u1 u2 u3 : Value} (h : Blk w g T #[u0, u1, u2, u3]) : w.cell? ⟨g, 0, none⟩ = some u0 ∧ w.cell? ⟨g, 1, none⟩ = some u1 ∧ w.cell? ⟨g, 2, none⟩ = some u2 ∧ w.cell? ⟨g, 3, none⟩ = some u3 ∧ w.frozen? ⟨g, 0, none⟩ = false ∧ w.frozen? ⟨g, 1, none⟩ = false ∧ w.frozen? ⟨g, 2, none⟩ = false ∧ w.frozen? ⟨g, 3, none⟩ = false := ⟨h.cell 0, h.cell 1, h.cell 2, h.cell 3, h.frozen 0, h.frozen 1, h.frozen 2, h.frozen 3⟩
theorem Blk.c5 {w : World} {g : Nat} {T : TypeId} {u0 u1 u2 u3 u4 : Value} (h : Blk w g T #[u0, u1, u2, u3, u4]) : w.cell? ⟨g, 0, none⟩ = some u0 ∧ w.cell? ⟨g, 1, none⟩ = some u1 ∧ w.cell? ⟨g, 2, none⟩ = some u2 ∧ w.cell? ⟨g, 3, none⟩ = some u3 ∧ w.cell? ⟨g, 4, none⟩ = some u4 ∧ w.frozen? ⟨g, 0, none⟩ = false ∧ w.frozen? ⟨g, 1, none⟩ = false ∧ w.frozen? ⟨g, 2, none⟩ = false ∧ w.frozen? ⟨g, 3, none⟩ = false ∧ w.frozen? ⟨g, 4, none⟩ = false := ⟨h.cell 0, h.cell 1, h.cell 2, h.cell 3, h.cell 4, h.frozen 0, h.frozen 1, h.frozen 2, h.frozen 3, h.frozen 4⟩
theorem Blk.c6 {w : World} {g : Nat} {T : TypeId} {u0 u1 u2 u3 u4 u5 : Value} (h : Blk w g T #[u0, u1, u2, u3, u4, u5]) : w.cell? ⟨g, 0, none⟩ = some u0 ∧ w.cell? ⟨g, 1, none⟩ = some u1 ∧ w.cell? ⟨g, 2, none⟩ = some u2 ∧ w.cell? ⟨g, 3, none⟩ = some u3 ∧ w.cell? ⟨g, 4, none⟩ = some u4 ∧ w.cell? ⟨g, 5, none⟩ = some u5 ∧ w.frozen? ⟨g, 0, none⟩ = false ∧ w.frozen? ⟨g, 1, none⟩ = false ∧ w.frozen? ⟨g, 2, none⟩ = false ∧ w.frozen? ⟨g, 3, none⟩ = false ∧ w.frozen? ⟨g, 4, none⟩ = false ∧ w.frozen? ⟨g, 5, none⟩ = false := ⟨h.cell 0, h.cell 1, h.cell 2, h.cell 3, h.cell 4, h.cell 5, h.frozen 0, h.frozen 1, h.frozen 2, h.frozen 3, h.frozen 4, h.frozen 5⟩

theorem grown_trans {a b c : World} {row : Option Nat} (h : a.grownBy b row) (k : b.grownBy c row) : a.grownBy c row :=
  ⟨k.os.trans h.os, k.tape.trans h.tape, k.output.trans h.output, Nat.le_trans h.size k.size, fun i hi hne => (k.block i (Nat.lt_of_lt_of_le hi h.size) hne).trans (h.block i hi hne)⟩
theorem grown_of_below {a b : World} (h : Below a.heap.size a b) (row : Option Nat) : a.grownBy b row := ⟨h.os, h.tape, h.output, h.size, fun i hi _ => h.block i hi⟩
theorem below_of_grown {a b : World} (h : a.grownBy b none) : Below a.heap.size a b := ⟨h.os, h.tape, h.output, h.size, fun i hi => h.block i hi (by simp)⟩
theorem grown_setCell (w : World) (g i : Nat) (u : Value) : w.grownBy (w.setCell ⟨g, i, none⟩ u) (some g) :=
  ⟨rfl, rfl, rfl, by simp [World.setCell], fun k _ hne => Below.heap_setCell w ⟨g, i, none⟩ u k fun e => hne (by rw [e])⟩
theorem grown_drewN (w : World) (n : Nat) (row : Option Nat) : w.grownBy (w.drewN n) row := ⟨rfl, rfl, rfl, Nat.le_refl _, fun _ _ _ => rfl⟩
theorem below_drewN {B : Nat} {a w : World} (h : Below B a w) (n : Nat) : Below B a (w.drewN n) := ⟨h.os, h.tape, h.output, h.size, h.block⟩
theorem below_drawn (w : World) (B n : Nat) : Below B w (w.drewN n) := ⟨rfl, rfl, rfl, Nat.le_refl _, fun _ _ => rfl⟩

def cutA (a : Option Addr) (l m s : Nat) : Option Addr := if m = l then a else a.map (·.add (l * s))

theorem cut_zero (a : Option Addr) (m s : Nat) : (if m = 0 then a else a.map (·.add (0 * s))) = a := by
  split
  · rfl
  · cases a with
    | none => rfl
    | some ad => simp [Addr.add]
@[simp] theorem cutA_zero (a : Option Addr) (m s : Nat) : cutA a 0 m s = a := cut_zero a m s
-- cuts of slices, without parting on the room
section
variable {P : Program} (w : World) (t : TypeId) (a : Option Addr) (len cap : Nat) (ht : P.underlying t = some (.slice (P.elem t)))
include ht
@[simp] theorem run_cut_lh (kl kh : IntKind) (l h : Int) (h0 : 0 ≤ l) (h1 : l ≤ h) (h2 : h ≤ cap) :
    (Instr.slice t (.slice a len cap) (some (.int kl l)) (some (.int kh h)) none).run P w =
      ((sizeOf (P.elem t)).run P w).andThen fun s w => .ok (.slice (cutA a l.toNat cap s) (h.toNat - l.toNat) (cap - l.toNat)) w := run_slice_lh w t a len cap ht kl kh l h h0 h1 h2
@[simp] theorem run_cut_l (kl : IntKind) (l : Int) (h0 : 0 ≤ l) (h1 : l ≤ len) :
    (Instr.slice t (.slice a len cap) (some (.int kl l)) none none).run P w =
      ((sizeOf (P.elem t)).run P w).andThen fun s w => .ok (.slice (cutA a l.toNat cap s) (len - l.toNat) (cap - l.toNat)) w := run_slice_l w t a len cap ht kl l h0 h1
@[simp] theorem run_cut_any (lo hi mx : Option Value) :
    (Instr.slice t (.slice a len cap) lo hi mx).run P w =
      ((Instr.sliceBounds true len cap lo hi mx).run P w).andThen fun b w => ((sizeOf (P.elem t)).run P w).andThen fun s w => .ok (.slice (cutA a b.1 b.2.2 s) (b.2.1 - b.1) (b.2.2 - b.1)) w := run_slice_any w t a len cap ht lo hi mx
@[simp] theorem run_cut_h (kh : IntKind) (h : Int) (h0 : 0 ≤ h) (h2 : h ≤ cap) :
    (Instr.slice t (.slice a len cap) none (some (.int kh h)) none).run P w =
      ((sizeOf (P.elem t)).run P w).andThen fun _ w => .ok (.slice a h.toNat cap) w := by
  rw [run_slice_h w t a len cap ht kh h h0 h2]
  cases (sizeOf (P.elem t)).run P w with
  | ok s w => simp only [Result.andThen, sliced, cut_zero]; simp
  | halt h w => rfl
end

theorem bcell {W w1 : World} (hb : Below W.heap.size W w1) : (∀ b o, b < W.heap.size → w1.cell? ⟨b, o, none⟩ = W.cell? ⟨b, o, none⟩) ∧ (∀ b o, b < W.heap.size → w1.frozen? ⟨b, o, none⟩ = W.frozen? ⟨b, o, none⟩) :=
  ⟨fun b o h => hb.cell (p := ⟨b, o, none⟩) h, fun b o h => hb.frozen (p := ⟨b, o, none⟩) h⟩

section
variable {α : Type} [Flat α]

def At (w : World) (a : Option Addr) (l : List α) : Prop :=
  ∀ i x, l[i]? = some x → ∃ b off, a = some ⟨b, off, none⟩ ∧ ∀ f u, (Flat.enc x)[f]? = some u → w.cell? ⟨b, off + i * Flat.n α + f, none⟩ = some u

theorem At.nil (w : World) (a : Option Addr) : At w a ([] : List α) := fun i x h => by simp at h

theorem At.get {w : World} {a : Option Addr} {l : List α} (h : At w a l) {k : Nat} (hk : k < l.length) :
    ∃ b off x, a = some ⟨b, off, none⟩ ∧ Hid (l[k]? = some x) ∧ ∀ f u, (Flat.enc x)[f]? = some u → w.cell? ⟨b, off + k * Flat.n α + f, none⟩ = some u := by
  obtain ⟨b, off, h1, h2⟩ := h k l[k] (List.getElem?_eq_getElem hk)
  exact ⟨b, off, l[k], h1, List.getElem?_eq_getElem hk, h2⟩

theorem enc_head (x : α) : ∃ u, (Flat.enc x)[0]? = some u := by
  have h : 0 < (Flat.enc x).length := by rw [Flat.len]; exact Flat.pos
  exact ⟨_, List.getElem?_eq_getElem h⟩

theorem At.lt {w : World} {a : Option Addr} {l : List α} (h : At w a l) (hl : l ≠ []) : ∃ b off, a = some ⟨b, off, none⟩ ∧ b < w.heap.size := by
  obtain ⟨x, r, rfl⟩ := List.exists_cons_of_ne_nil hl
  obtain ⟨b, off, h1, h2⟩ := h 0 x rfl
  obtain ⟨u, hu⟩ := enc_head x
  exact ⟨b, off, h1, World.block_lt_of_cell? w _ (h2 0 u hu)⟩

theorem At.keep {w w' : World} {a : Option Addr} {l : List α} (h : At w a l) (hk : ∀ b off, a = some ⟨b, off, none⟩ → b < w.heap.size → w'.heap[b]? = w.heap[b]?) : At w' a l := by
  intro i x hx
  obtain ⟨b, off, h1, h2⟩ := h i x hx
  refine ⟨b, off, h1, fun f u hu => ?_⟩
  have hc := h2 f u hu
  rw [← hc]
  exact World.cell?_of_block (hk b off h1 (World.block_lt_of_cell? w _ hc))

theorem At.below {B : Nat} {w w' : World} {a : Option Addr} {l : List α} (h : At w a l) (hb : Below B w w') (hB : w.heap.size ≤ B) : At w' a l :=
  h.keep fun b _ _ hlt => hb.block b (by omega)

theorem At.drewN {w : World} {a : Option Addr} {l : List α} (h : At w a l) (n : Nat) : At (w.drewN n) a l := h

theorem At.belowN {w w' : World} {a : Option Addr} {l : List α} (h : At w a l) (hb : Below w.heap.size w w') : At w' a l := h.below hb (Nat.le_refl _)

theorem At.grown {w w' : World} {a : Option Addr} {l : List α} {row : Option Nat} (h : At w a l) (hg : w.grownBy w' row) (hr : l ≠ [] → a.map (·.block) ≠ row ∨ row = none) : At w' a l := by
  by_cases hl : l = []
  · subst hl; exact At.nil _ _
  · refine h.keep fun b off e hlt => hg.block b hlt fun hh => ?_
    subst e
    rcases hr hl with h1 | h1
    · exact h1 hh
    · subst h1; cases hh

theorem At.take {w : World} {a : Option Addr} {l : List α} (h : At w a l) (k : Nat) : At w a (l.take k) := by
  intro i x hx
  rw [List.getElem?_take] at hx
  split at hx
  · exact h i x hx
  · cases hx

theorem addr_add (b off k : Nat) : (⟨b, off, none⟩ : Addr).add k = ⟨b, off + k, none⟩ := by
  unfold Addr.add; split <;> simp_all

theorem At.drop {w : World} {a : Option Addr} {l : List α} (h : At w a l) (k : Nat) : At w (a.map (·.add (k * Flat.n α))) (l.drop k) := by
  intro i x hx
  rw [List.getElem?_drop] at hx
  obtain ⟨b, off, rfl, h2⟩ := h _ x hx
  refine ⟨b, off + k * Flat.n α, by simp [addr_add], fun f u hu => ?_⟩
  rw [← h2 f u hu]
  congr 2
  rw [Nat.add_mul]; omega

theorem At.cut {w : World} {a : Option Addr} {l : List α} (h : At w a l) {k c : Nat} (hc : l.length ≤ c) : At w (cutA a k c (Flat.n α)) (l.drop k) := by
  unfold cutA
  split
  · rename_i e
    rw [List.drop_eq_nil_of_le (by omega)]
    exact At.nil _ _
  · exact h.drop k
theorem cutA_block (a : Option Addr) (l m s : Nat) : (cutA a l m s).map (·.block) = a.map (·.block) := by
  unfold cutA
  split
  · rfl
  · cases a with
    | none => rfl
    | some ad => simp [Addr.add]; split <;> rfl

def Own (w : World) (B : Nat) (E : TypeId) (a : Option Addr) (c : Nat) (l : List α) : Prop :=
  w.ownsRow B E (Flat.n α) (.slice a l.length c) l.length (l.flatMap Flat.enc)

theorem enc_flat (l : List α) (i : Nat) (x : α) (hx : l[i]? = some x) (f : Nat) (u : Value) (hu : (Flat.enc x)[f]? = some u) : (l.flatMap Flat.enc)[i * Flat.n α + f]? = some u := by
  have hf : f < Flat.n α := by rw [← Flat.len x]; exact (List.getElem?_eq_some_iff.1 hu).1
  induction l generalizing i with
  | nil => simp at hx
  | cons y r ih =>
    rw [List.flatMap_cons]
    cases i with
    | zero =>
      simp at hx
      subst hx
      rw [List.getElem?_append_left (by rw [Flat.len]; omega)]
      simpa using hu
    | succ i =>
      rw [List.getElem?_append_right (by rw [Flat.len, Nat.add_mul]; omega), Flat.len]
      have : (i + 1) * Flat.n α + f - Flat.n α = i * Flat.n α + f := by rw [Nat.add_mul]; omega
      rw [this]
      exact ih i (by simpa using hx)

theorem enc_length (l : List α) : (l.flatMap Flat.enc).length = l.length * Flat.n α := by
  induction l with
  | nil => simp
  | cons y r ih => rw [List.flatMap_cons, List.length_append, Flat.len, ih, List.length_cons, Nat.add_mul]; omega

theorem enc_one (l : List α) : ∀ u ∈ l.flatMap Flat.enc, u.oneCell' = true := by
  intro u hu
  obtain ⟨x, _, hx⟩ := List.mem_flatMap.1 hu
  exact Flat.one x u hx

theorem Own.none (w : World) (B : Nat) (E : TypeId) : Own w B E .none 0 ([] : List α) := World.ownsRow_nil w B E _

theorem Own.new {B : Nat} (w : World) (hB : B ≤ w.heap.size) (E : TypeId) (α : Type) [Flat α] : Own (w.alloc (.cells #[] E)) B E (some ⟨w.heap.size, 0, .none⟩) 0 ([] : List α) := by
  exact World.ownsRow_made w #[] 0 hB (by decide) (by simp)

theorem Own.at_ {w : World} {B : Nat} {E : TypeId} {a : Option Addr} {c : Nat} {l : List α} (h : Own w B E a c l) : At w a l := by
  intro i x hx
  have hl : i < l.length := (List.getElem?_eq_some_iff.1 hx).1
  rcases h.2 with ⟨_, h0⟩ | ⟨g, cap, cur, hv, _⟩
  · omega
  · have ha : a = some ⟨g, 0, .none⟩ := by injection hv
    subst ha
    refine ⟨g, 0, rfl, fun f u hu => ?_⟩
    have := World.ownsRow.cells h (g := g) rfl _ u (enc_flat l i x hx f u hu)
    rw [addr_add] at this
    rw [← this]
    congr 2
    omega

theorem Own.cap {w : World} {B : Nat} {E : TypeId} {a : Option Addr} {c : Nat} {l : List α} (h : Own w B E a c l) : l.length ≤ c ∧ c ≤ maxLen := by
  rcases h.2 with ⟨hv, h0⟩ | ⟨g, cap, cur, hv, _, _, h1, h2, _⟩
  · injection hv with _ _ h; subst h; exact ⟨by omega, by decide⟩
  · injection hv with _ _ h; subst h; exact ⟨h1, h2⟩

theorem Own.blk {w : World} {B : Nat} {E : TypeId} {a : Option Addr} {c : Nat} {l : List α} (h : Own w B E a c l) : ∀ k, a.map (·.block) = some k → B ≤ k ∧ k < w.heap.size := by
  intro k hk
  cases a with
  | none => simp at hk
  | some ad => exact World.ownsRow.lt h k (by simpa [Value.ownBlock] using hk)

theorem Own.form {w : World} {B : Nat} {E : TypeId} {a : Option Addr} {c : Nat} {l : List α} (h : Own w B E a c l) : (a = .none ∧ c = 0 ∧ l = []) ∨ ∃ g, a = some ⟨g, 0, .none⟩ ∧ B ≤ g ∧ g < w.heap.size := by
  rcases h.2 with ⟨hv, h0⟩ | ⟨g, cap, cur, hv, hB, hg, _⟩
  · injection hv with h1 h2 h3
    exact .inl ⟨h1, h3, List.eq_nil_of_length_eq_zero h0⟩
  · injection hv with h1 h2 h3
    exact .inr ⟨g, h1, hB, (Array.getElem?_eq_some_iff.1 hg).1⟩

theorem Own.mono {w : World} {B B' : Nat} {E : TypeId} {a : Option Addr} {c : Nat} {l : List α} (h : Own w B E a c l) (hB : B' ≤ B) : Own w B' E a c l := by
  refine ⟨h.1, ?_⟩
  rcases h.2 with h | ⟨g, cap, cur, hv, hb, r⟩
  · exact .inl h
  · exact .inr ⟨g, cap, cur, hv, by omega, r⟩

theorem Own.keep {w w' : World} {B : Nat} {E : TypeId} {a : Option Addr} {c : Nat} {l : List α} (h : Own w B E a c l) (hk : ∀ k, a.map (·.block) = some k → k < w.heap.size → w'.heap[k]? = w.heap[k]?) : Own w' B E a c l := by
  refine ⟨h.1, ?_⟩
  rcases h.2 with h | ⟨g, cap, cur, hv, hb, hh, r⟩
  · exact .inl h
  · have ha : a = some ⟨g, 0, .none⟩ := by injection hv
    exact .inr ⟨g, cap, cur, hv, hb, by rw [hk g (by rw [ha]; rfl) (Array.getElem?_eq_some_iff.1 hh).1]; exact hh, r⟩

theorem Own.below {B' : Nat} {w w' : World} {B : Nat} {E : TypeId} {a : Option Addr} {c : Nat} {l : List α} (h : Own w B E a c l) (hb : Below B' w w') (hB : w.heap.size ≤ B') : Own w' B E a c l :=
  h.keep fun k _ hlt => hb.block k (by omega)
theorem Own.belowN {w w' : World} {B : Nat} {E : TypeId} {a : Option Addr} {c : Nat} {l : List α} (h : Own w B E a c l) (hb : Below w.heap.size w w') : Own w' B E a c l := h.below hb (Nat.le_refl _)
theorem Own.setCell {w : World} {B : Nat} {E : TypeId} {a : Option Addr} {c : Nat} {l : List α} (h : Own w B E a c l) {p : Addr} (hp : p.block < B) (u : Value) : Own (w.setCell p u) B E a c l :=
  h.keep fun k hk _ => Below.heap_setCell w p u k (by have := (h.blk k hk).1; omega)
theorem Own.alloc {w : World} {B : Nat} {E : TypeId} {a : Option Addr} {c : Nat} {l : List α} (h : Own w B E a c l) (o : Obj) : Own (w.alloc o) B E a c l :=
  h.keep fun k _ hlt => Below.heap_alloc w o k hlt
theorem Own.drew {w : World} {B : Nat} {E : TypeId} {a : Option Addr} {c : Nat} {l : List α} (h : Own w B E a c l) : Own w.drew B E a c l := h
theorem Own.drewN {w : World} {B : Nat} {E : TypeId} {a : Option Addr} {c : Nat} {l : List α} (h : Own w B E a c l) (n : Nat) : Own (w.drewN n) B E a c l := h
theorem set_flat (l : List α) (i : Nat) (y : α) (u : Value) (hn : Flat.n α = 1) (hu : Flat.enc y = [u]) : (l.flatMap Flat.enc).set i u = (l.set i y).flatMap Flat.enc := by
  induction l generalizing i with
  | nil => rfl
  | cons x r ih =>
    have hx := Flat.len x
    rw [hn] at hx
    obtain ⟨v, hv⟩ := List.length_eq_one_iff.1 hx
    cases i with
    | zero => simp [hv, hu]
    | succ i => simp [hv, ih]
theorem Own.set1 {w : World} {B : Nat} {E : TypeId} {g c : Nat} {l : List α} (h : Own w B E (some ⟨g, 0, .none⟩) c l) (i : Nat) (y : α) (u : Value) (hu : Flat.enc y = [u]) :
    Own (w.setCell ⟨g, i, .none⟩ u) B E (some ⟨g, 0, .none⟩) c (l.set i y) := by
  have hn : Flat.n α = 1 := by rw [← Flat.len y, hu]; rfl
  have := (World.ownsRow.stored h i u).1
  unfold Own
  rw [← set_flat l i y u hn hu, List.length_set]
  exact this
theorem Own.cell1 {w : World} {B : Nat} {E : TypeId} {g c : Nat} {l : List α} (h : Own w B E (some ⟨g, 0, .none⟩) c l) {i : Nat} (hi : i < l.length) (hn : Flat.n α = 1) : ∃ x u, l[i]? = some x ∧ Flat.enc x = [u] ∧ w.cell? ⟨g, i, .none⟩ = some u := by
  have hx := Flat.len l[i]
  rw [hn] at hx
  obtain ⟨u, hu⟩ := List.length_eq_one_iff.1 hx
  obtain ⟨b, off, e, h2⟩ := h.at_ i l[i] (List.getElem?_eq_getElem hi)
  simp at e
  obtain ⟨rfl, rfl⟩ := e
  have := h2 0 u (by rw [hu]; rfl)
  rw [hn] at this
  exact ⟨l[i], u, List.getElem?_eq_getElem hi, hu, by simpa using this⟩
theorem Own.frozen {w : World} {B : Nat} {E : TypeId} {g c : Nat} {l : List α} (h : Own w B E (some ⟨g, 0, .none⟩) c l) (i : Nat) : w.frozen? ⟨g, i, .none⟩ = false := World.ownsRow.frozenAt h i
theorem Own.grown {w w' : World} {B : Nat} {E : TypeId} {a : Option Addr} {c : Nat} {l : List α} {row : Option Nat} (h : Own w B E a c l) (hg : w.grownBy w' row) (hr : a.map (·.block) = .none ∨ a.map (·.block) ≠ row) : Own w' B E a c l := by
  refine h.keep fun k hk hlt => hg.block k hlt fun e => ?_
  rcases hr with h1 | h1
  · rw [h1] at hk; cases hk
  · exact h1 (hk.trans e)
end

def AtL (w : World) (a : Option Addr) (ls : List (List UInt64)) : Prop :=
  ∃ hs : List Hd, At w a hs ∧ hs.length = ls.length ∧ ∀ (i : Nat) (h : Hd) (l : List UInt64), hs[i]? = some h → ls[i]? = some l → h.n = l.length ∧ l.length ≤ h.c ∧ At w h.a l

theorem AtL.get {w wr : World} {a : Option Addr} {ls : List (List UInt64)} (h : AtL w a ls) (hb : Below w.heap.size w wr) {k : Nat} (hk : k < ls.length) :
    ∃ b off ha hc l, a = some ⟨b, off, none⟩ ∧ Hid (ls[k]? = some l) ∧ wr.cell? ⟨b, off + k, none⟩ = some (.slice ha l.length hc) ∧ l.length ≤ hc ∧ At w ha l := by
  obtain ⟨hs, h1, h2, h3⟩ := h
  obtain ⟨b, off, x, e, hx, hc⟩ := (h1.belowN hb).get (k := k) (by omega)
  obtain ⟨e1, e2, e3⟩ := h3 k x ls[k] hx (List.getElem?_eq_getElem hk)
  have := hc 0 _ rfl
  refine ⟨b, off, x.a, x.c, ls[k], e, List.getElem?_eq_getElem hk, ?_, e2, e3⟩
  rw [← e1]
  simpa [Flat.n] using this

theorem AtL.belowN {w w' : World} {a : Option Addr} {ls : List (List UInt64)} (h : AtL w a ls) (hb : Below w.heap.size w w') : AtL w' a ls := by
  obtain ⟨hs, h1, h2, h3⟩ := h
  exact ⟨hs, h1.belowN hb, h2, fun i x l hx hl => let ⟨e1, e2, e3⟩ := h3 i x l hx hl; ⟨e1, e2, e3.belowN hb⟩⟩

theorem At.getU {w wr : World} {a : Option Addr} {l : List UInt64} (h : At w a l) (hb : Below w.heap.size w wr) {k : Nat} (hk : k < l.length) :
    ∃ b off x, a = some ⟨b, off, none⟩ ∧ Hid (l[k]? = some x) ∧ wr.cell? ⟨b, off + k, none⟩ = some (.int .u64 (x.toNat : Int)) := by
  obtain ⟨b, off, x, e, hx, hc⟩ := (h.belowN hb).get hk
  have := hc 0 _ rfl
  exact ⟨b, off, x, e, hx, by simpa [Flat.n] using this⟩
theorem At.getI {w wr : World} {a : Option Addr} {l : List Int} (h : At w a l) (hb : Below w.heap.size w wr) {k : Nat} (hk : k < l.length) :
    ∃ b off x, a = some ⟨b, off, none⟩ ∧ Hid (l[k]? = some x) ∧ wr.cell? ⟨b, off + k, none⟩ = some (.int .i64 x) := by
  obtain ⟨b, off, x, e, hx, hc⟩ := (h.belowN hb).get hk
  have := hc 0 _ rfl
  exact ⟨b, off, x, e, hx, by simpa [Flat.n] using this⟩
theorem At.getOp {w wr : World} {a : Option Addr} {l : List OpD} (h : At w a l) (hb : Below w.heap.size w wr) {k : Nat} (hk : k < l.length) :
    ∃ b off x, a = some ⟨b, off, none⟩ ∧ Hid (l[k]? = some x) ∧ wr.cell? ⟨b, off + k * 5, none⟩ = some (.int .i64 x.kind) ∧ wr.cell? ⟨b, off + k * 5 + 1, none⟩ = some (.int .i64 x.d) ∧
      wr.cell? ⟨b, off + k * 5 + 2, none⟩ = some (.int .i64 x.a) ∧ wr.cell? ⟨b, off + k * 5 + 3, none⟩ = some (.int .i64 x.b) ∧ wr.cell? ⟨b, off + k * 5 + 4, none⟩ = some (.int .u64 (x.v.toNat : Int)) := by
  obtain ⟨b, off, x, e, hx, hc⟩ := (h.belowN hb).get hk
  exact ⟨b, off, x, e, hx, hc 0 _ rfl, hc 1 _ rfl, hc 2 _ rfl, hc 3 _ rfl, hc 4 _ rfl⟩
def OwnL (w : World) (B : Nat) (E : TypeId) (a : Option Addr) (c : Nat) (hs : List Hd) (ls : List (List UInt64)) : Prop :=
  Own w B E a c hs ∧ hs.length = ls.length ∧ ∀ (i : Nat) (h : Hd) (l : List UInt64), hs[i]? = some h → ls[i]? = some l → h.n = l.length ∧ l.length ≤ h.c ∧ At w h.a l ∧ (l ≠ [] → ∃ g, h.a.map (·.block) = some g ∧ B ≤ g ∧ a.map (·.block) ≠ some g)

theorem OwnL.none (w : World) (B : Nat) (E : TypeId) : OwnL w B E .none 0 [] [] := ⟨Own.none _ _ _, rfl, fun i h l hx => by simp at hx⟩
theorem OwnL.at_ {w : World} {B : Nat} {E : TypeId} {a : Option Addr} {c : Nat} {hs : List Hd} {ls : List (List UInt64)} (h : OwnL w B E a c hs ls) : AtL w a ls :=
  ⟨hs, h.1.at_, h.2.1, fun i x l hx hl => let ⟨e1, e2, e3, _⟩ := h.2.2 i x l hx hl; ⟨e1, e2, e3⟩⟩
theorem OwnL.belowN {w w' : World} {B : Nat} {E : TypeId} {a : Option Addr} {c : Nat} {hs : List Hd} {ls : List (List UInt64)} (h : OwnL w B E a c hs ls) (hb : Below w.heap.size w w') : OwnL w' B E a c hs ls :=
  ⟨h.1.belowN hb, h.2.1, fun i x l hx hl => let ⟨e1, e2, e3, e4⟩ := h.2.2 i x l hx hl; ⟨e1, e2, e3.belowN hb, e4⟩⟩
theorem OwnL.setCell {w : World} {B : Nat} {E : TypeId} {a : Option Addr} {c : Nat} {hs : List Hd} {ls : List (List UInt64)} (h : OwnL w B E a c hs ls) {p : Addr} (hp : p.block < B) (u : Value) : OwnL (w.setCell p u) B E a c hs ls := by
  refine ⟨h.1.setCell hp u, h.2.1, fun i x l hx hl => ?_⟩
  obtain ⟨e1, e2, e3, e4⟩ := h.2.2 i x l hx hl
  refine ⟨e1, e2, ?_, e4⟩
  by_cases hl0 : l = []
  · subst hl0; exact At.nil _ _
  · obtain ⟨g, hg, hB, _⟩ := e4 hl0
    exact e3.keep fun b off e _ => Below.heap_setCell w p u b (by rw [e] at hg; simp at hg; omega)
theorem OwnL.push {w w' : World} {B : Nat} {E : TypeId} {a a' : Option Addr} {c c' : Nat} {hs : List Hd} {ls : List (List UInt64)} (h : OwnL w B E a c hs ls) {ha : Option Addr} {hc : Nat} {l : List UInt64} (hat : At w ha l) (hcap : l.length ≤ hc)
    (hne : l ≠ [] → ∃ g, ha.map (·.block) = some g ∧ B ≤ g ∧ a.map (·.block) ≠ some g) (own : Own w' B E a' c' (hs ++ [⟨ha, l.length, hc⟩])) (hg : w.grownBy w' (a.map (·.block))) (hm : a'.map (·.block) = a.map (·.block) ∨ ∃ g, a'.map (·.block) = some g ∧ w.heap.size ≤ g) :
    OwnL w' B E a' c' (hs ++ [⟨ha, l.length, hc⟩]) (ls ++ [l]) := by
  obtain ⟨h1, h2, h3⟩ := h
  have far : ∀ (b : Option Addr) (m : List UInt64), At w b m → m ≠ [] → (∃ g, b.map (·.block) = some g ∧ B ≤ g ∧ a.map (·.block) ≠ some g) → ∃ g, b.map (·.block) = some g ∧ B ≤ g ∧ a'.map (·.block) ≠ some g := by
    intro b m hb hm0 ⟨g, hg1, hg2, hba⟩
    refine ⟨g, hg1, hg2, ?_⟩
    rcases hm with e | ⟨g', e, hlt⟩
    · rw [e]; exact hba
    · obtain ⟨k, off, rfl, hk⟩ := hb.lt hm0
      simp at hg1
      rw [e]
      simp
      omega
  have ne : ∀ (b : Option Addr), (∃ g, b.map (·.block) = some g ∧ B ≤ g ∧ a.map (·.block) ≠ some g) → b.map (·.block) ≠ a.map (·.block) := by
    intro b ⟨g, hg1, _, hg2⟩ e
    exact hg2 (by rw [← e, hg1])
  refine ⟨own, by simp [h2], fun i x y hx hy => ?_⟩
  by_cases hi : i < hs.length
  · rw [List.getElem?_append_left hi] at hx
    rw [List.getElem?_append_left (by omega)] at hy
    obtain ⟨e1, e2, e3, e4⟩ := h3 i x y hx hy
    exact ⟨e1, e2, e3.grown hg fun hy0 => .inl (ne _ (e4 hy0)), fun hy0 => far _ _ e3 hy0 (e4 hy0)⟩
  · rw [List.getElem?_append_right (by omega)] at hx
    rw [List.getElem?_append_right (by omega)] at hy
    have hi0 : i - hs.length = 0 := by
      have := (List.getElem?_eq_some_iff.1 hx).1
      simp at this
      omega
    have hi1 : i - ls.length = 0 := by omega
    rw [hi0] at hx
    rw [hi1] at hy
    simp at hx hy
    subst hx hy
    exact ⟨rfl, hcap, hat.grown hg fun hy0 => .inl (ne _ (hne hy0)), fun hy0 => far _ _ hat hy0 (hne hy0)⟩
theorem drop_at {α : Type} {l : List α} {k : Nat} {x : α} (h : l[k]? = some x) : l.drop k = x :: l.drop (k + 1) := by
  obtain ⟨h1, rfl⟩ := List.getElem?_eq_some_iff.1 h
  exact List.drop_eq_getElem_cons h1

structure Ty (P : Program) (T E : TypeId) (α : Type) [Flat α] : Prop where
  und : P.underlying T = some (.slice E)
  info : ∃ i z, P.info? E = some i ∧ i.zero = some z ∧ i.size = Flat.n α ∧ i.bytes ≤ 128 ∧ z.cells.size = Flat.n α

theorem Ty.of {P : Program} {T E : TypeId} {α : Type} [Flat α] {z : Value} {size bytes : Nat} (h0 : P.underlying T = some (.slice E)) (h : (P.info? E).map (fun i => (i.zero, i.size, i.bytes)) = some (some z, size, bytes))
    (h1 : size = Flat.n α) (h2 : bytes ≤ 128) (h3 : z.cells.size = Flat.n α) : Ty P T E α := by
  obtain ⟨i, hi, hz0, hz1, hz2⟩ := info_parts h
  exact ⟨h0, i, z, hi, hz0, hz1.trans h1, by omega, h3⟩

section
variable {P : Program} {ops : Array Oper} {rest : List Oper} {o : Oper} {act : Act} {Q : Exit → Act → World → Prop} {α : Type} [Flat α]

theorem wpList_push {w : World} {T E : TypeId} (ty : Ty P T E α) {B : Nat} {a : Option Addr} {c : Nat} {l : List α} (own : Own w B E a c l) (y : α) {s x : Operand} {cs : Array Value} (hgd : o.guard = none)
    (ho : o.op = .call { callee := .builtin .append, args := #[s, x], argTypes := #[T, T] }) (hcs : cs.toList = Flat.enc y)
    {n k : Nat} (hs : act.eval s = .slice a n c) (hx : act.eval x = .slice (some ⟨k, 0, none⟩) 1 1) (hk : k = w.heap.size) (hn : n = l.length) (hB : B ≤ w.heap.size) (hl : n ≤ 1000000000)
    (h : ∀ a' c' w', Own w' B E a' c' (l ++ [y]) → w.grownBy w' (a.map (·.block)) → (a'.map (·.block) = a.map (·.block) ∨ ∃ g, a'.map (·.block) = some g ∧ w.heap.size ≤ g) → wpList P ops Q rest (act.put o.dst (.slice a' (n + 1) c')) w') :
    wpList P ops Q (o :: rest) act (w.alloc (.cells cs E)) := by
  subst hn hk
  obtain ⟨i, z, hi, hz, hsz, hby, hzs⟩ := ty.info
  refine wpList_plain hgd fun K hK => ?_
  have own1 : (w.alloc (.cells cs E)).ownsRow B E (Flat.n α) (.slice a l.length c) l.length (l.flatMap Flat.enc) := World.ownsRow.alloc own _
  have hn : cs.toList.length = 1 * Flat.n α := by rw [hcs, Flat.len, Nat.one_mul]
  have hnews : ∀ j u, cs.toList[j]? = some u → (w.alloc (.cells cs E)).cell? ((⟨w.heap.size, 0, none⟩ : Addr).add j) = some u := by
    intro j u hu
    rw [addr_add, cell_of_row _ w.heap.size (0 + j) cs E (0, 0) (heap_alloc_new w _)]
    simpa using hu
  obtain ⟨v', w', hr, h2, h3, _, h5⟩ := run_append_own_at (P := P) (w.alloc (.cells cs E)) B T o.type E i z (Flat.n α) i.bytes ty.und hi hz hsz rfl hzs Flat.pos _ _ _ own1 ⟨w.heap.size, 0, none⟩ 1 1 cs.toList hn hnews
    (by rw [hcs]; exact Flat.one y) (by simp only [maxLen]; omega) (Nat.le_trans (Nat.mul_le_mul (show l.length + 1 ≤ 1000000001 by omega) hby) (by decide)) (by simp; omega)
  unfold Oper.wp execOp
  simp only [ho, resolve, invoke, builtin, Sem.run_bind, Sem.run_pure, Result.andThen_ok, List.map_toArray, List.map_cons, List.map_nil, hs, hx, hr]
  have hblk : w.grownBy w' (a.map (·.block)) := by
    have e : Value.ownBlock (.slice a l.length c) = a.map (·.block) := by cases a <;> rfl
    rw [e] at h3
    exact ⟨h3.os, h3.tape, h3.output, Nat.le_trans (by simp) h3.size, fun k hk hne => (h3.block k (by simp; omega) hne).trans (Below.heap_alloc w _ k hk)⟩
  have hform : ∃ a' c', v' = .slice a' (l.length + 1) c' := by
    rcases h2.2 with ⟨rfl, h0⟩ | ⟨g, cap, cur, rfl, _⟩
    · omega
    · exact ⟨_, _, rfl⟩
  obtain ⟨a', c', rfl⟩ := hform
  refine hK _ _ (h a' c' w' ?_ hblk ?_)
  · unfold Own
    rw [List.flatMap_append, List.length_append]
    simpa [← hcs] using h2
  · have e : Value.ownBlock (.slice a l.length c) = a.map (·.block) := by cases a <;> rfl
    have e' : Value.ownBlock (.slice a' (l.length + 1) c') = a'.map (·.block) := by cases a' <;> rfl
    rcases h5 with h5 | h5
    · left; rw [← e, ← e', h5]
    · right; exact ⟨_, by rw [← e', h5], by simp⟩

theorem run_append_none {w : World} {T E : TypeId} (ty : Ty P T E α) {B : Nat} {a : Option Addr} {c : Nat} {l : List α} (own : Own w B E a c l) (c2 : Nat) (t0 : TypeId) :
    (Builtin.append_ #[T, T] t0 #[.slice a l.length c, .slice none 0 c2]).run P w = .ok (.slice a l.length c) w := by
  obtain ⟨i, z, hi, hz, hsz, hby, hzs⟩ := ty.info
  rcases own.2 with ⟨hv, h0⟩ | ⟨g, cap, cur, hv, _, _, hnc, _⟩
  · rw [hv]
    simp [Builtin.append_, run_underlying ty.und, sizeOf, typeInfo, hi, Builtin.lenOf, Builtin.firstCells]
  · rw [hv]
    simp [Builtin.append_, run_underlying ty.und, sizeOf, typeInfo, hi, Builtin.lenOf, Builtin.firstCells, hnc, storeCells]

theorem run_append_all {w : World} {T E : TypeId} (ty : Ty P T E α) {B : Nat} {a : Option Addr} {c : Nat} {l : List α} (own : Own w B E a c l) {a2 : Option Addr} {c2 : Nat} {l2 : List α} (src : At w a2 l2) (t0 : TypeId)
    (hB : B ≤ w.heap.size) (hl : l.length ≤ 1000000000) (hl2 : l2.length ≤ 1000000000) :
    ∃ a' c' w', (Builtin.append_ #[T, T] t0 #[.slice a l.length c, .slice a2 l2.length c2]).run P w = .ok (.slice a' (l.length + l2.length) c') w' ∧ Own w' B E a' c' (l ++ l2) ∧ w.grownBy w' (a.map (·.block)) ∧
      (a'.map (·.block) = a.map (·.block) ∨ ∃ g, a'.map (·.block) = some g ∧ w.heap.size ≤ g) := by
  obtain ⟨i, z, hi, hz, hsz, hby, hzs⟩ := ty.info
  cases a2 with
  | none =>
    have h0 : l2 = [] := by
      cases l2 with
      | nil => rfl
      | cons x r => obtain ⟨b, off, h, _⟩ := src 0 x rfl; cases h
    subst h0
    exact ⟨a, c, w, run_append_none ty own c2 t0, by simpa using own, World.grownBy.refl w _, .inl rfl⟩
  | some ad =>
    have hnews : ∀ j u, (l2.flatMap Flat.enc)[j]? = some u → w.cell? (ad.add j) = some u := by
      intro j u hu
      have hj : j < l2.length * Flat.n α := by rw [← enc_length]; exact (List.getElem?_eq_some_iff.1 hu).1
      have hp : 0 < Flat.n α := Flat.pos
      have hi' : j / Flat.n α < l2.length := (Nat.div_lt_iff_lt_mul hp).2 hj
      have hx := List.getElem?_eq_getElem hi'
      obtain ⟨b, off, e, h2⟩ := src _ _ hx
      injection e with e
      subst e
      have hf : j % Flat.n α < (Flat.enc l2[j / Flat.n α]).length := by rw [Flat.len]; exact Nat.mod_lt _ hp
      have h3 := enc_flat l2 _ _ hx _ _ (List.getElem?_eq_getElem hf)
      have hdm : j / Flat.n α * Flat.n α + j % Flat.n α = j := by rw [Nat.mul_comm]; exact Nat.div_add_mod j _
      rw [hdm, hu] at h3
      have h4 := h2 _ _ (List.getElem?_eq_getElem hf)
      rw [addr_add, ← h3] at *
      rw [← h4]
      congr 2
      omega
    obtain ⟨v', w', hr, h2, h3, h4, h5⟩ := run_append_own_at (P := P) w B T t0 E i z (Flat.n α) i.bytes ty.und hi hz hsz rfl hzs Flat.pos _ _ _ own ad l2.length c2 _ (enc_length l2) hnews
      (enc_one l2) (by simp only [maxLen]; omega) (Nat.le_trans (Nat.mul_le_mul (show l.length + l2.length ≤ 2000000000 by omega) hby) (by decide)) hB
    have e : Value.ownBlock (.slice a l.length c) = a.map (·.block) := by cases a <;> rfl
    have hform : ∃ a' c', v' = .slice a' (l.length + l2.length) c' := by
      rcases h2.2 with ⟨rfl, h0⟩ | ⟨g, cap, cur, rfl, _⟩
      · exact ⟨none, 0, by rw [h0]⟩
      · exact ⟨_, _, rfl⟩
    obtain ⟨a', c', rfl⟩ := hform
    have e' : Value.ownBlock (.slice a' (l.length + l2.length) c') = a'.map (·.block) := by cases a' <;> rfl
    refine ⟨a', c', w', hr, ?_, by rw [← e]; exact h3, ?_⟩
    · unfold Own
      rw [List.flatMap_append, List.length_append]
      exact h2
    · rcases h5 with h5 | h5
      · left; rw [← e, ← e', h5]
      · right; exact ⟨_, by rw [← e', h5], Nat.le_refl _⟩

theorem wpList_pushAll {w : World} {T E : TypeId} (ty : Ty P T E α) {B : Nat} {a : Option Addr} {c : Nat} {l : List α} (own : Own w B E a c l) {a2 : Option Addr} {c2 : Nat} {l2 : List α} (src : At w a2 l2) {s x : Operand} (hgd : o.guard = none)
    (ho : o.op = .call { callee := .builtin .append, args := #[s, x], argTypes := #[T, T] })
    {n n2 : Nat} (hs : act.eval s = .slice a n c) (hx : act.eval x = .slice a2 n2 c2) (hn : n = l.length) (hn2 : n2 = l2.length) (hB : B ≤ w.heap.size) (hl : n ≤ 1000000000) (hl2 : n2 ≤ 1000000000)
    (h : ∀ a' c' w', Own w' B E a' c' (l ++ l2) → w.grownBy w' (a.map (·.block)) → (a'.map (·.block) = a.map (·.block) ∨ ∃ g, a'.map (·.block) = some g ∧ w.heap.size ≤ g) → wpList P ops Q rest (act.put o.dst (.slice a' (n + n2) c')) w') :
    wpList P ops Q (o :: rest) act w := by
  subst hn hn2
  refine wpList_plain hgd fun K hK => ?_
  obtain ⟨a', c', w', hr, h1, h2, h3⟩ := run_append_all ty own src o.type hB hl hl2 (c2 := c2)
  unfold Oper.wp execOp
  simp only [ho, resolve, invoke, builtin, Sem.run_bind, Sem.run_pure, Result.andThen_ok, List.map_toArray, List.map_cons, List.map_nil, hs, hx, hr]
  exact hK _ _ (h a' c' w' h1 h2 h3)
end

section
variable {α : Type} [Flat α]
theorem below_push {B : Nat} {w0 w w' : World} {E : TypeId} {a : Option Addr} {c : Nat} {l : List α} (h : Below B w0 w) (own : Own w B E a c l) (hg : w.grownBy w' (a.map (·.block))) (hB : B ≤ w.heap.size) : Below B w0 w' :=
  h.grown hg hB fun k hk => (own.blk k hk).1
end

section
variable {α : Type} [Flat α]
theorem At.ofBlk {w : World} {g : Nat} {T : TypeId} {cs : Array Value} (h : Blk w g T cs) (l : List α) (hcs : cs.toList = l.flatMap Flat.enc) : At w (some ⟨g, 0, none⟩) l := by
  intro i x hx
  refine ⟨g, 0, rfl, fun f u hu => ?_⟩
  have h1 := enc_flat l i x hx f u hu
  rw [← hcs] at h1
  rw [Nat.zero_add]
  exact (h.cell _).trans (by simpa using h1)
theorem At.one {w : World} {g : Nat} {l : List α} (h : At w (some ⟨g, 0, none⟩) l) (i : Nat) (x : α) (hx : l[i]? = some x) (f : Nat) (u : Value) (hu : (Flat.enc x)[f]? = some u) : w.cell? ⟨g, i * Flat.n α + f, none⟩ = some u := by
  obtain ⟨b, off, e, h2⟩ := h i x hx
  simp at e
  obtain ⟨rfl, rfl⟩ := e
  have := h2 f u hu
  rwa [Nat.zero_add] at this
theorem Own.some_ {w : World} {B : Nat} {E : TypeId} {a : Option Addr} {c : Nat} {l : List α} (h : Own w B E a c l) (hl : l ≠ []) : ∃ g, a = some ⟨g, 0, .none⟩ ∧ B ≤ g ∧ g < w.heap.size := by
  rcases h.form with ⟨_, _, e⟩ | h
  · exact absurd e hl
  · exact h
end
end Go.Proofs.YtcamcnahkdiefaaGreat

/- append at a step of a region that draws its order. -/
namespace Go.Proofs.YtcamcnahkdiefaaGreat
set_option linter.unusedVariables false
set_option linter.unusedSimpArgs false
open Go.RowKit
theorem Own.made {α : Type} [Flat α] {B : Nat} (w : World) (hB : B ≤ w.heap.size) (E : TypeId) (cs : Array Value) (l : List α) (hcs : cs.toList = l.flatMap Flat.enc) (hl : l.length ≤ maxLen) (c : Nat) (hc : c = l.length) : Own (w.alloc (.cells cs E)) B E (some ⟨w.heap.size, 0, .none⟩) c l := by
  subst hc
  have hz : cs.size = l.length * Flat.n α := by rw [← Array.length_toList, hcs, enc_length]
  exact ⟨enc_length l, .inr ⟨w.heap.size, l.length, cs, rfl, hB, heap_alloc_new w _, Nat.le_refl _, hl, hz, by rw [hcs, List.take_of_length_le (by rw [enc_length]; exact Nat.le_refl _)]⟩⟩
section
variable {P : Program} {ops : Array Oper} {o : Oper} {act : Act} {K : Act → World → Prop} {Q : Exit → Act → World → Prop} {E' : Prop} {α : Type} [Flat α]
theorem step_pushAll {w : World} {T E : TypeId} (ty : Ty P T E α) {B : Nat} {a : Option Addr} {c : Nat} {l : List α} (own : Own w B E a c l) {a2 : Option Addr} {c2 : Nat} {l2 : List α} (src : At w a2 l2) {s x : Operand} (hgd : o.guard = none)
    (ho : o.op = .call { callee := .builtin .append, args := #[s, x], argTypes := #[T, T] })
    {n n2 : Nat} (hs : act.eval s = .slice a n c) (hx : act.eval x = .slice a2 n2 c2) (hn : n = l.length) (hn2 : n2 = l2.length) (hB : B ≤ w.heap.size) (hl : n ≤ 1000000000) (hl2 : n2 ≤ 1000000000)
    (h : ∀ a' c' w', Own w' B E a' c' (l ++ l2) → w.grownBy w' (a.map (·.block)) → (a'.map (·.block) = a.map (·.block) ∨ ∃ g, a'.map (·.block) = some g ∧ w.heap.size ≤ g) → K (act.put o.dst (.slice a' (n + n2) c')) w') :
    if Region.wanted o (yielded ops act.tmps) = true then Oper.wp P o act w K Q else E' := by
  have hw : Region.wanted o (yielded ops act.tmps) = true := by simp [Region.wanted, hgd]
  rw [if_pos hw]
  subst hn hn2
  obtain ⟨a', c', w', hr, h1, h2, h3⟩ := run_append_all ty own src o.type hB hl hl2 (c2 := c2)
  unfold Oper.wp execOp
  simp only [ho, resolve, invoke, builtin, Sem.run_bind, Sem.run_pure, Result.andThen_ok, List.map_toArray, List.map_cons, List.map_nil, hs, hx, hr]
  exact h a' c' w' h1 h2 h3
end
end Go.Proofs.YtcamcnahkdiefaaGreat

/- A region that draws its order: reads, then one call that leaves what is read, then what waits for all of them (an address, a store): in whatever order the reads and the call come. -/
namespace Go.Proofs.YtcamcnahkdiefaaGreat
set_option linter.unusedVariables false
set_option linter.unusedSimpArgs false
open Go.RowKit
section
variable {P : Program} {ops : Array Oper} {Q : Exit → Act → World → Prop} {md : Region.Mode} {S : World → Prop} {late : Nat → Bool}

def anyK (P : Program) (md : Region.Mode) (ops : Array Oper) (Q : Exit → Act → World → Prop) (S : World → Prop) (late : Nat → Bool) : Nat → Array Bool → Act → World → Prop
  | 0, done, a, w => Region.ready md ops done = [] ∧ Q .normal a w
  | n + 1, done, a, w => (Region.ready md ops done = [] → Q .normal a w) ∧
    ∀ i ∈ Region.ready md ops done, wpOp P ops Q i (fun a' w' => (late i = true ∨ S w') ∧ anyK P md ops Q S late n (done.setIfInBounds i true) a' w') a w
theorem anyK_any : ∀ (n : Nat) (done : Array Bool) (a : Act) (w : World), anyK P md ops Q S late n done a w → wpAny P md ops Q n done a w
  | 0, _, _, _, h => h
  | n + 1, _, _, _, h => ⟨h.1, fun i hi => wpOp_mono (fun a' w' h' => anyK_any n _ a' w' h'.2) (h.2 i hi)⟩
theorem anyK_take {i : Nat} {oi : Oper} {v : Value} (hi : ops[i]? = some oi) (hsel : ∀ (j : Nat) (o : Oper) cs b, ops[j]? = some o → o.op ≠ .select cs b)
    (hQ : ∀ c a w, Q (.panic c) (a.put oi.dst v) w → Q (.panic c) a w) (hlate : ∀ j oj, ops[j]? = some oj → late j = true → ∃ e ∈ oj.after, Region.binds md e = true ∧ e.on = i) :
    ∀ (n : Nat) (done : Array Bool) (a : Act) (w : World),
      (∀ j oj, ops[j]? = some oj → j ≠ i → done.getD j true = false → (∀ e ∈ oj.after, Region.binds md e = true → e.on ≠ i) → oi.apart ops oj = true) →
      i ∈ Region.ready md ops done → YieldsIf P ops S oi v a → S w → anyK P md ops Q S late n (done.setIfInBounds i true) (a.put oi.dst v) w → anyK P md ops Q S late (n + 1) done a w := by
  intro n
  induction n with
  | zero =>
    intro done a w _ hr hy hS H
    refine ⟨fun h => (by rw [h] at hr; cases hr), fun j hj => ?_⟩
    by_cases e : j = i
    · subst e; exact hy.wpOp hi hS ⟨.inr hS, H⟩
    · have := ready_mono hj e
      rw [H.1] at this
      cases this
  | succ n ih =>
    intro done a w hfree hr hy hS H
    refine ⟨fun h => (by rw [h] at hr; cases hr), fun j hj => ?_⟩
    by_cases e : j = i
    · subst e; exact hy.wpOp hi hS ⟨.inr hS, H⟩
    · have h1 := H.2 j (ready_mono hj e)
      obtain ⟨hun, oj, hoj, hall⟩ := mem_ready.1 hj
      have hno : ∀ x ∈ oj.after, Region.binds md x = true → x.on ≠ i := fun x hx hb hq => by
        have g1 := hall x hx hb
        have g0 := (mem_ready.1 hr).1
        rw [hq] at g1
        rcases Nat.lt_or_ge i done.size with h' | h'
        · simp [h'] at g0 g1; rw [g0] at g1; cases g1
        · simp [Array.getElem?_eq_none h'] at g1
      have hnl : late j ≠ true := fun hl => by
        obtain ⟨x, hx, hb, hq⟩ := hlate j oj hoj hl
        exact hno x hx hb hq
      have h2 := wpOp_putIf hoj (hfree j oj hoj e hun hno) (fun cs b => hsel i oi cs b hi) (fun cs b => hsel j oj cs b hoj) hQ hy h1
      refine wpOp_mono (fun a' w' h3 => ?_) h2
      have hS' : S w' := h3.2.1.resolve_left hnl
      refine ⟨.inr hS', ih (done.setIfInBounds j true) a' w' (fun k ok hk hki hu hn => ?_) (ready_mono hr (Ne.symm e)) h3.1 hS' ?_⟩
      · refine hfree k ok hk hki ?_ hn
        by_cases hjk : j = k
        · subst hjk; exact hun
        · rw [getD_set_ne true hjk] at hu; exact hu
      · rw [Array.setIfInBounds_comm _ _ e]
        exact h3.2.2
theorem anyK_seq : ∀ (l : List Oper) (k : Nat) (done : Array Bool) (a : Act) (w : World), (∀ j, l[j]? = ops[k + j]?) → (∀ j, k ≤ j → late j = true) →
    Region.seqB md ops l.length k done = true → wpList P ops Q l a w → anyK P md ops Q S late l.length done a w
  | [], _, _, _, _, _, _, hB, h => ⟨by simpa [Region.seqB] using hB, h⟩
  | o :: l, k, done, a, w, hl, hL, hB, h => by
    have h0 : ops[k]? = some o := by simpa using (hl 0).symm
    simp only [List.length_cons, Region.seqB, Bool.and_eq_true, decide_eq_true_eq] at hB
    refine ⟨fun h1 => (by rw [hB.1] at h1; cases h1), fun i hi => ?_⟩
    rw [hB.1] at hi
    have hik : i = k := by simpa using hi
    subst hik
    have hw : wpOp P ops Q i (wpList P ops Q l) a w := by unfold wpOp; simp only [h0]; exact h
    exact wpOp_mono (fun a' w' h' => ⟨.inl (hL i (Nat.le_refl _)), anyK_seq l (i + 1) _ a' w' (fun j => by have := hl (j + 1); simpa [Nat.add_assoc, Nat.add_comm 1 j] using this) (fun j hj => hL j (by omega)) hB.2 h'⟩) hw
def headK (P : Program) (ops : Array Oper) (S : World → Prop) (L : Act → Prop) : List Oper → Act → Prop
  | [], a => L a
  | o :: rest, a => ∃ v, YieldsIf P ops S o v a ∧ headK P ops S L rest (a.put o.dst v)
theorem headK_step {L : Act → Prop} {o : Oper} {rest : List Oper} {a : Act} {v : Value} (hw : Region.wanted o (yielded ops a.tmps) = true) (hr : ∀ w, S w → (execOp a.eval o).run P w = .ok (.value v) w)
    (h : ∀ a', a' = a.put o.dst v → headK P ops S L rest a') : headK P ops S L (o :: rest) a := ⟨v, .inl ⟨hw, hr⟩, h _ rfl⟩
theorem headK_nil {L : Act → Prop} {a : Act} (h : L a) : headK P ops S L [] a := h
def goHead (md : Region.Mode) (ops : Array Oper) : Nat → Nat → Array Bool → Option (Array Bool)
  | 0, _, done => some done
  | n + 1, k, done => if (Region.ready md ops done).contains k && Region.free md ops done k then goHead md ops n (k + 1) (done.setIfInBounds k true) else none
theorem anyK_head {g : Nat} {fin : Array Bool} (hs : Region.noSelect ops = true) (hQ : ∀ c a w i v, Q (.panic c) (Act.put a i v) w → Q (.panic c) a w) :
    ∀ (l : List Oper) (k : Nat) (done : Array Bool) (a : Act) (w : World), (∀ j, j < l.length → l[j]? = ops[k + j]?) → (∀ i, k ≤ i → i < k + l.length → ∀ j oj, ops[j]? = some oj → late j = true → ∃ e ∈ oj.after, Region.binds md e = true ∧ e.on = i) →
      goHead md ops l.length k done = some fin → S w → headK P ops S (fun a' => anyK P md ops Q S late g fin a' w) l a → anyK P md ops Q S late (l.length + g) done a w
  | [], k, done, a, w, _, _, hg, hS, h => by
    simp only [List.length_nil, goHead, Option.some.injEq] at hg
    subst hg
    rw [List.length_nil, Nat.zero_add]
    exact h
  | o :: l, k, done, a, w, hl, hlate, hg, hS, h => by
    have h0 : ops[k]? = some o := by simpa using (hl 0 (by simp)).symm
    simp only [List.length_cons, goHead] at hg
    split at hg
    · rename_i hc
      simp only [Bool.and_eq_true] at hc
      obtain ⟨v, hy, hK⟩ := h
      rw [List.length_cons, show l.length + 1 + g = l.length + g + 1 by omega]
      exact anyK_take h0 (Region.noSelect_spec hs) (fun c a w => hQ c a w _ _) (hlate k (Nat.le_refl _) (by simp)) _ _ _ _ (Region.free_spec h0 hc.2) (by simpa using hc.1) hy hS
        (anyK_head hs hQ l (k + 1) _ _ w (fun j hj => by have := hl (j + 1) (by simp; omega); simpa [Nat.add_assoc, Nat.add_comm 1 j] using this) (fun i h1 h2 => hlate i (by omega) (by simp; omega)) hg hS hK)
    · cases hg
def lateB (md : Region.Mode) (ops : Array Oper) (n : Nat) : Bool :=
  (List.range ops.size).all fun j => decide (j ≤ n) || (List.range n).all fun i => Region.waitsFor md ops j i
def callB (ops : Array Oper) (n : Nat) : Bool :=
  Region.noSelect ops && decide (n < ops.size) && lateB .any ops n && match goHead .any ops n 0 (Array.replicate ops.size false) with
    | some fin => decide (Region.ready .any ops fin = [n]) && Region.seqB .any ops (ops.size - n - 1) (n + 1) (fin.setIfInBounds n true)
    | none => false
theorem wp_region_call {id : Nat} {a : Act} {w : World} {l : List Oper} (n : Nat) (S : World → Prop) (hm : P.follows .mixedOrders = true) (hB : callB l.toArray n = true) (hS : S w.drew)
    (h : headK P l.toArray S (fun a' => ∀ o, l[n]? = some o → ∀ K : Act → World → Prop, (∀ a2 w2, S w2 → wpList P l.toArray (NoPanic Q) (l.drop (n + 1)) a2 w2 → K a2 w2) →
      if Region.wanted o (yielded l.toArray a'.tmps) = true then Oper.wp P o a' w.drew K (NoPanic Q) else K (a'.put o.dst undef) w.drew) (l.take n) a) : (Code.region id l.toArray true).wp P Q a w := by
  refine wp_region_noPanic (wp_region_any hm ?_)
  simp only [callB, Bool.and_eq_true, decide_eq_true_eq] at hB
  obtain ⟨⟨⟨hs, hn⟩, hlB⟩, hg⟩ := hB
  cases hgo : goHead .any l.toArray n 0 (Array.replicate l.toArray.size false) with
  | none => rw [hgo] at hg; cases hg
  | some fin =>
    rw [hgo] at hg
    simp only [Bool.and_eq_true, decide_eq_true_eq] at hg
    have hn' : n < l.length := by simpa using hn
    have htl : (l.take n).length = n := by simp; omega
    have hdl : (l.drop (n + 1)).length = l.toArray.size - n - 1 := by simp; omega
    have hsz : l.toArray.size = (l.take n).length + ((l.toArray.size - n - 1) + 1) := by simp; omega
    refine anyK_any (S := S) (late := fun j => decide (n < j)) _ _ _ _ ?_
    rw [hsz]
    have hsz2 : Array.replicate ((l.take n).length + (l.toArray.size - n - 1 + 1)) false = Array.replicate l.toArray.size false := by rw [← hsz]
    rw [hsz2]
    refine anyK_head (fin := fin) hs (fun c a w i v hq => by cases hq) (l.take n) 0 _ a _ (fun j hj => ?_) (fun i _ hi j oj hj hlt => ?_) (by rw [htl]; exact hgo) hS ?_
    · have hj' : j < n := by rw [htl] at hj; exact hj
      simp [hj']
    · have hjn : n < j := by simpa using hlt
      have hjs : j < l.toArray.size := (Array.getElem?_eq_some_iff.1 hj).1
      have h1 := List.all_eq_true.1 hlB j (List.mem_range.2 hjs)
      simp only [Bool.or_eq_true, decide_eq_true_eq] at h1
      have h2 := h1.resolve_left (by omega)
      have h3 := List.all_eq_true.1 h2 i (List.mem_range.2 (by rw [htl] at hi; omega))
      obtain ⟨o', ho', e, he, hb, hon⟩ := Region.waitsFor_spec h3
      obtain rfl : o' = oj := Option.some.inj (ho'.symm.trans hj)
      exact ⟨e, he, hb, hon⟩
    · have hln : l.toArray[n]? = some l[n] := by simp [hn']
      have key : ∀ (ll : List Oper) (a0 : Act), headK P l.toArray S (fun a' => ∀ o, l[n]? = some o → ∀ K : Act → World → Prop, (∀ a2 w2, S w2 → wpList P l.toArray (NoPanic Q) (l.drop (n + 1)) a2 w2 → K a2 w2) →
          if Region.wanted o (yielded l.toArray a'.tmps) = true then Oper.wp P o a' w.drew K (NoPanic Q) else K (a'.put o.dst undef) w.drew) ll a0 →
          headK P l.toArray S (fun a' => anyK P .any l.toArray (NoPanic Q) S (fun j => decide (n < j)) (l.toArray.size - n - 1 + 1) fin a' w.drew) ll a0 := by
        intro ll
        induction ll with
        | nil =>
          intro a0 h0
          refine ⟨(fun e => by rw [hg.1] at e; cases e), fun i hi => ?_⟩
          rw [hg.1] at hi
          obtain rfl : i = n := by simpa using hi
          unfold wpOp
          simp only [hln]
          have h1 := h0 l[i] (List.getElem?_eq_getElem hn') (fun a' w' => (decide (i < i) = true ∨ S w') ∧ anyK P .any l.toArray (NoPanic Q) S (fun j => decide (i < j)) (l.toArray.size - i - 1) (fin.setIfInBounds i true) a' w') (fun a2 w2 hs2 hw2 => ⟨.inr hs2, by
            rw [← hdl]
            exact anyK_seq _ (i + 1) _ a2 w2 (fun j => by simp) (fun j hj => by simp; omega) (by rw [hdl]; exact hg.2) hw2⟩)
          split
          · rename_i hw; rw [if_pos hw] at h1; exact .inl h1
          · rename_i hw; rw [if_neg hw] at h1; exact h1
        | cons o ll ih =>
          intro a0 h0
          obtain ⟨v, hy, hK⟩ := h0
          exact ⟨v, hy, ih _ hK⟩
      exact key _ _ h
end
end Go.Proofs.YtcamcnahkdiefaaGreat

/- Plain facts on operations that are nested in blocks: well nestedness, forests, what belongs together, depth, parts. No program is named here. -/
namespace Go.Proofs.YtcamcnahkdiefaaGreat
set_option linter.unusedVariables false
set_option linter.unusedSimpArgs false
open Go.RowKit

def wellF : Nat → List OpD → Bool
  | n, [] => n == 0
  | n, x :: r => if x.kind < 0 ∨ 7 < x.kind then false else if x.kind = 7 then wellF (n + 1) r else if x.kind = 0 then (if n = 0 then false else wellF (n - 1) r) else wellF n r
def well (l : List OpD) : Bool := wellF 0 l

inductive Fo where
  | nil
  | leaf (op : OpD) (rest : Fo)
  | rep (op : OpD) (body : Fo) (fin : OpD) (rest : Fo)

namespace Fo
def flat : Fo → List OpD
  | nil => []
  | leaf op r => op :: flat r
  | rep op b fin r => op :: (flat b ++ fin :: flat r)
def ok : Fo → Prop
  | nil => True
  | leaf op r => 1 ≤ op.kind ∧ op.kind ≤ 6 ∧ ok r
  | rep op b fin r => op.kind = 7 ∧ ok b ∧ fin.kind = 0 ∧ ok r
def app : Fo → Fo → Fo
  | nil, g => g
  | leaf op r, g => leaf op (app r g)
  | rep op b fin r, g => rep op b fin (app r g)
def size (f : Fo) : Nat := f.flat.length
end Fo

theorem wellF_flat (f : Fo) (hf : f.ok) (n : Nat) (r : List OpD) : wellF n (f.flat ++ r) = wellF n r := by
  induction f generalizing n r with
  | nil => rfl
  | leaf op s ih =>
    obtain ⟨h1, h2, h3⟩ := hf
    show wellF n (op :: (s.flat ++ r)) = _
    rw [wellF, if_neg (by omega), if_neg (by omega), if_neg (by omega), ih h3]
  | rep op b fin s ihb ihs =>
    obtain ⟨h1, h2, h3, h4⟩ := hf
    show wellF n (op :: ((b.flat ++ fin :: s.flat) ++ r)) = _
    rw [wellF, if_neg (by omega), if_pos h1, List.append_assoc, ihb h2]
    show wellF (n + 1) (fin :: (s.flat ++ r)) = _
    rw [wellF, if_neg (by omega), if_neg (by omega), if_pos h3, if_neg (by omega)]
    exact ihs h4 n r

theorem well_of_flat (f : Fo) (hf : f.ok) : well f.flat = true := by
  have := wellF_flat f hf 0 []
  simpa [well, wellF] using this

theorem wellF_split : ∀ (m : Nat) (l : List OpD) (n : Nat), l.length ≤ m → wellF n l = true →
    (n = 0 → ∃ f : Fo, f.ok ∧ l = f.flat) ∧ (∀ k, n = k + 1 → ∃ (f : Fo) (e : OpD) (r : List OpD), f.ok ∧ e.kind = 0 ∧ l = f.flat ++ e :: r ∧ wellF k r = true) := by
  intro m
  induction m with
  | zero =>
    intro l n hl h
    have : l = [] := List.eq_nil_of_length_eq_zero (by omega)
    subst this
    simp [wellF] at h
    exact ⟨fun _ => ⟨.nil, trivial, rfl⟩, fun k hk => by omega⟩
  | succ m ih =>
    intro l n hl h
    cases l with
    | nil =>
      simp [wellF] at h
      exact ⟨fun _ => ⟨.nil, trivial, rfl⟩, fun k hk => by omega⟩
    | cons x r =>
      simp only [List.length_cons] at hl
      rw [wellF] at h
      by_cases h1 : x.kind < 0 ∨ 7 < x.kind
      · rw [if_pos h1] at h; cases h
      · rw [if_neg h1] at h
        by_cases h7 : x.kind = 7
        · rw [if_pos h7] at h
          obtain ⟨b, e, s, hb, he, rfl, hs⟩ := (ih r (n + 1) (by omega) h).2 n rfl
          have hsl : s.length ≤ m := by simp at hl; omega
          obtain ⟨i1, i2⟩ := ih s n hsl hs
          refine ⟨fun hn => ?_, fun k hk => ?_⟩
          · obtain ⟨g, hg, rfl⟩ := i1 hn
            exact ⟨.rep x b e g, ⟨h7, hb, he, hg⟩, rfl⟩
          · obtain ⟨g, e', t, hg, he', rfl, ht⟩ := i2 k hk
            exact ⟨.rep x b e g, e', t, ⟨h7, hb, he, hg⟩, he', by simp [Fo.flat], ht⟩
        · rw [if_neg h7] at h
          by_cases h0 : x.kind = 0
          · rw [if_pos h0] at h
            by_cases hn : n = 0
            · rw [if_pos hn] at h; cases h
            · rw [if_neg hn] at h
              refine ⟨fun hn' => absurd hn' hn, fun k hk => ⟨.nil, x, r, trivial, h0, rfl, ?_⟩⟩
              have : n - 1 = k := by omega
              rw [← this]
              exact h
          · rw [if_neg h0] at h
            obtain ⟨i1, i2⟩ := ih r n (by omega) h
            refine ⟨fun hn => ?_, fun k hk => ?_⟩
            · obtain ⟨g, hg, rfl⟩ := i1 hn
              exact ⟨.leaf x g, ⟨by omega, by omega, hg⟩, rfl⟩
            · obtain ⟨g, e', t, hg, he', rfl, ht⟩ := i2 k hk
              exact ⟨.leaf x g, e', t, ⟨by omega, by omega, hg⟩, he', rfl, ht⟩

theorem forest_of_well (l : List OpD) (h : well l = true) : ∃ f : Fo, f.ok ∧ l = f.flat := (wellF_split l.length l 0 (Nat.le_refl _) h).1 rfl

/-! ### What belongs together -/

def mtT : Nat → Fo → List Int
  | _, .nil => []
  | o, .leaf _ r => -1 :: mtT (o + 1) r
  | o, .rep _ b _ r => ((o + b.size + 1 : Nat) : Int) :: (mtT (o + 1) b ++ (o : Int) :: mtT (o + b.size + 2) r)

theorem mtT_length (f : Fo) (o : Nat) : (mtT o f).length = f.size := by
  induction f generalizing o with
  | nil => rfl
  | leaf op r ih => simp [mtT, Fo.size, Fo.flat] at *; exact ih _
  | rep op b fin r ihb ihr =>
    have h1 := ihb (o + 1)
    have h2 := ihr (o + b.size + 2)
    simp [mtT, Fo.size, Fo.flat] at *
    omega

def stk (st : List Int) (i : Nat) (x : OpD) : List Int := if x.kind = 7 then st ++ [(i : Int)] else if x.kind = 0 then st.dropLast else st
def arnd (st : List Int) (x : OpD) : List Int := if x.kind = 0 then st.dropLast else st
def mstep (st : List Int) (out : List Int) (i : Nat) (x : OpD) : List Int :=
  if x.kind = 0 then ((out.set i (-1)).set i (st.getLast?.getD 0)).set (st.getLast?.getD 0).toNat i else out.set i (-1)

def stF : Nat → List Int → List OpD → List Int
  | _, st, [] => st
  | i, st, x :: r => stF (i + 1) (stk st i x) r
def mF : Nat → List Int → List Int → List OpD → List Int
  | _, _, out, [] => out
  | i, st, out, x :: r => mF (i + 1) (stk st i x) (mstep st out i x) r
theorem stF_append (i : Nat) (st : List Int) (a b : List OpD) : stF i st (a ++ b) = stF (i + a.length) (stF i st a) b := by
  induction a generalizing i st with
  | nil => rfl
  | cons x r ih => simp only [List.cons_append, stF, List.length_cons]; rw [ih]; congr 1; omega
theorem mF_append (i : Nat) (st out : List Int) (a b : List OpD) : mF i st out (a ++ b) = mF (i + a.length) (stF i st a) (mF i st out a) b := by
  induction a generalizing i st out with
  | nil => rfl
  | cons x r ih => simp only [List.cons_append, mF, stF, List.length_cons]; rw [ih]; congr 1; omega
theorem mF_length (i : Nat) (st out : List Int) (l : List OpD) : (mF i st out l).length = out.length := by
  induction l generalizing i st out with
  | nil => rfl
  | cons x r ih => rw [mF, ih]; unfold mstep; split <;> simp

theorem stF_flat (f : Fo) (hf : f.ok) (i : Nat) (st : List Int) : stF i st f.flat = st := by
  induction f generalizing i st with
  | nil => rfl
  | leaf op r ih =>
    obtain ⟨h1, h2, h3⟩ := hf
    show stF (i + 1) (stk st i op) r.flat = st
    rw [show stk st i op = st by unfold stk; rw [if_neg (by omega), if_neg (by omega)], ih h3]
  | rep op b fin r ihb ihr =>
    obtain ⟨h1, h2, h3, h4⟩ := hf
    show stF (i + 1) (stk st i op) (b.flat ++ fin :: r.flat) = st
    rw [show stk st i op = st ++ [(i : Int)] by unfold stk; rw [if_pos h1], stF_append, ihb h2, stF]
    rw [show stk (st ++ [(i : Int)]) (i + 1 + b.flat.length) fin = st by unfold stk; rw [if_neg (by omega), if_pos h3]; simp, ihr h4]

theorem set_mid (pre seg post : List Int) (v : Int) (n : Nat) (hn : n = pre.length) (x : Int) : (pre ++ x :: post).set n v = pre ++ v :: post := by
  subst hn
  simp

theorem mF_flat (f : Fo) (hf : f.ok) : ∀ (i : Nat) (st : List Int) (pre seg post : List Int), pre.length = i → seg.length = f.size → mF i st (pre ++ seg ++ post) f.flat = pre ++ mtT i f ++ post := by
  induction f with
  | nil =>
    intro i st pre seg post _ hs
    have : seg = [] := List.eq_nil_of_length_eq_zero (by simpa [Fo.size, Fo.flat] using hs)
    subst this
    rfl
  | leaf op r ih =>
    intro i st pre seg post hp hs
    obtain ⟨h1, h2, h3⟩ := hf
    cases seg with
    | nil => simp [Fo.size, Fo.flat] at hs
    | cons x s =>
      show mF (i + 1) (stk st i op) (mstep st (pre ++ x :: s ++ post) i op) r.flat = _
      have e1 : mstep st (pre ++ x :: s ++ post) i op = (pre ++ [-1]) ++ s ++ post := by
        unfold mstep
        rw [if_neg (by omega), List.append_assoc, List.cons_append, set_mid pre [] (s ++ post) (-1) i hp.symm]
        simp
      rw [e1, ih h3 (i + 1) _ (pre ++ [-1]) s post (by simp; omega) (by simp [Fo.size, Fo.flat] at hs ⊢; omega)]
      simp [mtT]
  | rep op b fin r ihb ihr =>
    intro i st pre seg post hp hs
    obtain ⟨h1, h2, h3, h4⟩ := hf
    have hs' : seg.length = b.size + r.size + 2 := by simp [Fo.size, Fo.flat] at hs ⊢; omega
    cases seg with
    | nil => simp at hs'
    | cons x s =>
      obtain ⟨s1, y, s2, rfl, hs1, hs2⟩ : ∃ s1 y s2, s = s1 ++ y :: s2 ∧ s1.length = b.size ∧ s2.length = r.size := by
        simp only [List.length_cons] at hs'
        have hlt : b.size < s.length := by omega
        refine ⟨s.take b.size, s[b.size], s.drop (b.size + 1), ?_, by simp; omega, by simp; omega⟩
        rw [← List.drop_eq_getElem_cons hlt, List.take_append_drop]
      show mF (i + 1) (stk st i op) (mstep st (pre ++ x :: (s1 ++ y :: s2) ++ post) i op) (b.flat ++ fin :: r.flat) = _
      have e1 : mstep st (pre ++ x :: (s1 ++ y :: s2) ++ post) i op = (pre ++ [-1]) ++ s1 ++ (y :: s2 ++ post) := by
        unfold mstep
        rw [if_neg (by omega), List.append_assoc, List.cons_append, set_mid pre [] _ (-1) i hp.symm]
        simp
      have e2 : stk st i op = st ++ [(i : Int)] := by unfold stk; rw [if_pos h1]
      rw [e1, e2, mF_append, ihb h2 (i + 1) _ (pre ++ [-1]) s1 (y :: s2 ++ post) (by simp; omega) hs1, stF_flat b h2, mF]
      have e3 : stk (st ++ [(i : Int)]) (i + 1 + b.flat.length) fin = st := by unfold stk; rw [if_neg (by omega), if_pos h3]; simp
      have hj : i + 1 + b.flat.length = (pre ++ -1 :: mtT (i + 1) b).length := by simp [mtT_length, Fo.size]; omega
      have e4 : mstep (st ++ [(i : Int)]) (pre ++ [-1] ++ mtT (i + 1) b ++ (y :: s2 ++ post)) (i + 1 + b.flat.length) fin = (pre ++ ((i + b.size + 1 : Nat) : Int) :: mtT (i + 1) b ++ [(i : Int)]) ++ s2 ++ post := by
        unfold mstep
        rw [if_pos h3]
        have a1 : pre ++ [-1] ++ mtT (i + 1) b ++ (y :: s2 ++ post) = (pre ++ -1 :: mtT (i + 1) b) ++ y :: (s2 ++ post) := by simp
        rw [a1, set_mid _ [] _ (-1) _ hj, set_mid _ [] _ _ _ hj]
        simp only [List.getLast?_append, List.getLast?_singleton, Option.getD_some, Option.some_or, Int.toNat_natCast]
        rw [List.append_assoc, List.cons_append, set_mid pre [] _ _ i hp.symm]
        simp [Fo.size]
        omega
      rw [e3, e4, ihr h4 _ _ _ s2 post (by simp [mtT_length, Fo.size]; omega) hs2]
      simp [mtT, Fo.size]
      congr 1
      omega

def matchL (l : List OpD) : List Int := mF 0 [] (List.replicate l.length 0) l
theorem matchL_flat (f : Fo) (hf : f.ok) : matchL f.flat = mtT 0 f := by
  have := mF_flat f hf 0 [] [] (List.replicate f.size 0) [] rfl (by simp)
  simpa [matchL, Fo.size] using this
end Go.Proofs.YtcamcnahkdiefaaGreat

/- Plain facts on operations that are nested in blocks, as the document's answers find them. No program is named here. -/
namespace Go.Proofs.YtcamcnahkdiefaaGreat
set_option linter.unusedVariables false
set_option linter.unusedSimpArgs false
open Go.RowKit

theorem Fo.size_rep (op : OpD) (b : Fo) (fin : OpD) (r : Fo) : (Fo.rep op b fin r).size = b.size + r.size + 2 := by simp [Fo.size, Fo.flat]; omega
theorem Fo.size_leaf (op : OpD) (r : Fo) : (Fo.leaf op r).size = r.size + 1 := by simp [Fo.size, Fo.flat]

theorem at_rep (f : Fo) (hf : f.ok) : ∀ (o j : Nat) (x : OpD), f.flat[j]? = some x → x.kind = 7 →
    ∃ (b : Fo) (fin : OpD) (pre rest : List OpD), b.ok ∧ fin.kind = 0 ∧ f.flat = pre ++ x :: (b.flat ++ fin :: rest) ∧ pre.length = j ∧ (mtT o f)[j]? = some ((o + j + b.size + 1 : Nat) : Int) := by
  induction f with
  | nil => intro o j x h; simp [Fo.flat] at h
  | leaf op r ih =>
    intro o j x h h7
    obtain ⟨h1, h2, h3⟩ := hf
    cases j with
    | zero => simp [Fo.flat] at h; subst h; omega
    | succ j =>
      obtain ⟨b, fin, pre, rest, g1, g2, g3, g4, g5⟩ := ih h3 (o + 1) j x (by simpa [Fo.flat] using h) h7
      exact ⟨b, fin, op :: pre, rest, g1, g2, by simp [Fo.flat, g3], by simp [g4], by simp [mtT, g5]; omega⟩
  | rep op b fin r ihb ihr =>
    intro o j x h h7
    obtain ⟨h1, h2, h3, h4⟩ := hf
    cases j with
    | zero =>
      simp [Fo.flat] at h
      subst h
      exact ⟨b, fin, [], r.flat, h2, h3, by simp [Fo.flat], rfl, by simp [mtT]⟩
    | succ j =>
      have h' : (b.flat ++ fin :: r.flat)[j]? = some x := by simpa [Fo.flat] using h
      have hml : (mtT (o + 1) b).length = b.flat.length := by rw [mtT_length]; rfl
      by_cases hj : j < b.flat.length
      · rw [List.getElem?_append_left hj] at h'
        obtain ⟨b', fin', pre, rest, g1, g2, g3, g4, g5⟩ := ihb h2 (o + 1) j x h' h7
        refine ⟨b', fin', op :: pre, rest ++ fin :: r.flat, g1, g2, by simp [Fo.flat, g3], by simp [g4], ?_⟩
        simp only [mtT, List.getElem?_cons_succ]
        rw [List.getElem?_append_left (by omega), g5]
        congr 2
        omega
      · rw [List.getElem?_append_right (by omega)] at h'
        obtain ⟨j', hj'⟩ : ∃ j', j - b.flat.length = j' := ⟨_, rfl⟩
        rw [hj'] at h'
        cases j' with
        | zero => simp at h'; subst h'; omega
        | succ j' =>
          obtain ⟨b', fin', pre, rest, g1, g2, g3, g4, g5⟩ := ihr h4 (o + b.size + 2) j' x (by simpa using h') h7
          refine ⟨b', fin', op :: (b.flat ++ fin :: pre), rest, g1, g2, by simp [Fo.flat, g3], by simp [g4]; omega, ?_⟩
          simp only [mtT, List.getElem?_cons_succ]
          rw [List.getElem?_append_right (by omega), hml, hj', List.getElem?_cons_succ, g5]
          congr 2
          simp only [Fo.size] at *
          omega

def hI : Int → List OpD → Int
  | n, [] => n
  | n, x :: r => hI (if x.kind = 7 then n + 1 else if x.kind = 0 then n - 1 else n) r
theorem hI_append (n : Int) (a b : List OpD) : hI n (a ++ b) = hI (hI n a) b := by
  induction a generalizing n with
  | nil => rfl
  | cons x r ih => exact ih _
theorem hI_flat (f : Fo) (hf : f.ok) (n : Int) : hI n f.flat = n := by
  induction f generalizing n with
  | nil => rfl
  | leaf op r ih =>
    obtain ⟨h1, h2, h3⟩ := hf
    show hI (if op.kind = 7 then n + 1 else if op.kind = 0 then n - 1 else n) r.flat = n
    rw [if_neg (by omega), if_neg (by omega), ih h3]
  | rep op b fin r ihb ihr =>
    obtain ⟨h1, h2, h3, h4⟩ := hf
    show hI (if op.kind = 7 then n + 1 else if op.kind = 0 then n - 1 else n) (b.flat ++ fin :: r.flat) = n
    rw [if_pos h1, hI_append, ihb h2]
    show hI (if fin.kind = 7 then n + 1 + 1 else if fin.kind = 0 then n + 1 - 1 else n + 1) r.flat = n
    rw [if_neg (by omega), if_pos h3, ihr h4]
    omega
theorem hI_ge (f : Fo) (hf : f.ok) : ∀ (n : Int) (j : Nat), n ≤ hI n (f.flat.take j) := by
  induction f with
  | nil => intro n j; simp [Fo.flat, hI]
  | leaf op r ih =>
    intro n j
    obtain ⟨h1, h2, h3⟩ := hf
    cases j with
    | zero => simp [hI]
    | succ j =>
      show n ≤ hI (if op.kind = 7 then n + 1 else if op.kind = 0 then n - 1 else n) (r.flat.take j)
      rw [if_neg (by omega), if_neg (by omega)]
      exact ih h3 n j
  | rep op b fin r ihb ihr =>
    intro n j
    obtain ⟨h1, h2, h3, h4⟩ := hf
    cases j with
    | zero => simp [hI]
    | succ j =>
      show n ≤ hI (if op.kind = 7 then n + 1 else if op.kind = 0 then n - 1 else n) ((b.flat ++ fin :: r.flat).take j)
      rw [if_pos h1, List.take_append, hI_append]
      by_cases hj : j ≤ b.flat.length
      · rw [show j - b.flat.length = 0 by omega]
        have := ihb h2 (n + 1) j
        simp [hI]
        omega
      · rw [List.take_of_length_le (by omega), hI_flat b h2]
        obtain ⟨j', hj'⟩ : ∃ j', j - b.flat.length = j' + 1 := ⟨j - b.flat.length - 1, by omega⟩
        rw [hj']
        show n ≤ hI (if fin.kind = 7 then n + 1 + 1 else if fin.kind = 0 then n + 1 - 1 else n + 1) (r.flat.take j')
        rw [if_neg (by omega), if_pos h3]
        have := ihr h4 (n + 1 - 1) j'
        omega

/-! ### What belongs together, as the document finds it -/
def rF : Nat → List Int → List OpD → List Int → List Int
  | i, out, x :: r, m :: ms => rF (i + 1) (if x.kind = 7 then (out.set i m).set m.toNat i else out) r ms
  | _, out, _, _ => out
theorem rF_append (i : Nat) (out : List Int) (a b : List OpD) (ma mb : List Int) (h : a.length = ma.length) : rF i out (a ++ b) (ma ++ mb) = rF (i + a.length) (rF i out a ma) b mb := by
  induction a generalizing i out ma with
  | nil => cases ma with
    | nil => simp [rF]
    | cons m ms => simp at h
  | cons x r ih => cases ma with
    | nil => simp at h
    | cons m ms =>
      simp only [List.cons_append, rF, List.length_cons]
      rw [ih _ _ _ (by simpa using h)]
      congr 1
      omega
theorem rF_length (i : Nat) (out : List Int) (a : List OpD) (ms : List Int) : (rF i out a ms).length = out.length := by
  induction a generalizing i out ms with
  | nil => simp [rF]
  | cons x r ih => cases ms with
    | nil => simp [rF]
    | cons m ms => rw [rF, ih]; split <;> simp
theorem rF_flat (f : Fo) (hf : f.ok) : ∀ (i : Nat) (pre post : List Int), pre.length = i → rF i (pre ++ List.replicate f.size (-1) ++ post) f.flat (mtT i f) = pre ++ mtT i f ++ post := by
  induction f with
  | nil => intro i pre post _; simp [Fo.size, Fo.flat, mtT, rF]
  | leaf op r ih =>
    intro i pre post hp
    obtain ⟨h1, h2, h3⟩ := hf
    rw [Fo.size_leaf, List.replicate_succ]
    show rF (i + 1) (if op.kind = 7 then _ else _) r.flat (mtT (i + 1) r) = _
    rw [if_neg (by omega)]
    have := ih h3 (i + 1) (pre ++ [-1]) post (by simp; omega)
    simpa [mtT] using this
  | rep op b fin r ihb ihr =>
    intro i pre post hp
    obtain ⟨h1, h2, h3, h4⟩ := hf
    have e0 : List.replicate (Fo.rep op b fin r).size (-1 : Int) = -1 :: (List.replicate b.size (-1) ++ -1 :: List.replicate r.size (-1)) := by
      rw [Fo.size_rep, show b.size + r.size + 2 = (b.size + (r.size + 1)) + 1 by omega, List.replicate_succ, ← List.replicate_append_replicate, List.replicate_succ]
    rw [e0]
    show rF (i + 1) (if op.kind = 7 then ((pre ++ -1 :: (List.replicate b.size (-1) ++ -1 :: List.replicate r.size (-1)) ++ post).set i ((i + b.size + 1 : Nat) : Int)).set ((i + b.size + 1 : Nat) : Int).toNat i else _) (b.flat ++ fin :: r.flat) (mtT (i + 1) b ++ (i : Int) :: mtT (i + b.size + 2) r) = _
    rw [if_pos h1, Int.toNat_natCast, List.append_assoc, List.cons_append, set_mid pre [] _ _ i hp.symm]
    have a1 : pre ++ ((i + b.size + 1 : Nat) : Int) :: (List.replicate b.size (-1) ++ -1 :: List.replicate r.size (-1) ++ post) = (pre ++ ((i + b.size + 1 : Nat) : Int) :: List.replicate b.size (-1)) ++ -1 :: (List.replicate r.size (-1) ++ post) := by simp
    rw [a1, set_mid _ [] _ _ (i + b.size + 1) (by simp; omega), rF_append _ _ _ _ _ _ (by rw [mtT_length]; rfl)]
    have a2 : (pre ++ ((i + b.size + 1 : Nat) : Int) :: List.replicate b.size (-1)) ++ (i : Int) :: (List.replicate r.size (-1) ++ post) = (pre ++ [((i + b.size + 1 : Nat) : Int)]) ++ List.replicate b.size (-1) ++ ((i : Int) :: (List.replicate r.size (-1) ++ post)) := by simp
    rw [a2, ihb h2 (i + 1) _ _ (by simp; omega)]
    show rF (i + 1 + b.flat.length + 1) (if fin.kind = 7 then _ else _) r.flat (mtT (i + b.size + 2) r) = _
    rw [if_neg (by omega)]
    have a3 : pre ++ [((i + b.size + 1 : Nat) : Int)] ++ mtT (i + 1) b ++ ((i : Int) :: (List.replicate r.size (-1) ++ post)) = (pre ++ ((i + b.size + 1 : Nat) : Int) :: mtT (i + 1) b ++ [(i : Int)]) ++ List.replicate r.size (-1) ++ post := by simp
    have a4 : i + 1 + b.flat.length + 1 = i + b.size + 2 := by simp only [Fo.size]; omega
    rw [a3, a4, ihr h4 (i + b.size + 2) _ post (by simp [mtT_length]; omega)]
    simp [mtT]

/-! ### The blocks around -/
/-! ### What stands in no block -/
end Go.Proofs.YtcamcnahkdiefaaGreat

/- Plain facts on operations: what a kind asks for, what an operation makes of numbers, how many writes a forest has, its sizes and rounds. No program is named here. -/
namespace Go.Proofs.YtcamcnahkdiefaaGreat
set_option linter.unusedVariables false
set_option linter.unusedSimpArgs false
open Go.RowKit

/-! ### What a kind asks for -/
def dOf (k : Int) : Bool := decide (1 ≤ k) && decide (k ≤ 6)
def aOf (k : Int) : Bool := (decide (1 ≤ k) && decide (k ≤ 4)) || decide (k = 6)
def bOf (k : Int) : Bool := decide (1 ≤ k) && decide (k ≤ 3)
def vOf (k : Int) : Bool := decide (k = 5) || decide (k = 7)
def regB (n : Int) (asked : Bool) : Bool := if asked then decide (0 ≤ n) && decide (n ≤ 2147483647) else decide (n = 0)
def rightB (x : OpD) : Bool := decide (0 ≤ x.kind) && decide (x.kind ≤ 7) && regB x.d (dOf x.kind) && regB x.a (aOf x.kind) && regB x.b (bOf x.kind) && (vOf x.kind || decide (x.v = 0))
def readsL (x : OpD) : List Int := if aOf x.kind then (if bOf x.kind then [x.a, x.b] else [x.a]) else []
def offB (regs : Int) (x : OpD) : Bool := (aOf x.kind && decide (regs ≤ x.a)) || (bOf x.kind && decide (regs ≤ x.b)) || (dOf x.kind && decide (regs ≤ x.d))
def applyU (x : OpD) (a b : UInt64) : UInt64 :=
  if x.kind = 1 then a + b else if x.kind = 2 then a - b else if x.kind = 3 then a * b else if x.kind = 4 then 0 - a else if x.kind = 5 then x.v else if x.kind = 6 then a else 0
def partU (x : OpD) (a b : UInt64) : UInt64 × UInt64 :=
  if x.kind = 1 then (1, 1) else if x.kind = 2 then (1, 0 - 1) else if x.kind = 3 then (b, a) else if x.kind = 4 then (0 - 1, 0) else if x.kind = 6 then (1, 0) else (0, 0)

theorem kind8 (k : Int) : k < 0 ∨ k = 0 ∨ k = 1 ∨ k = 2 ∨ k = 3 ∨ k = 4 ∨ k = 5 ∨ k = 6 ∨ k = 7 ∨ 7 < k := by omega
theorem dOf_true {k : Int} (h1 : 1 ≤ k) (h2 : k ≤ 6) : dOf k = true := by simp [dOf, h1, h2]
/-! ### Writes of a forest -/
namespace Fo
def wr : Fo → Nat
  | nil => 0
  | leaf _ r => wr r + 1
  | rep op b _ r => wr b * op.v.toNat + wr r
def may : Fo → Bool
  | nil => true
  | leaf _ r => may r
  | rep op b _ r => may b && decide (wr b ≤ 65536) && decide (wr b * op.v.toNat ≤ 65536) && may r
def sizes : Fo → List Int
  | nil => []
  | leaf _ r => 1 :: sizes r
  | rep op b _ r => ((wr b * op.v.toNat : Nat) : Int) :: (sizes b ++ 0 :: sizes r)
def rounds : Fo → List Int
  | nil => []
  | leaf _ r => 0 :: rounds r
  | rep op b _ r => (wr b : Int) :: (rounds b ++ 0 :: rounds r)
theorem sizes_length (f : Fo) : f.sizes.length = f.size := by
  induction f with
  | nil => rfl
  | leaf op r ih => simp [sizes, ih, size_leaf]
  | rep op b fin r ihb ihr => simp [sizes, ihb, ihr, size_rep]; omega
theorem rounds_length (f : Fo) : f.rounds.length = f.size := by
  induction f with
  | nil => rfl
  | leaf op r ih => simp [rounds, ih, size_leaf]
  | rep op b fin r ihb ihr => simp [rounds, ihb, ihr, size_rep]; omega
theorem wr_app (f g : Fo) : (f.app g).wr = f.wr + g.wr := by
  induction f with
  | nil => simp [app, wr]
  | leaf op r ih => simp [app, wr, ih]; omega
  | rep op b fin r _ ih => simp [app, wr, ih]; omega
theorem may_app (f g : Fo) : (f.app g).may = (f.may && g.may) := by
  induction f with
  | nil => simp [app, may]
  | leaf op r ih => simp [app, may, ih]
  | rep op b fin r _ ih => simp [app, may, ih, Bool.and_assoc]
end Fo

/-! ### How the program measures: the open blocks, sizes, rounds -/
structure Ms where
  st : List (Int × Int)
  sz : List Int
  rd : List Int
def addTop (st : List (Int × Int)) (n : Int) : List (Int × Int) := st.dropLast ++ [((st.getLast?.getD (0, 0)).1, (st.getLast?.getD (0, 0)).2 + n)]
def vAt (l : List OpD) (i : Int) : UInt64 := (l[i.toNat]?.map (·.v)).getD 0
def blkS (n : Int) (v : UInt64) : Option Int := if n ≤ 65536 ∧ n * (v.toNat : Int) ≤ 65536 then some (n * (v.toNat : Int)) else none
def msStep (l : List OpD) (i : Nat) (x : OpD) (s : Ms) : Option Ms :=
  if x.kind = 7 then some { s with st := s.st ++ [((i : Int), 0)] }
  else if x.kind = 0 then
    (blkS (s.st.getLast?.getD (0, 0)).2 (vAt l (s.st.getLast?.getD (0, 0)).1)).map fun n =>
      { st := addTop s.st.dropLast n, sz := s.sz.set (s.st.getLast?.getD (0, 0)).1.toNat n, rd := s.rd.set (s.st.getLast?.getD (0, 0)).1.toNat (s.st.getLast?.getD (0, 0)).2 }
  else some { s with st := addTop s.st 1, sz := s.sz.set i 1 }
def msF (l : List OpD) : Nat → Ms → List OpD → Option Ms
  | _, s, [] => some s
  | i, s, x :: r => (msStep l i x s).bind fun s' => msF l (i + 1) s' r
theorem msF_append (l : List OpD) (i : Nat) (s : Ms) (a b : List OpD) : msF l i s (a ++ b) = (msF l i s a).bind fun s' => msF l (i + a.length) s' b := by
  induction a generalizing i s with
  | nil => simp [msF]
  | cons x r ih =>
    simp only [List.cons_append, msF, List.length_cons]
    cases msStep l i x s with
    | none => rfl
    | some s' =>
      simp only [Option.bind_some]
      rw [ih]
      congr 2
      funext s''
      rw [show i + 1 + r.length = i + (r.length + 1) by omega]
theorem addTop_append (st : List (Int × Int)) (a n m : Int) : addTop (st ++ [(a, n)]) m = st ++ [(a, n + m)] := by simp [addTop]
theorem addTop_addTop (st : List (Int × Int)) (n m : Int) : addTop (addTop st n) m = addTop st (n + m) := by simp [addTop, Int.add_assoc]
theorem addTop_zero (st : List (Int × Int)) (h : st ≠ []) : addTop st 0 = st := by
  obtain ⟨r, x, rfl⟩ : ∃ r x, st = r ++ [x] := ⟨st.dropLast, st.getLast h, (List.dropLast_concat_getLast h).symm⟩
  simp [addTop]
theorem addTop_ne (st : List (Int × Int)) (n : Int) : addTop st n ≠ [] := by simp [addTop]
theorem vAt_mid (pre : List OpD) (x : OpD) (post : List OpD) (i : Nat) (h : i = pre.length) : vAt (pre ++ x :: post) (i : Int) = x.v := by subst h; simp [vAt]

theorem set_mid' (pre post : List Int) (n : Nat) (hn : n = pre.length) (x v : Int) : (pre ++ x :: post).set n v = pre ++ v :: post := by subst hn; simp

theorem msF_flat (f : Fo) (hf : f.ok) : ∀ (l preL postL : List OpD) (i : Nat) (st : List (Int × Int)) (sp sq rp rq : List Int), l = preL ++ f.flat ++ postL → preL.length = i → sp.length = i → rp.length = i → st ≠ [] →
    msF l i ⟨st, sp ++ List.replicate f.size 0 ++ sq, rp ++ List.replicate f.size 0 ++ rq⟩ f.flat = if f.may = true then some ⟨addTop st f.wr, sp ++ f.sizes ++ sq, rp ++ f.rounds ++ rq⟩ else none := by
  induction f with
  | nil =>
    intro l preL postL i st sp sq rp rq _ _ _ _ hst
    simp [Fo.flat, msF, Fo.may, Fo.wr, Fo.sizes, Fo.rounds, Fo.size, addTop_zero st hst]
  | leaf op r ih =>
    intro l preL postL i st sp sq rp rq hl hp hs hr hst
    obtain ⟨h1, h2, h3⟩ := hf
    rw [Fo.size_leaf, List.replicate_succ]
    show (msStep l i op _).bind (fun s' => msF l (i + 1) s' r.flat) = _
    unfold msStep
    rw [if_neg (by omega), if_neg (by omega)]
    simp only [Option.bind_some]
    rw [List.append_assoc, List.cons_append, set_mid' sp _ i hs.symm]
    have e1 : sp ++ 1 :: (List.replicate r.size 0 ++ sq) = (sp ++ [1]) ++ List.replicate r.size 0 ++ sq := by simp
    have e2 : rp ++ 0 :: List.replicate r.size 0 ++ rq = (rp ++ [0]) ++ List.replicate r.size 0 ++ rq := by simp
    rw [e1, e2, ih h3 l (preL ++ [op]) postL (i + 1) _ _ _ _ _ (by rw [hl]; simp [Fo.flat]) (by simp [hp]) (by simp [hs]) (by simp [hr]) (addTop_ne _ _), addTop_addTop]
    simp only [Fo.may, Fo.wr, Fo.sizes, Fo.rounds]
    by_cases hm : r.may = true
    · rw [if_pos hm, show ((1 : Int) + (r.wr : Int)) = ((r.wr + 1 : Nat) : Int) by omega]
      refine Eq.trans ?_ (if_pos hm).symm
      simp
    · rw [if_neg hm]
      exact (if_neg hm).symm
  | rep op b fin r ihb ihr =>
    intro l preL postL i st sp sq rp rq hl hp hs hr hst
    obtain ⟨h1, h2, h3, h4⟩ := hf
    have hsz : List.replicate (Fo.rep op b fin r).size (0 : Int) = 0 :: (List.replicate b.size 0 ++ 0 :: List.replicate r.size 0) := by
      rw [Fo.size_rep, show b.size + r.size + 2 = (b.size + (r.size + 1)) + 1 by omega, List.replicate_succ, ← List.replicate_append_replicate, List.replicate_succ]
    rw [hsz]
    show (msStep l i op _).bind (fun s' => msF l (i + 1) s' (b.flat ++ fin :: r.flat)) = _
    rw [show msStep l i op ⟨st, sp ++ 0 :: (List.replicate b.size 0 ++ 0 :: List.replicate r.size 0) ++ sq, rp ++ 0 :: (List.replicate b.size 0 ++ 0 :: List.replicate r.size 0) ++ rq⟩ = some ⟨st ++ [((i : Int), 0)], sp ++ 0 :: (List.replicate b.size 0 ++ 0 :: List.replicate r.size 0) ++ sq, rp ++ 0 :: (List.replicate b.size 0 ++ 0 :: List.replicate r.size 0) ++ rq⟩ by unfold msStep; rw [if_pos h1]]
    simp only [Option.bind_some]
    rw [msF_append]
    have e1 : sp ++ 0 :: (List.replicate b.size 0 ++ 0 :: List.replicate r.size 0) ++ sq = (sp ++ [0]) ++ List.replicate b.size 0 ++ (0 :: (List.replicate r.size 0 ++ sq)) := by simp
    have e2 : rp ++ 0 :: (List.replicate b.size 0 ++ 0 :: List.replicate r.size 0) ++ rq = (rp ++ [0]) ++ List.replicate b.size 0 ++ (0 :: (List.replicate r.size 0 ++ rq)) := by simp
    rw [e1, e2, ihb h2 l (preL ++ [op]) (fin :: r.flat ++ postL) (i + 1) _ _ _ _ _ (by rw [hl]; simp [Fo.flat]) (by simp [hp]) (by simp [hs]) (by simp [hr]) (by simp)]
    by_cases hm : b.may = true
    · rw [if_pos hm]
      simp only [Option.bind_some, msF]
      unfold msStep
      rw [if_neg (by omega), if_pos h3, addTop_append]
      simp only [List.getLast?_append, List.getLast?_singleton, Option.some_or, Option.getD_some, List.dropLast_concat, Int.toNat_natCast]
      have hv : vAt l (i : Int) = op.v := by rw [hl, List.append_assoc]; exact vAt_mid preL op _ i hp.symm
      rw [hv]
      unfold blkS
      rw [Int.zero_add]
      by_cases hc : b.wr ≤ 65536 ∧ b.wr * op.v.toNat ≤ 65536
      · have hc2 : ((b.wr : Int) ≤ 65536 ∧ (b.wr : Int) * (op.v.toNat : Int) ≤ 65536) := ⟨by omega, by have := hc.2; rw [← Int.natCast_mul]; omega⟩
        rw [if_pos hc2]
        simp only [Option.map_some, Option.bind_some]
        have g1 : sp ++ [0] ++ b.sizes ++ 0 :: (List.replicate r.size 0 ++ sq) = sp ++ 0 :: (b.sizes ++ 0 :: (List.replicate r.size 0 ++ sq)) := by simp
        have g2 : rp ++ [0] ++ b.rounds ++ 0 :: (List.replicate r.size 0 ++ rq) = rp ++ 0 :: (b.rounds ++ 0 :: (List.replicate r.size 0 ++ rq)) := by simp
        rw [g1, g2, set_mid' sp _ i hs.symm, set_mid' rp _ i hr.symm]
        have k1 : sp ++ (b.wr : Int) * (op.v.toNat : Int) :: (b.sizes ++ 0 :: (List.replicate r.size 0 ++ sq)) = (sp ++ (b.wr : Int) * (op.v.toNat : Int) :: (b.sizes ++ [0])) ++ List.replicate r.size 0 ++ sq := by simp
        have k2 : rp ++ (b.wr : Int) :: (b.rounds ++ 0 :: (List.replicate r.size 0 ++ rq)) = (rp ++ (b.wr : Int) :: (b.rounds ++ [0])) ++ List.replicate r.size 0 ++ rq := by simp
        have hbl : b.flat.length = b.size := rfl
        rw [k1, k2, ihr h4 l (preL ++ op :: (b.flat ++ [fin])) postL _ _ _ _ _ _ (by rw [hl]; simp [Fo.flat]) (by simp [hp]; omega) (by simp [hs, Fo.sizes_length]; omega) (by simp [hr, Fo.rounds_length]; omega) (addTop_ne _ _), addTop_addTop]
        simp only [Fo.may, Fo.wr, Fo.sizes, Fo.rounds, hm, hc.1, hc.2, decide_true, Bool.true_and]
        by_cases hm2 : r.may = true
        · rw [if_pos hm2, show ((b.wr : Int) * (op.v.toNat : Int) + (r.wr : Int)) = ((b.wr * op.v.toNat + r.wr : Nat) : Int) by simp]
          refine Eq.trans ?_ (if_pos hm2).symm
          simp
        · rw [if_neg hm2]
          exact (if_neg hm2).symm
      · have hc2 : ¬((b.wr : Int) ≤ 65536 ∧ (b.wr : Int) * (op.v.toNat : Int) ≤ 65536) := fun h => hc ⟨by omega, by have := h.2; rw [← Int.natCast_mul] at this; omega⟩
        rw [if_neg hc2]
        simp only [Option.map_none, Option.bind_none]
        rw [if_neg]
        simp only [Fo.may, Bool.and_eq_true, decide_eq_true_eq]
        exact fun h => hc ⟨h.1.1.2, h.1.2⟩
    · rw [if_neg hm]
      simp only [Option.bind_none]
      rw [if_neg]
      simp only [Fo.may, Bool.and_eq_true, decide_eq_true_eq]
      exact fun h => hm h.1.1.1

def measL (l : List OpD) : Option Ms := (msF l 0 ⟨[(0, 0)], List.replicate l.length 0, List.replicate l.length 0⟩ l).bind fun s => if (s.st.getLast?.getD (0, 0)).2 ≤ 65536 then some s else none
theorem measL_flat (f : Fo) (hf : f.ok) : measL f.flat = if f.may = true ∧ f.wr ≤ 65536 then some ⟨[(0, (f.wr : Int))], f.sizes, f.rounds⟩ else none := by
  have h := msF_flat f hf f.flat [] [] 0 [(0, 0)] [] [] [] [] (by simp) rfl rfl rfl (by simp)
  unfold measL
  simp only [List.nil_append, List.append_nil] at h
  rw [show f.flat.length = f.size from rfl, h]
  by_cases hm : f.may = true
  · rw [if_pos hm]
    by_cases hw : f.wr ≤ 65536
    · rw [if_pos ⟨hm, hw⟩]
      simp only [Option.bind_some]
      rw [if_pos (by simp [addTop]; omega)]
      simp [addTop]
    · rw [if_neg (fun h => hw h.2)]
      simp only [Option.bind_some]
      rw [if_neg (by simp [addTop]; omega)]
  · rw [if_neg hm, if_neg (fun h => hm h.1)]
    rfl

def MsBd (k N : Nat) (s : Ms) : Prop := (∀ x ∈ s.st, 0 ≤ x.1 ∧ x.1 ≤ (k : Int) ∧ 0 ≤ x.2 ∧ x.2 ≤ 65536 * (k : Int)) ∧ s.sz.length = N ∧ s.rd.length = N
theorem mem_last {α : Type} {st : List α} {d : α} (h : st ≠ []) : st.getLast?.getD d ∈ st := by
  obtain ⟨r, x, rfl⟩ : ∃ r x, st = r ++ [x] := ⟨st.dropLast, st.getLast h, (List.dropLast_concat_getLast h).symm⟩
  simp
theorem MsBd.addTop_ {k N : Nat} {st : List (Int × Int)} (h : ∀ x ∈ st, 0 ≤ x.1 ∧ x.1 ≤ (k : Int) ∧ 0 ≤ x.2 ∧ x.2 ≤ 65536 * (k : Int)) (n : Int) (h0 : 0 ≤ n) (h1 : n ≤ 65536) :
    ∀ x ∈ addTop st n, 0 ≤ x.1 ∧ x.1 ≤ ((k + 1 : Nat) : Int) ∧ 0 ≤ x.2 ∧ x.2 ≤ 65536 * ((k + 1 : Nat) : Int) := by
  intro x hx
  unfold addTop at hx
  rcases List.mem_append.1 hx with hx | hx
  · have := h x (List.dropLast_subset _ hx); omega
  · simp only [List.mem_singleton] at hx
    subst hx
    by_cases h0 : st = []
    · subst h0; simp; omega
    · have := h _ (mem_last (d := (0, 0)) h0); simp only; omega
theorem MsBd.step {k N : Nat} {l : List OpD} {s s' : Ms} {x : OpD} (h : MsBd k N s) (he : msStep l k x s = some s') : MsBd (k + 1) N s' := by
  unfold msStep at he
  by_cases h7 : x.kind = 7
  · rw [if_pos h7] at he
    injection he with he
    subst he
    refine ⟨fun y hy => ?_, h.2⟩
    rcases List.mem_append.1 hy with hy | hy
    · have := h.1 y hy; omega
    · simp at hy; subst hy; simp; omega
  · rw [if_neg h7] at he
    by_cases h0 : x.kind = 0
    · rw [if_pos h0] at he
      unfold blkS at he
      split at he
      · rename_i hc
        simp only [Option.map_some, Option.some.injEq] at he
        subst he
        refine ⟨MsBd.addTop_ (N := N) (fun y hy => h.1 y (List.dropLast_subset _ hy)) _ ?_ hc.2, by simp [h.2.1], by simp [h.2.2]⟩
        by_cases hs : s.st = []
        · simp [hs]
        · have := h.1 _ (mem_last (d := (0, 0)) hs)
          exact Int.mul_nonneg this.2.2.1 (by omega)
      · cases he
    · rw [if_neg h0] at he
      injection he with he
      subst he
      exact ⟨MsBd.addTop_ (N := N) h.1 1 (by omega) (by omega), by simp [h.2.1], by simp [h.2.2]⟩
end Go.Proofs.YtcamcnahkdiefaaGreat

/- Plain facts on flat code: what is left out of it, what it is unrolled, how a machine goes through it, from its first to its end. No program is named here. -/
namespace Go.Proofs.YtcamcnahkdiefaaGreat
set_option linter.unusedVariables false
set_option linter.unusedSimpArgs false
open Go.RowKit

namespace Fo
def bare : Fo → Fo
  | nil => nil
  | leaf op r => leaf op (bare r)
  | rep op b fin r => if wr b * op.v.toNat = 0 then bare r else rep op (bare b) fin (bare r)
def unroll : Fo → List OpD
  | nil => []
  | leaf op r => op :: unroll r
  | rep op b _ r => (List.replicate op.v.toNat (unroll b)).flatten ++ unroll r
def gone : Fo → List OpD
  | nil => []
  | leaf op r => op :: gone r
  | rep op b fin r => op :: ((List.replicate op.v.toNat (gone b ++ [fin])).flatten ++ gone r)
def code : Nat → Fo → List (OpD × Int)
  | _, nil => []
  | o, leaf op r => (op, 0) :: code (o + 1) r
  | o, rep op b fin r => (op, ((o + b.size + 2 : Nat) : Int)) :: (code (o + 1) b ++ (fin, ((o + 1 : Nat) : Int)) :: code (o + b.size + 2) r)
def full : Fo → Prop
  | nil => True
  | leaf _ r => full r
  | rep op b _ r => 1 ≤ op.v.toNat ∧ 1 ≤ wr b ∧ full b ∧ full r
def dp : Fo → Nat
  | nil => 0
  | leaf _ r => dp r
  | rep _ b _ r => max (dp b + 1) (dp r)

theorem code_length (f : Fo) (o : Nat) : (code o f).length = f.size := by
  induction f generalizing o with
  | nil => rfl
  | leaf op r ih => simp [code, ih, size_leaf]
  | rep op b fin r ihb ihr => simp [code, ihb, ihr, size_rep] <;> omega
theorem length_rep {α : Type} (n : Nat) (l : List α) : (List.replicate n l).flatten.length = l.length * n := by
  simp [Nat.mul_comm]
theorem unroll_length (f : Fo) : f.unroll.length = f.wr := by
  induction f with
  | nil => rfl
  | leaf op r ih => simp [unroll, wr, ih]
  | rep op b fin r ihb ihr => rw [unroll, List.length_append, length_rep, ihb, ihr]; rfl
theorem bare_wr (f : Fo) : f.bare.wr = f.wr := by
  induction f with
  | nil => rfl
  | leaf op r ih => simp [bare, wr, ih]
  | rep op b fin r ihb ihr =>
    unfold bare
    split
    · rename_i h; simp [wr, ihr, h]
    · simp [wr, ihb, ihr]
theorem bare_ok (f : Fo) (hf : f.ok) : f.bare.ok := by
  induction f with
  | nil => trivial
  | leaf op r ih => exact ⟨hf.1, hf.2.1, ih hf.2.2⟩
  | rep op b fin r ihb ihr =>
    unfold bare
    split
    · exact ihr hf.2.2.2
    · exact ⟨hf.1, ihb hf.2.1, hf.2.2.1, ihr hf.2.2.2⟩
theorem bare_full (f : Fo) : f.bare.full := by
  induction f with
  | nil => trivial
  | leaf op r ih => exact ih
  | rep op b fin r ihb ihr =>
    unfold bare
    split
    · exact ihr
    · rename_i h
      have h1 : wr b ≠ 0 := fun e => h (by rw [e]; simp)
      have h2 : op.v.toNat ≠ 0 := fun e => h (by rw [e]; simp)
      exact ⟨by omega, by rw [bare_wr]; omega, ihb, ihr⟩
theorem nil_of_wr (f : Fo) (h : f.wr = 0) : f.unroll = [] := List.eq_nil_of_length_eq_zero (by rw [unroll_length, h])
theorem bare_unroll (f : Fo) : f.bare.unroll = f.unroll := by
  induction f with
  | nil => rfl
  | leaf op r ih => simp [bare, unroll, ih]
  | rep op b fin r ihb ihr =>
    unfold bare
    split
    · rename_i h
      rw [unroll, ihr]
      rcases Nat.mul_eq_zero.1 h with h | h
      · rw [nil_of_wr b h]; simp
      · rw [h]; simp
    · simp [unroll, ihb, ihr]
theorem bare_size (f : Fo) : f.bare.size ≤ f.size := by
  induction f with
  | nil => exact Nat.le_refl _
  | leaf op r ih => simp only [bare, size_leaf]; omega
  | rep op b fin r ihb ihr =>
    unfold bare
    split
    · rw [size_rep]; omega
    · rw [size_rep, size_rep]; omega
theorem bare_mem (f : Fo) : ∀ x ∈ f.bare.flat, x ∈ f.flat := by
  induction f with
  | nil => exact fun x h => h
  | leaf op r ih =>
    intro x h
    simp only [bare, flat, List.mem_cons] at h ⊢
    exact h.imp id (ih x)
  | rep op b fin r ihb ihr =>
    intro x h
    unfold bare at h
    split at h
    · simp only [flat, List.mem_cons, List.mem_append]
      exact .inr (.inr (.inr (ihr x h)))
    · simp only [flat, List.mem_cons, List.mem_append] at h ⊢
      rcases h with h | h | h | h
      · exact .inl h
      · exact .inr (.inl (ihb x h))
      · exact .inr (.inr (.inl h))
      · exact .inr (.inr (.inr (ihr x h)))
theorem bare_dp (f : Fo) : f.bare.dp ≤ f.dp := by
  induction f with
  | nil => exact Nat.le_refl _
  | leaf op r ih => exact ih
  | rep op b fin r ihb ihr =>
    unfold bare
    split
    · simp only [dp]; omega
    · simp only [dp]; omega
theorem dp_app (f g : Fo) : (f.app g).dp = max f.dp g.dp := by
  induction f with
  | nil => simp [app, dp]
  | leaf op r ih => simp [app, dp, ih]
  | rep op b fin r _ ih => simp [app, dp, ih] <;> omega
theorem unroll_mem (f : Fo) (hf : f.ok) : ∀ x ∈ f.unroll, x ∈ f.flat ∧ 1 ≤ x.kind ∧ x.kind ≤ 6 := by
  induction f with
  | nil => exact fun x h => by cases h
  | leaf op r ih =>
    intro x h
    simp only [unroll, flat, List.mem_cons] at h ⊢
    rcases h with rfl | h
    · exact ⟨.inl rfl, hf.1, hf.2.1⟩
    · exact ⟨.inr (ih hf.2.2 x h).1, (ih hf.2.2 x h).2⟩
  | rep op b fin r ihb ihr =>
    intro x h
    simp only [unroll, flat, List.mem_cons, List.mem_append] at h ⊢
    rcases h with h | h
    · obtain ⟨l, hl, hx⟩ := List.mem_flatten.1 h
      have := List.eq_of_mem_replicate hl
      subst this
      exact ⟨.inr (.inl (ihb hf.2.1 x hx).1), (ihb hf.2.1 x hx).2⟩
    · exact ⟨.inr (.inr (.inr (ihr hf.2.2.2 x h).1)), (ihr hf.2.2.2 x h).2⟩
theorem gone_le (f : Fo) (hf : f.full) : ∀ D : Nat, f.dp ≤ D → f.gone.length ≤ f.wr * (1 + 2 * D) := by
  induction f with
  | nil => intro D _; simp [gone]
  | leaf op r ih =>
    intro D h
    have := ih hf D h
    simp only [wr, gone, List.length_cons, Nat.add_mul]
    omega
  | rep op b fin r ihb ihr =>
    intro D h
    obtain ⟨h1, h2, h3, h4⟩ := hf
    simp only [dp] at h
    have i1 := ihr h4 D (by omega)
    obtain ⟨E, rfl⟩ : ∃ E, D = E + 1 := ⟨D - 1, by omega⟩
    have i2 := ihb h3 E (by omega)
    simp only [wr, gone, List.length_cons, List.length_append]
    rw [length_rep, List.length_append]
    have e1 : ((gone b).length + [fin].length) * op.v.toNat ≤ (b.wr * (1 + 2 * E) + 1) * op.v.toNat := Nat.mul_le_mul_right _ (by simp <;> omega)
    have e2 : (b.wr * (1 + 2 * E) + 1) * op.v.toNat = b.wr * (1 + 2 * E) * op.v.toNat + op.v.toNat := by rw [Nat.add_mul, Nat.one_mul]
    have e3 : b.wr * (1 + 2 * E) * op.v.toNat = b.wr * op.v.toNat * (1 + 2 * E) := by rw [Nat.mul_right_comm]
    have e4 : op.v.toNat ≤ b.wr * op.v.toNat := Nat.le_mul_of_pos_left _ h2
    have e5 : (b.wr * op.v.toNat + r.wr) * (1 + 2 * (E + 1)) = b.wr * op.v.toNat * (1 + 2 * E) + 2 * (b.wr * op.v.toNat) + r.wr * (1 + 2 * (E + 1)) := by
      rw [Nat.add_mul]
      have : 1 + 2 * (E + 1) = (1 + 2 * E) + 2 := by omega
      rw [this, Nat.mul_add]
      omega
    rw [e5]
    omega
end Fo

/-! ### The machine that goes through code -/
structure Tk where
  at' : Nat
  st : List UInt64
  op : OpD
  to : Int
def Tk.next (x : Tk) : Nat × List UInt64 :=
  if x.op.kind = 7 then (x.at' + 1, x.st ++ [x.op.v])
  else if x.op.kind = 0 then (if 1 < (x.st.getLast?.getD 0).toNat then (x.to.toNat, x.st.dropLast ++ [x.st.getLast?.getD 0 - 1]) else (x.at' + 1, x.st.dropLast))
  else (x.at' + 1, x.st)
def Chn (c : List (OpD × Int)) : Nat × List UInt64 → List Tk → Nat × List UInt64 → Prop
  | s, [], e => s = e
  | s, x :: r, e => s = (x.at', x.st) ∧ c[x.at']? = some (x.op, x.to) ∧ Chn c x.next r e
theorem Chn.append {c : List (OpD × Int)} {s m e : Nat × List UInt64} {a b : List Tk} (h1 : Chn c s a m) (h2 : Chn c m b e) : Chn c s (a ++ b) e := by
  induction a generalizing s with
  | nil => obtain rfl : s = m := h1; exact h2
  | cons x r ih => exact ⟨h1.1, h1.2.1, ih h1.2.2⟩
def trR (b : List UInt64 → List Tk) (e : Nat) (fin : OpD) (to : Int) (st : List UInt64) : Nat → List Tk
  | 0 => []
  | k + 1 => b (st ++ [UInt64.ofNat (k + 1)]) ++ ⟨e, st ++ [UInt64.ofNat (k + 1)], fin, to⟩ :: trR b e fin to st k
def Fo.tr : Nat → Fo → List UInt64 → List Tk
  | _, .nil, _ => []
  | o, .leaf op r, st => ⟨o, st, op, 0⟩ :: tr (o + 1) r st
  | o, .rep op b fin r, st => ⟨o, st, op, ((o + b.size + 2 : Nat) : Int)⟩ :: (trR (tr (o + 1) b) (o + b.size + 1) fin ((o + 1 : Nat) : Int) st op.v.toNat ++ tr (o + b.size + 2) r st)
theorem ofNat_toNat' (v : UInt64) : UInt64.ofNat v.toNat = v := by
  cases v; simp
theorem toNat_ofNat' {k : Nat} (h : k < 18446744073709551616) : (UInt64.ofNat k).toNat = k := by
  rw [UInt64.toNat_ofNat']; exact Nat.mod_eq_of_lt h
theorem trR_chn {c : List (OpD × Int)} {b : List UInt64 → List Tk} {o e : Nat} {fin : OpD} {to : Int} {st : List UInt64} (h0 : fin.kind = 0) (hc : c[e]? = some (fin, to)) (hto : to = (o : Int))
    (hb : ∀ s, Chn c (o, s) (b s) (e, s)) : ∀ k : Nat, 1 ≤ k → k < 18446744073709551616 → Chn c (o, st ++ [UInt64.ofNat k]) (trR b e fin to st k) (e + 1, st) := by
  intro k
  induction k with
  | zero => intro h; omega
  | succ k ih =>
    intro _ hk
    unfold trR
    refine Chn.append (hb _) ⟨rfl, hc, ?_⟩
    have hl : (st ++ [UInt64.ofNat (k + 1)]).getLast?.getD 0 = UInt64.ofNat (k + 1) := by simp
    have hn : (UInt64.ofNat (k + 1)).toNat = k + 1 := toNat_ofNat' hk
    by_cases h1 : k = 0
    · subst h1
      show Tk.next _ = _
      unfold Tk.next
      rw [if_neg (by simp [h0]), if_pos h0]
      simp only [hl, hn]
      rw [if_neg (by omega)]
      simp
    · have : Tk.next ⟨e, st ++ [UInt64.ofNat (k + 1)], fin, to⟩ = (o, st ++ [UInt64.ofNat k]) := by
        unfold Tk.next
        rw [if_neg (by simp [h0]), if_pos h0]
        simp only [hl, hn]
        rw [if_pos (by omega), hto]
        have e2 : UInt64.ofNat (k + 1) - 1 = UInt64.ofNat k := by
          rw [show UInt64.ofNat (k + 1) = UInt64.ofNat k + 1 by simp [UInt64.ofNat_add]]
          simp
        rw [e2]
        simp
      rw [this]
      exact ih (by omega) (by omega)
theorem Fo.tr_chn (f : Fo) (hf : f.ok) (hv : f.full) : ∀ (c pre post : List (OpD × Int)) (o : Nat) (st : List UInt64), c = pre ++ f.code o ++ post → pre.length = o → Chn c (o, st) (f.tr o st) (o + f.size, st) := by
  induction f with
  | nil => intro c pre post o st _ _; show (o, st) = (o + 0, st); rfl
  | leaf op r ih =>
    intro c pre post o st hc hp
    obtain ⟨h1, h2, h3⟩ := hf
    refine ⟨rfl, ?_, ?_⟩
    · subst hp; rw [hc]; simp [code]
    · have : Tk.next ⟨o, st, op, 0⟩ = (o + 1, st) := by unfold Tk.next; rw [if_neg (by simp only; omega), if_neg (by simp only; omega)]
      rw [this, Fo.size_leaf, show o + (r.size + 1) = o + 1 + r.size by omega]
      exact ih h3 hv c (pre ++ [(op, 0)]) post (o + 1) st (by rw [hc]; simp [code]) (by simp [hp])
  | rep op b fin r ihb ihr =>
    intro c pre post o st hc hp
    obtain ⟨h1, h2, h3, h4⟩ := hf
    obtain ⟨v1, v2, v3, v4⟩ := hv
    refine ⟨rfl, ?_, ?_⟩
    · subst hp; rw [hc]; simp [code]
    · have hn : Tk.next ⟨o, st, op, ((o + b.size + 2 : Nat) : Int)⟩ = (o + 1, st ++ [UInt64.ofNat op.v.toNat]) := by unfold Tk.next; rw [if_pos h1, ofNat_toNat']
      rw [hn]
      have hce : c = (pre ++ (op, ((o + b.size + 2 : Nat) : Int)) :: b.code (o + 1)) ++ (fin, ((o + 1 : Nat) : Int)) :: (r.code (o + b.size + 2) ++ post) := by rw [hc]; simp [code]
      have hat : c[o + b.size + 1]? = some (fin, ((o + 1 : Nat) : Int)) := by
        rw [hce, List.getElem?_append_right (by simp [code_length] <;> omega)]
        simp only [List.length_append, List.length_cons, code_length]
        rw [show o + b.size + 1 - (pre.length + (b.size + 1)) = 0 by omega]
        rfl
      refine Chn.append (m := (o + b.size + 2, st)) ?_ ?_
      · refine trR_chn (o := o + 1) h3 hat rfl (fun s => ?_) op.v.toNat v1 op.v.toNat_lt
        have := ihb h2 v3 c (pre ++ [(op, ((o + b.size + 2 : Nat) : Int))]) ((fin, ((o + 1 : Nat) : Int)) :: (r.code (o + b.size + 2) ++ post)) (o + 1) s (by rw [hce]; simp) (by simp [hp])
        rwa [show o + 1 + b.size = o + b.size + 1 by omega] at this
      · rw [Fo.size_rep, show o + (b.size + r.size + 2) = o + b.size + 2 + r.size by omega]
        exact ihr h4 v4 c (pre ++ (op, ((o + b.size + 2 : Nat) : Int)) :: (b.code (o + 1) ++ [(fin, ((o + 1 : Nat) : Int))])) post (o + b.size + 2) st (by rw [hce]; simp) (by simp [code_length, hp] <;> omega)

theorem trR_ops {b : List UInt64 → List Tk} {g : List OpD} {e : Nat} {fin : OpD} {to : Int} {st : List UInt64} (h : ∀ s, (b s).map (·.op) = g) : ∀ k, (trR b e fin to st k).map (·.op) = (List.replicate k (g ++ [fin])).flatten := by
  intro k
  induction k with
  | zero => rfl
  | succ k ih => simp [trR, h, ih, List.replicate_succ]
theorem Fo.tr_ops (f : Fo) : ∀ (o : Nat) (st : List UInt64), (f.tr o st).map (·.op) = f.gone := by
  induction f with
  | nil => intro o st; rfl
  | leaf op r ih => intro o st; simp [tr, gone, ih]
  | rep op b fin r ihb ihr =>
    intro o st
    simp only [tr, gone, List.map_cons, List.map_append, ihr]
    rw [trR_ops (g := b.gone) (fun s => ihb _ s)]
def wrs (l : List OpD) : List OpD := l.filter (fun x => decide (x.kind ≠ 7) && decide (x.kind ≠ 0))
theorem wrs_append (a b : List OpD) : wrs (a ++ b) = wrs a ++ wrs b := List.filter_append ..
theorem wrs_rep (n : Nat) (l : List OpD) : wrs (List.replicate n l).flatten = (List.replicate n (wrs l)).flatten := by
  induction n with
  | zero => rfl
  | succ n ih => simp only [List.replicate_succ, List.flatten_cons, wrs_append, ih]
theorem Fo.gone_wrs (f : Fo) (hf : f.ok) : wrs f.gone = f.unroll := by
  induction f with
  | nil => rfl
  | leaf op r ih =>
    obtain ⟨h1, h2, h3⟩ := hf
    show wrs (op :: r.gone) = op :: r.unroll
    unfold wrs
    rw [List.filter_cons, if_pos (by simp <;> omega)]
    congr 1
    exact ih h3
  | rep op b fin r ihb ihr =>
    obtain ⟨h1, h2, h3, h4⟩ := hf
    have e1 : wrs [fin] = [] := by simp [wrs, h3]
    have e2 : wrs [op] = [] := by simp [wrs, h1]
    show wrs ([op] ++ ((List.replicate op.v.toNat (b.gone ++ [fin])).flatten ++ r.gone)) = _
    rw [wrs_append, wrs_append, wrs_rep, wrs_append, e1, e2, ihb h2, ihr h4]
    simp [unroll]
theorem trR_depth {b : List UInt64 → List Tk} {e : Nat} {fin : OpD} {to : Int} {st : List UInt64} {P : Tk → Prop} (hb : ∀ k : Nat, ∀ x ∈ b (st ++ [UInt64.ofNat (k + 1)]), P x) (he : ∀ k : Nat, P ⟨e, st ++ [UInt64.ofNat (k + 1)], fin, to⟩) : ∀ k, ∀ x ∈ trR b e fin to st k, P x := by
  intro k
  induction k with
  | zero => intro x hx; cases hx
  | succ k ih =>
    intro x hx
    unfold trR at hx
    rcases List.mem_append.1 hx with hx | hx
    · exact hb k x hx
    · rcases List.mem_cons.1 hx with rfl | hx
      · exact he k
      · exact ih x hx
def TkOk (n D : Nat) (ops : List OpD) (x : Tk) : Prop := x.at' < n ∧ x.st.length ≤ D ∧ (x.op.kind = 7 → x.st.length < D) ∧ (x.op.kind = 0 → x.st ≠ []) ∧ x.op ∈ ops ∧ 0 ≤ x.op.kind ∧ x.op.kind ≤ 7 ∧ 0 ≤ x.to ∧ x.to ≤ (n : Int)
theorem TkOk.mono {n m D : Nat} {a b : List OpD} {x : Tk} (h : TkOk n D a x) (hn : n ≤ m) (hs : ∀ y ∈ a, y ∈ b) : TkOk m D b x :=
  ⟨by have := h.1; omega, h.2.1, h.2.2.1, h.2.2.2.1, hs _ h.2.2.2.2.1, h.2.2.2.2.2.1, h.2.2.2.2.2.2.1, h.2.2.2.2.2.2.2.1, by have := h.2.2.2.2.2.2.2.2; omega⟩
theorem Fo.tr_tk (f : Fo) (hf : f.ok) : ∀ (o D : Nat) (st : List UInt64), st.length + f.dp ≤ D → ∀ x ∈ f.tr o st, TkOk (o + f.size) D f.flat x := by
  induction f with
  | nil => intro o D st _ x hx; cases hx
  | leaf op r ih =>
    intro o D st hD x hx
    obtain ⟨h1, h2, h3⟩ := hf
    rcases List.mem_cons.1 hx with rfl | hx
    · exact ⟨by rw [Fo.size_leaf]; simp <;> omega, by simp <;> omega, fun h => by simp at h; omega, fun h => by simp at h; omega, by simp [flat], by simp <;> omega, by simp <;> omega, by simp, by simp <;> omega⟩
    · exact (ih h3 (o + 1) D st hD x hx).mono (by rw [Fo.size_leaf]; omega) (fun y hy => by simp [flat, hy])
  | rep op b fin r ihb ihr =>
    intro o D st hD x hx
    obtain ⟨h1, h2, h3, h4⟩ := hf
    simp only [dp] at hD
    rcases List.mem_cons.1 hx with rfl | hx
    · exact ⟨by rw [Fo.size_rep]; simp <;> omega, by simp <;> omega, fun h => by simp <;> omega, fun h => by simp at h; omega, by simp [flat], by simp [h1], by simp [h1], by simp <;> omega, by rw [Fo.size_rep]; simp <;> omega⟩
    · rcases List.mem_append.1 hx with hx | hx
      · refine trR_depth (P := TkOk (o + (Fo.rep op b fin r).size) D (Fo.rep op b fin r).flat) (fun k y hy => ?_) (fun k => ?_) _ x hx
        · exact (ihb h2 (o + 1) D _ (by simp <;> omega) y hy).mono (by rw [Fo.size_rep]; omega) (fun y hy => by simp [flat, hy])
        · exact ⟨by rw [Fo.size_rep]; simp <;> omega, by simp <;> omega, fun h => by simp [h3] at h, fun h => by simp, by simp [flat], by simp [h3], by simp [h3], by simp <;> omega, by rw [Fo.size_rep]; simp <;> omega⟩
      · exact (ihr h4 (o + b.size + 2) D st (by omega) x hx).mono (by rw [Fo.size_rep]; omega) (fun y hy => by simp [flat, hy])
end Go.Proofs.YtcamcnahkdiefaaGreat

/- Plain facts on digits of words to the base 256. No program is named here. -/
namespace Go.Proofs.YtcamcnahkdiefaaGreat
set_option linter.unusedVariables false
set_option linter.unusedSimpArgs false
open Go.RowKit

end Go.Proofs.YtcamcnahkdiefaaGreat
