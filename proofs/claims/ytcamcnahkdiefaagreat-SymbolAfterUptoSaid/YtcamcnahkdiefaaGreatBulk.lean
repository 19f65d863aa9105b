/- What the bound on the arguments' bulk gives: how long a program's list of operations is. -/
import Derived.JoinedCond
import Derived.Test.YtcamcnahkdiefaaGreatQo
namespace Go.Proofs.YtcamcnahkdiefaaGreat
set_option linter.unusedVariables false
set_option linter.unusedSimpArgs false
open Go.ChangeShapes Go.WideShapes Go.ChangeAt Go.RowKit
section
variable {H : Type} {enc : TypeId × Value → H} {w : World} {base : Nat} {held : Bool}
theorem bulk_one (d : DataW H) : 1 ≤ Rows.uptoBulk d := by
  cases d with
  | lit l => cases l <;> simp [Rows.uptoBulk]
  | nil => simp [Rows.uptoBulk]
  | ptr d => simp [Rows.uptoBulk]
  | slice elems spare => simp [Rows.uptoBulk]
  | agg parts => simp [Rows.uptoBulk]
  | iface t d => simp [Rows.uptoBulk]
  | map entries => simp [Rows.uptoBulk]
  | held h => simp [Rows.uptoBulk]
theorem bulk_each {k : Nat} {l : List (DataW H)} (h : ∀ d ∈ l, k ≤ Rows.uptoBulk d) : k * l.length ≤ Rows.uptoBulkAll l := by
  induction l with
  | nil => simp
  | cons x r ih =>
    have h1 := h x (by simp)
    have h2 := ih (fun d hd => h d (by simp [hd]))
    simp only [Rows.uptoBulkAll, List.length_cons, Nat.mul_add]
    omega
theorem bulk_agg {t : TypeId} {fs : Array Field} {fuel : Nat} {cs : List Value} {x : DataW H × List MemPlace} (ht : Tryz.prog.underlying t = some (.struct fs)) (h0 : 0 < fs.size) (h : DataW.trod enc Tryz.prog w base (fun _ => true) held fuel t cs = some x) : 2 ≤ Rows.uptoBulk x.1 := by
  obtain ⟨xs, n, _, rfl, _, hl, _⟩ := DataW.trod_struct ht h
  have := bulk_each (k := 1) (l := xs.map (·.1)) (fun d _ => bulk_one d)
  simp only [Rows.uptoBulk]
  simp only [List.length_map] at this
  omega
theorem bulk_ops {fuel : Nat} {a : Option Addr} {n c : Nat} {x : DataW H × List MemPlace} (h : DataW.trod enc Tryz.prog w base (fun _ => true) held fuel 22 [.slice a n c] = some x) : 2 * n ≤ Rows.uptoBulk x.1 := by
  rcases Deep.open_slice Tryz.underlying22 h with ⟨e, _⟩ | ⟨a', len, cap, m, n', D, Pl, e, _, hl, hm, hmm, hx, hd⟩
  · simp at e
    obtain ⟨_, rfl, _⟩ := e
    omega
  · simp at e
    obtain ⟨_, rfl, _⟩ := e
    simp only [if_true] at hmm
    have := bulk_each (k := 2) (l := (List.range n).map D) (fun d hd' => by
      obtain ⟨r, hr, rfl⟩ := List.mem_map.1 hd'
      obtain ⟨cs', _, ht⟩ := hd r (by have := List.mem_range.1 hr; omega)
      exact bulk_agg Tryz.underlying89 (by decide) ht)
    simp only [List.length_map, List.length_range] at this
    rw [hx]
    simp only [Rows.uptoBulk]
    omega
theorem bulk_prog {fuel : Nat} {u0 : Value} {a : Option Addr} {n c : Nat} {cs : List Value} {x : DataW H × List MemPlace} (h : DataW.trod enc Tryz.prog w base (fun _ => true) held fuel 24 cs = some x) (e : cs = [u0, .slice a n c]) : 2 * n ≤ Rows.uptoBulk x.1 := by
  subst e
  obtain ⟨y0, y1, k, rfl, hl, h0, h1⟩ := trod_struct2 Tryz.underlying24 h
  have c1 : Tryz.prog.cellsOf 22 = 1 := by kernel_rfl
  simp only [c1] at h1
  have := bulk_ops (by simpa using h1)
  simp only [Rows.uptoBulk, Rows.uptoBulkAll]
  omega
end
end Go.Proofs.YtcamcnahkdiefaaGreat
