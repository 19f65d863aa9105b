/- Maps at a step of a region that draws its order; maps of the call's own. -/
import Derived.Deep.RegionHeld3
import Derived.Maps.RangeWalk
import Derived.Maps.OwnOps
import Derived.Maps.OwnSet
import Derived.Test.YtcamcnahkdiefaaQa
namespace Go.Proofs.Ytcamcnahkdiefaa
set_option linter.unusedVariables false
set_option linter.unusedSimpArgs false
open Go.RowKit Go.Maps
section
variable {H : Type} {P : Program} {ops : Array Oper} {o : Oper} {act : Act} {K : Act → World → Prop} {Q : Exit → Act → World → Prop} {E' : Prop}
theorem step_lookup {w : World} {m x : Operand} {t : TypeId} (hgd : o.guard = none) (hop : o.op = Op.lookup t m x false)
    {k e : TypeId} {q : IntKind} (L : Keyed P k) (ht : P.underlying t = some (.map k e)) (he : P.underlying e = some (.int q)) (hz : (zeroValue e).run P w = .ok (.int q 0) w) {b n : Nat} {D : DataW H}
    (hm : act.eval m = .map (some b)) (hown : w.ownsMap P k (plainElem P e) b n D) {key : Value} {kl : Lit} (hx : act.eval x = key) (hkey : keyOf P k key = some kl)
    (hK : ∀ c : Int, D.atKey kl (.lit (.int q 0)) = .lit (.int q c) → (Lit.int q c).wf = true → K (act.put o.dst (.int q c)) w) :
    if Region.wanted o (yielded ops act.tmps) = true then Oper.wp P o act w K Q else E' := by
  have hw : Region.wanted o (yielded ops act.tmps) = true := by simp [Region.wanted, hgd]
  rw [if_pos hw]
  obtain ⟨c, hrun, hat, hwc⟩ := hown.lookup_int L ht he hz hkey
  unfold Oper.wp
  simp [execOp, hop, hm, hx, hrun, Result.andThen]
  exact hK c hat hwc
theorem step_mapUpdate {w : World} {m x v : Operand} {t : TypeId} (hgd : o.guard = none) (hop : o.op = Op.mapUpdate t m x v)
    {k e : TypeId} (L : Keyed P k) (ht : P.underlying t = some (.map k e)) {R : Value → Option (DataW H × List MemPlace)} {b n : Nat} {D : DataW H}
    (hm : act.eval m = .map (some b)) (hown : w.ownsMap P k R b n D) (hn : n < maxLen) {key val : Value} {kl : Lit} (hx : act.eval x = key) (hv : act.eval v = val) (hkey : keyOf P k key = some kl)
    {d : DataW H} {ps : List MemPlace} (hval : R val = some (d, ps))
    (hK : ∀ w', w'.ownsMap P k R b (n + 1) (D.put kl d) → w.grownBy w' (some b) → K (act.put o.dst undef) w') :
    if Region.wanted o (yielded ops act.tmps) = true then Oper.wp P o act w K Q else E' := by
  have hw : Region.wanted o (yielded ops act.tmps) = true := by simp [Region.wanted, hgd]
  rw [if_pos hw]
  obtain ⟨w', hrun, r1, r2⟩ := hown.update L ht hn hkey hval
  unfold Oper.wp
  simp [execOp, hop, hm, hx, hv, hrun, Result.andThen]
  exact hK w' r1 r2
end
/-- A byte. -/
instance : Flat UInt8 := ⟨1, fun x => [.int .u8 (x.toNat : Int)], fun _ => rfl, fun x u hu => by simp at hu; subst hu; rfl, by decide⟩
end Go.Proofs.Ytcamcnahkdiefaa
