/- A row of 8192 marks, in plain words. -/
import Derived.Test.YtkfbdhlfajdpgaaGreatDoorHGrundy
import Derived.Test.YtkfbdhlfajdpgaaGreatDoorProg
import Derived.KernelRfl
namespace Go.Proofs.YtkfbdhlfajdpgaaGreatDoor.HSpec
set_option linter.unusedVariables false
set_option linter.unusedSimpArgs false
open Go

/-- A mark for each number of a list. -/
def mk (o : List Int) : Array Value := ((List.range 8192).map fun (i : Nat) => Value.bool (o.contains (i : Int))).toArray
set_option maxRecDepth 1000000 in
theorem mk_nil : Tryz.zeroCells84 = mk [] := by
  have h : Tryz.zeroCells84 = Array.replicate 8192 (.bool false) := by kernel_rfl
  rw [h]
  unfold mk
  have : (fun (i : Nat) => Value.bool (([] : List Int).contains (i : Int))) = fun _ => Value.bool false := by funext i; simp
  rw [this, List.map_const', List.length_range, List.toArray_replicate]
theorem mk_size (o : List Int) : (mk o).size = 8192 := by simp [mk]
theorem mk_get (o : List Int) (i : Nat) (h : i < 8192) : (mk o)[i]? = some (.bool (o.contains (i : Int))) := by
  simp [mk, h]
theorem mk_out (o : List Int) (i : Nat) (h : 8192 ≤ i) : (mk o)[i]? = none := Array.getElem?_eq_none (by rw [mk_size]; exact h)
theorem mk_set (o : List Int) (v : Nat) (h1 : v < 8192) : (mk o).setIfInBounds v (.bool true) = mk (o ++ [(v : Int)]) := by
  apply Array.ext_getElem?
  intro i
  rw [Array.getElem?_setIfInBounds, mk_size]
  rcases Nat.lt_or_ge i 8192 with hi | hi
  · rw [mk_get _ i hi, mk_get _ i hi]
    split
    · rename_i e
      subst e; simp
    · rename_i e
      have hne : ¬ ((i : Int) = (v : Int)) := by omega
      simp [hne]
  · rw [mk_out _ i hi, mk_out _ i hi]
    split
    · omega
    · rfl
end Go.Proofs.YtkfbdhlfajdpgaaGreatDoor.HSpec
