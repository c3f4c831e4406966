/- A region that draws its order, by an invariant over the set of operations that are done. Over any program. -/
import Derived.Test.YtkfbdhlfajdpgaaGreatDoorHDrawn
namespace Go.Proofs.YtkfbdhlfajdpgaaGreatDoor.HDrawn
set_option linter.unusedVariables false
open Go Go.Proofs.YtkfbdhlfajdpgaaGreatDoor.HIter
variable {F : Fence} {n : Nat} {P : Program} {ops : Array Oper} {md : Region.Mode}

/-- Whichever ready operation is drawn next, the invariant goes on; where none is ready, what is wanted holds. -/
theorem wpAnyIn_inv {Q' : Exit → Act → World → Prop} (I : Array Bool → Act → World → Prop)
    (hend : ∀ listed a w, Region.ready md ops listed = [] → I listed a w → Q' .normal a w)
    (hstep : ∀ listed a w, I listed a w → ∀ i ∈ Region.ready md ops listed, wpOpIn F n P ops Q' i (I (listed.setIfInBounds i true)) a w)
    (M : Array Bool → Nat) (hM : ∀ listed i, i ∈ Region.ready md ops listed → M (listed.setIfInBounds i true) < M listed) (hM0 : ∀ listed, M listed = 0 → Region.ready md ops listed = []) :
    ∀ (f : Nat) (listed : Array Bool) (a : Act) (w : World), M listed ≤ f → I listed a w → wpAnyIn F n P md ops Q' f listed a w
  | 0, listed, a, w, hf, h => ⟨hM0 _ (by omega), hend _ _ _ (hM0 _ (by omega)) h⟩
  | f + 1, listed, a, w, hf, h =>
    ⟨fun h0 => hend _ _ _ h0 h, fun i hi => wpOpIn_mono' (fun a' w' h' => wpAnyIn_inv I hend hstep M hM hM0 f _ a' w' (by have := hM listed i hi; omega) h') (hstep listed a w h i hi)⟩

/-- How many operations are still to do. -/
def todo (listed : Array Bool) : Nat := listed.toList.countP (fun b => !b)
theorem countP_set : ∀ (l : List Bool) (i : Nat), l[i]? = some false → (l.set i true).countP (fun b => !b) + 1 = l.countP (fun b => !b)
  | [], i, h => by simp at h
  | b :: l, 0, h => by
    obtain rfl : b = false := by simpa using h
    simp
  | b :: l, i + 1, h => by
    have := countP_set l i (by simpa using h)
    rw [List.set_cons_succ, List.countP_cons, List.countP_cons]
    omega
theorem todo_set {listed : Array Bool} {i : Nat} (h : listed[i]? = some false) : todo (listed.setIfInBounds i true) + 1 = todo listed := by
  unfold todo
  rw [Array.toList_setIfInBounds]
  exact countP_set _ _ (by rw [Array.getElem?_toList]; exact h)
theorem ready_false {listed : Array Bool} {i : Nat} (h : i ∈ Region.ready md ops listed) : listed[i]? = some false := by
  unfold Region.ready at h
  have h1 := (List.mem_filter.1 h).2
  simp only [Bool.and_eq_true, Bool.not_eq_true'] at h1
  have h2 := h1.1
  rw [Array.getD_eq_getD_getElem?] at h2
  cases hl : listed[i]? with
  | none => rw [hl] at h2; simp at h2
  | some b => rw [hl] at h2; simp at h2; rw [h2]

/-- THE LAW: a drawn region by an invariant over the done operations. 'hfull': where nothing is ready, all are done (a closed fact of the region: an acyclic order). -/
theorem wpIn_region_inv {id : Nat} {Q : Exit → Act → World → Prop} {a : Act} {w : World} (hm : P.follows .mixedOrders = true) (I : Array Bool → Act → World → Prop)
    (h0 : I (Array.replicate ops.size false) a { w with drawn := w.drawn + 1 })
    (hend : ∀ listed a w, Region.ready .any ops listed = [] → I listed a w → Q .normal a w)
    (hstep : ∀ listed a w, I listed a w → ∀ i ∈ Region.ready .any ops listed, wpOpIn F n P ops Q i (I (listed.setIfInBounds i true)) a w) :
    (Code.region id ops true).wpIn F n P Q a w := by
  refine wpIn_region_any hm (wpAnyIn_inv I hend hstep todo (fun listed i hi => by have := todo_set (ready_false hi); omega) (fun listed hz => ?_) _ _ _ _ ?_ h0)
  · refine List.eq_nil_iff_forall_not_mem.2 (fun i hi => ?_)
    have := todo_set (ready_false hi)
    omega
  · unfold todo
    refine Nat.le_trans List.countP_le_length ?_
    simp
end Go.Proofs.YtkfbdhlfajdpgaaGreatDoor.HDrawn
