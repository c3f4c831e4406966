/- Rows of numbers at the head of a block of the call's own, as the library's functions leave them. Over any program. -/
import Derived.Test.YtkfbdhlfajdpgaaGreatDoorHIter
import Derived.Sort.Row
import Derived.Sort.Grow
import Derived.Shelf.GgSortFunc.SW
import Derived.Laws.AppendOwn
namespace Go.Proofs.YtkfbdhlfajdpgaaGreatDoor.HRowOps
set_option linter.unusedVariables false
set_option linter.unusedSimpArgs false
open Go Go.RowKit Go.Sort Go.Proofs.YtkfbdhlfajdpgaaGreatDoor.HIter

/-- Block g: cap cells of type e, of which the first are cs. -/
def Row (W : World) (e : TypeId) (g cap : Nat) (cs : List Value) : Prop :=
  ∃ cur, W.heap[g]? = some (.cells cur e (0, 0)) ∧ cur.size = cap ∧ cap ≤ maxLen ∧ cs.length ≤ cap ∧ cur.toList.take cs.length = cs
variable {α : Type} [Inhabited α] {enc : α → Value} {W : World} {e : TypeId} {g cap : Nat} {cs cs' r : List Value}

theorem Row.lt (h : Row W e g cap cs) : g < W.heap.size := by
  obtain ⟨cur, h1, _⟩ := h
  exact (Array.getElem?_eq_some_iff.1 h1).1
theorem Row.le (h : Row W e g cap cs) : cs.length ≤ cap := by obtain ⟨_, _, _, _, h, _⟩ := h; exact h
theorem Row.max (h : Row W e g cap cs) : cap ≤ maxLen := by obtain ⟨_, _, _, h, _⟩ := h; exact h
theorem Row.of_block {W' : World} (h : Row W e g cap cs) (hb : W'.heap[g]? = W.heap[g]?) : Row W' e g cap cs := by
  obtain ⟨cur, h1, h2⟩ := h
  exact ⟨cur, hb.trans h1, h2⟩
theorem Row.fr {W' : World} {D : Nat → Prop} (h : Row W e g cap cs) (hf : Fr D W W') (hn : ¬ D g) : Row W' e g cap cs := h.of_block (hf.block g h.lt hn)
theorem Row.cut (h : Row W e g cap (cs ++ r)) : Row W e g cap cs := by
  obtain ⟨cur, h1, h2, h3, h4, h5⟩ := h
  rw [List.length_append] at h4 h5
  refine ⟨cur, h1, h2, h3, by omega, ?_⟩
  have := congrArg (List.take cs.length) h5
  rw [List.take_take, Nat.min_eq_left (by omega)] at this
  simpa using this
theorem Row.cellAt (h : Row W e g cap cs) (j : Nat) {v : Value} (hj : cs[j]? = some v) : W.cell? ⟨g, j, none⟩ = some v := by
  obtain ⟨cur, h1, h2, h3, h4, h5⟩ := h
  have hl := (List.getElem?_eq_some_iff.1 hj).1
  have h6 : cur.toList[j]? = some v := by rw [← h5, List.getElem?_take, if_pos hl] at hj; exact hj
  simp [World.cell?, h1]
  simpa using h6
theorem Row.free (h : Row W e g cap cs) (j : Nat) : W.frozen? ⟨g, j, none⟩ = false := by
  obtain ⟨cur, h1, _⟩ := h
  simp [World.frozen?, h1]
theorem Row.holds {l : List α} (h : Row W e g cap (l.map enc)) : Holds enc W g 0 l.toArray := by
  intro j hj
  have hj' : j < l.length := by simpa using hj
  refine ⟨?_, h.free _⟩
  rw [Nat.zero_add]
  refine h.cellAt j ?_
  rw [List.getElem?_map, List.getElem?_eq_getElem hj', getElem!_pos l.toArray j hj]
  rfl
theorem Row.put {l l' : List α} (h : Row W e g cap (l.map enc)) (hl : l'.length = l.length) : Row (Go.Sort.putRow enc W g 0 l'.toArray) e g cap (l'.map enc) := by
  obtain ⟨cur, h1, h2, h3, h4, h5⟩ := h
  rw [List.length_map] at h4 h5
  refine ⟨putCells enc 0 l'.toArray cur, ?_, ?_, h3, by rw [List.length_map]; omega, ?_⟩
  · simp only [putRow, mapBlock, Array.getElem?_modify, if_pos, h1, Option.map_some, onCells]
  · simp [putCells, h2]
  · rw [List.length_map]
    apply List.ext_getElem?
    intro j
    rw [List.getElem?_take]
    split
    · rename_i hj
      have hjc : j < cur.size := by omega
      rw [Array.getElem?_toList, putCells, Array.getElem?_mapIdx, Array.getElem?_eq_getElem hjc, Option.map_some, if_pos ⟨by omega, by simp; omega⟩, List.getElem?_map, List.getElem?_eq_getElem hj, Nat.sub_zero, getElem!_pos l'.toArray j (by simpa using hj)]
      rfl
    · rename_i hj
      rw [List.getElem?_eq_none (by rw [List.length_map]; omega)]
theorem Row.ahead (h : Row W e g cap cs) (q : Nat) : Row (Go.Sort.ahead W q) e g cap cs := h
theorem Row.grow (h : Row W e g cap cs) (os : Array Obj) : Row (Go.Sort.grow W os) e g cap cs := h.of_block (heap_grow_old W os h.lt)
theorem Row.owns {base : Nat} (h : Row W e g cap cs) (hb : base ≤ g) : W.ownsRow base e 1 (.slice (some ⟨g, 0, none⟩) cs.length cap) cs.length cs := by
  obtain ⟨cur, h1, h2, h3, h4, h5⟩ := h
  exact ⟨by omega, .inr ⟨g, cap, cur, rfl, hb, h1, h4, h3, by omega, by rw [Nat.mul_one]; exact h5⟩⟩
theorem Row.of_owns {base n : Nat} {v : Value} (h : W.ownsRow base e 1 v n cs) (hv : v ≠ .slice none 0 0) : ∃ g cap, v = .slice (some ⟨g, 0, none⟩) cs.length cap ∧ base ≤ g ∧ Row W e g cap cs ∧ cs.length = n := by
  obtain ⟨h1, h2⟩ := h
  rcases h2 with ⟨h2, _⟩ | ⟨g, cap, cur, rfl, hb, hh, h3, h4, h5, h6⟩
  · exact absurd h2 hv
  · rw [Nat.mul_one] at h1 h5 h6
    subst h1
    exact ⟨g, cap, rfl, hb, ⟨cur, hh, h5, h4, h3, h6⟩, rfl⟩

theorem Fr.ahead (D : Nat → Prop) (W : World) (q : Nat) : Fr D W (Go.Sort.ahead W q) := ⟨rfl, rfl, rfl, Nat.le_refl _, fun _ _ _ => rfl⟩
theorem Fr.grow (D : Nat → Prop) (W : World) (os : Array Obj) : Fr D W (Go.Sort.grow W os) := ⟨rfl, rfl, rfl, by simp, fun k hk _ => heap_grow_old W os hk⟩
theorem Fr.putRow {D : Nat → Prop} (W : World) (blk off : Nat) (d : Array α) (hD : D blk) : Fr D W (Go.Sort.putRow enc W blk off d) :=
  ⟨rfl, rfl, rfl, by simp, fun k hk hn => by
    have : blk ≠ k := fun h => hn (h ▸ hD)
    simp only [Go.Sort.putRow, mapBlock, Array.getElem?_modify, if_neg this]⟩
theorem Fr.put (W : World) (g off q : Nat) (d : Array α) : Fr (fun k => k = g) W (Go.Sort.putRow enc (Go.Sort.ahead W q) g off d) :=
  Fr.trans (Fr.ahead (fun k => k = g) W q) (Fr.putRow (D := fun k => k = g) _ _ _ _ rfl) (fun k h => .inl h)
theorem Fr.puts (W : World) (g off q : Nat) (d : Array α) (os : Array Obj) : Fr (fun k => k = g) W (Go.Sort.grow (Go.Sort.putRow enc (Go.Sort.ahead W q) g off d) os) :=
  Fr.trans (Fr.put W g off q d) (Fr.grow (fun k => k = g) _ os) (fun k h => .inl h)
end Go.Proofs.YtkfbdhlfajdpgaaGreatDoor.HRowOps
