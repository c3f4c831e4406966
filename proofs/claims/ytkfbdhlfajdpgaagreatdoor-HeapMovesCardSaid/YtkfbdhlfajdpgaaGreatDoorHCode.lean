/- Codes: what a string must be to be one, told by a test; list's contract. -/
import Derived.Test.YtkfbdhlfajdpgaaGreatDoorHList
namespace Go.Proofs.YtkfbdhlfajdpgaaGreatDoor.HCode
set_option linter.unusedVariables false
open Go Go.RowKit Go.Shelf Go.Proofs.YtkfbdhlfajdpgaaGreatDoor.HIter Go.Proofs.YtkfbdhlfajdpgaaGreatDoor.HSpec Go.Proofs.YtkfbdhlfajdpgaaGreatDoor.HValues Go.Proofs.YtkfbdhlfajdpgaaGreatDoor.HList

def digs (s : ByteArray) : List Int := (s.extract 2 s.size).data.toList.map fun b => (b.toNat : Int) - 48
def isCode (s : ByteArray) : Bool := decide (3 ≤ s.size) && decide (s.size ≤ 102) && (s.extract 2 s.size).data.toList.all (fun b => decide (48 ≤ b.toNat) && decide (b.toNat ≤ 55))

theorem digs_length (s : ByteArray) (h : 2 ≤ s.size) : (digs s).length + 2 = s.size := by
  unfold digs
  rw [List.length_map, Array.length_toList]
  show (s.extract 2 s.size).size + 2 = s.size
  rw [ByteArray.size_extract]; omega

theorem digs_at (s : ByteArray) (j : Nat) (h : j < (s.extract 2 s.size).size) : (digs s)[j]? = some ((((s.extract 2 s.size)[j]'h).toNat : Int) - 48) := by
  unfold digs
  rw [List.getElem?_map, Array.getElem?_toList, Array.getElem?_eq_getElem (by exact h)]
  rfl

theorem isCode_of {s : ByteArray} (h : isCode s = true) : IsCode s (digs s) := by
  unfold isCode at h
  simp only [Bool.and_eq_true, decide_eq_true_eq] at h
  obtain ⟨⟨h1, h2⟩, h3⟩ := h
  have hl := digs_length s (by omega)
  refine ⟨hl.symm, by omega, by omega, fun j hj => ?_, fun j => ?_⟩
  · rw [digs_at s j hj]
    simp only [Option.getD_some]
    omega
  · by_cases hj : j < (s.extract 2 s.size).size
    · rw [digs_at s j hj]
      have hm : (s.extract 2 s.size)[j]'hj ∈ (s.extract 2 s.size).data.toList := by
        show (s.extract 2 s.size).data[j]'hj ∈ _
        rw [Array.mem_toList_iff]
        exact Array.getElem_mem _
      have := List.all_eq_true.1 h3 _ hm
      simp only [Bool.and_eq_true, decide_eq_true_eq] at this
      simp only [Option.getD_some]
      omega
    · have : (digs s)[j]? = none := by
        rw [List.getElem?_eq_none]
        rw [ByteArray.size_extract] at hj
        omega
      rw [this]
      simp

theorem list_any (s : ByteArray) (n : Int) (h : isCode s = true) (h0 : 0 ≤ n) (h1 : n ≤ 3000) (w : World) :
    Calls Tryz.prog 12 #[.string s, .int .i64 n] w fun e w' => ∃ v, e = .returned v ∧ w'.ownsRow w.heap.size 3 1 v (n.toNat + 1) ((vals (digs s) n.toNat).map (Value.int .i64)) ∧ Below w.heap.size w w' := by
  have hn : n = (n.toNat : Int) := by omega
  have := callsIn_wide.1 (list_in Fence.wide 5 Wide.wide (fun _ => trivial) rfl rfl s (digs s) n.toNat (by omega) (isCode_of h) w)
  rw [← hn] at this
  exact this
end Go.Proofs.YtkfbdhlfajdpgaaGreatDoor.HCode
