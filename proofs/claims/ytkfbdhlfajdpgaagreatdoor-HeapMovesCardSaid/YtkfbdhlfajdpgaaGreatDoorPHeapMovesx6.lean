-- printed by wip/pp.py (my patched run of the kit's printer)
import Derived.Test.YtkfbdhlfajdpgaaGreatDoorPHeapMovesx0
namespace Go.Proofs.YtkfbdhlfajdpgaaGreatDoor.PHeapMoves
open Go.RowKit Go.Proofs.YtkfbdhlfajdpgaaGreatDoorW.PrintWords Go.Proofs.YtkfbdhlfajdpgaaGreatDoorW.PrintLast Go.Proofs.YtkfbdhlfajdpgaaGreatDoorW.PrintMore
attribute [local go_sem] max2_int min2_int max_two min_two max_three min_three max_four min_four   -- for this text's walks alone
set_option linter.unusedVariables false
set_option linter.unusedSimpArgs false

/-! ### staddaref06_Moves: function 6 -/
mutual
def staddaref06_Moves.l0 : Nat → ByteArray → List Int → Int → Int → Option ((List (List Int)))
  | 0, _, _, _, _ => none
  | k + 1, x0, x1, x5, x6 => if x6 < (x1.length : Int) then (if 0 ≤ x6 then (staddaref06_Moves.l0 k x0 x1 (mx x5 (rd x1 x6)) (wrap64 (x6 + 1))) else (none)) else ((staddaref06_Values.f k x0 x5).bind fun t183 => (staddaref06_Moves.l1 k x0 x1 t183 ([] : List (List Int)) 0))
def staddaref06_Moves.l1 : Nat → ByteArray → List Int → List Int → List (List Int) → Int → Option ((List (List Int)))
  | 0, _, _, _, _, _ => none
  | k + 1, x0, x1, x7, x8, x9 => if x9 < (x1.length : Int) then (if 0 ≤ x9 then ((staddaref06_after.f k x0 (rd x1 x9)).bind fun t187 => (staddaref06_Moves.l2 k x0 x1 x7 x8 x9 t187 0)) else (none)) else (some x8)
def staddaref06_Moves.l2 : Nat → ByteArray → List Int → List Int → List (List Int) → Int → List (List Int) → Int → Option ((List (List Int)))
  | 0, _, _, _, _, _, _, _ => none
  | k + 1, x0, x1, x7, x8, x9, x10, x11 => if x11 < (x10.length : Int) then (staddaref06_Moves.l3 k x0 x1 x7 x8 x9 x10 x11 ([] : List Int) 0) else (staddaref06_Moves.l1 k x0 x1 x7 x8 (wrap64 (x9 + 1)))
def staddaref06_Moves.l3 : Nat → ByteArray → List Int → List Int → List (List Int) → Int → List (List Int) → Int → List Int → Int → Option ((List (List Int)))
  | 0, _, _, _, _, _, _, _, _, _ => none
  | k + 1, x0, x1, x7, x8, x9, x10, x11, x12, x13 => if x13 < (x1.length : Int) then (if x13 = x9 then (staddaref06_Moves.l3 k x0 x1 x7 x8 x9 x10 x11 x12 (wrap64 (x13 + 1))) else (if 0 ≤ x13 then ((staddaref06_put.f k x12 (rd x1 x13)).bind fun t191 => (staddaref06_Moves.l3 k x0 x1 x7 x8 x9 x10 x11 t191 (wrap64 (x13 + 1)))) else (none))) else (staddaref06_Moves.l4 k x0 x1 x7 x8 x9 x10 x11 x12 0)
def staddaref06_Moves.l4 : Nat → ByteArray → List Int → List Int → List (List Int) → Int → List (List Int) → Int → List Int → Int → Option ((List (List Int)))
  | 0, _, _, _, _, _, _, _, _, _ => none
  | k + 1, x0, x1, x7, x8, x9, x10, x11, x12, x14 => if 0 ≤ x11 then (if x11 < (x10.length : Int) then (if x14 < ((rd_L2 x10 x11).length : Int) then (if 0 ≤ x14 then ((staddaref06_put.f k x12 (rd (rd_L2 x10 x11) x14)).bind fun t197 => (staddaref06_Moves.l4 k x0 x1 x7 x8 x9 x10 x11 t197 (wrap64 (x14 + 1)))) else (none)) else (staddaref06_Moves.l5 k x0 x1 x7 x8 x9 x10 x11 x12 0 0)) else (none)) else (none)
def staddaref06_Moves.l5 : Nat → ByteArray → List Int → List Int → List (List Int) → Int → List (List Int) → Int → List Int → Int → Int → Option ((List (List Int)))
  | 0, _, _, _, _, _, _, _, _, _, _ => none
  | k + 1, x0, x1, x7, x8, x9, x10, x11, x12, x15, x16 => if x16 < (x12.length : Int) then (if 0 ≤ x16 then (if 0 ≤ (rd x12 x16) then (if (rd x12 x16) < (x7.length : Int) then (staddaref06_Moves.l5 k x0 x1 x7 x8 x9 x10 x11 x12 (Go.bits .xor .i64 x15 (rd x7 (rd x12 x16))) (wrap64 (x16 + 1))) else (none)) else (none)) else (none)) else (staddaref06_Moves.l6 k x0 x1 x7 x8 x9 x10 x11 x12 x15 0)
def staddaref06_Moves.l6 : Nat → ByteArray → List Int → List Int → List (List Int) → Int → List (List Int) → Int → List Int → Int → Int → Option ((List (List Int)))
  | 0, _, _, _, _, _, _, _, _, _, _ => none
  | k + 1, x0, x1, x7, x8, x9, x10, x11, x12, x15, x17 => if x17 < (x8.length : Int) then (if 0 ≤ x17 then ((staddaref06_before.f k (rd_L2 x8 x17) x12).bind fun t203 => (if t203 = true then (staddaref06_Moves.l6 k x0 x1 x7 x8 x9 x10 x11 x12 x15 (wrap64 (x17 + 1))) else (if x15 = 0 then ((staddaref06_before.f k x12 (rd_L2 x8 x17)).bind fun t205 => (if t205 = true then (if x17 ≤ (x8.length : Int) then ((some (x8.take (x17 : Int).toNat : List (List Int))).bind fun y206 => (if ([] : List (List Int)).length + y206.length < 5864062014805 then ((some (([] : List (List Int)) ++ y206 : List (List Int))).bind fun y211 => (if y211.length < 5864062014805 then ((some (y211 ++ [x12] : List (List Int))).bind fun y214 => ((some (x8.drop (x17 : Int).toNat : List (List Int))).bind fun y217 => (if y214.length + y217.length < 5864062014805 then (staddaref06_Moves.l2 k x0 x1 x7 (y214 ++ y217) x9 x10 (wrap64 (x11 + 1))) else (none)))) else (none))) else (none))) else (none)) else (staddaref06_Moves.l2 k x0 x1 x7 x8 x9 x10 (wrap64 (x11 + 1))))) else (staddaref06_Moves.l2 k x0 x1 x7 x8 x9 x10 (wrap64 (x11 + 1)))))) else (none)) else (if x15 = 0 then (if 0 ≤ x17 then (if x17 ≤ (x8.length : Int) then ((some (x8.take (x17 : Int).toNat : List (List Int))).bind fun y225 => (if ([] : List (List Int)).length + y225.length < 5864062014805 then ((some (([] : List (List Int)) ++ y225 : List (List Int))).bind fun y230 => (if y230.length < 5864062014805 then ((some (y230 ++ [x12] : List (List Int))).bind fun y233 => ((some (x8.drop (x17 : Int).toNat : List (List Int))).bind fun y236 => (if y233.length + y236.length < 5864062014805 then (staddaref06_Moves.l2 k x0 x1 x7 (y233 ++ y236) x9 x10 (wrap64 (x11 + 1))) else (none)))) else (none))) else (none))) else (none)) else (none)) else (staddaref06_Moves.l2 k x0 x1 x7 x8 x9 x10 (wrap64 (x11 + 1))))
end
def staddaref06_Moves.f (k : Nat) (a0 : ByteArray) (l1 : List Int) : Option ((List (List Int))) := staddaref06_Moves.l0 k a0 l1 0 0
theorem staddaref06_Moves.mono_l : ∀ k, (∀ y0 y1 y2 y3, LeO (staddaref06_Moves.l0 k y0 y1 y2 y3) (staddaref06_Moves.l0 (k + 1) y0 y1 y2 y3)) ∧ (∀ y0 y1 y2 y3 y4, LeO (staddaref06_Moves.l1 k y0 y1 y2 y3 y4) (staddaref06_Moves.l1 (k + 1) y0 y1 y2 y3 y4)) ∧ (∀ y0 y1 y2 y3 y4 y5 y6, LeO (staddaref06_Moves.l2 k y0 y1 y2 y3 y4 y5 y6) (staddaref06_Moves.l2 (k + 1) y0 y1 y2 y3 y4 y5 y6)) ∧ (∀ y0 y1 y2 y3 y4 y5 y6 y7 y8, LeO (staddaref06_Moves.l3 k y0 y1 y2 y3 y4 y5 y6 y7 y8) (staddaref06_Moves.l3 (k + 1) y0 y1 y2 y3 y4 y5 y6 y7 y8)) ∧ (∀ y0 y1 y2 y3 y4 y5 y6 y7 y8, LeO (staddaref06_Moves.l4 k y0 y1 y2 y3 y4 y5 y6 y7 y8) (staddaref06_Moves.l4 (k + 1) y0 y1 y2 y3 y4 y5 y6 y7 y8)) ∧ (∀ y0 y1 y2 y3 y4 y5 y6 y7 y8 y9, LeO (staddaref06_Moves.l5 k y0 y1 y2 y3 y4 y5 y6 y7 y8 y9) (staddaref06_Moves.l5 (k + 1) y0 y1 y2 y3 y4 y5 y6 y7 y8 y9)) ∧ (∀ y0 y1 y2 y3 y4 y5 y6 y7 y8 y9, LeO (staddaref06_Moves.l6 k y0 y1 y2 y3 y4 y5 y6 y7 y8 y9) (staddaref06_Moves.l6 (k + 1) y0 y1 y2 y3 y4 y5 y6 y7 y8 y9))
  | 0 => ⟨fun _ _ _ _ r h => by simp [staddaref06_Moves.l0] at h, fun _ _ _ _ _ r h => by simp [staddaref06_Moves.l1] at h, fun _ _ _ _ _ _ _ r h => by simp [staddaref06_Moves.l2] at h, fun _ _ _ _ _ _ _ _ _ r h => by simp [staddaref06_Moves.l3] at h, fun _ _ _ _ _ _ _ _ _ r h => by simp [staddaref06_Moves.l4] at h, fun _ _ _ _ _ _ _ _ _ _ r h => by simp [staddaref06_Moves.l5] at h, fun _ _ _ _ _ _ _ _ _ _ r h => by simp [staddaref06_Moves.l6] at h⟩
  | k + 1 => by
    obtain ⟨ih0, ih1, ih2, ih3, ih4, ih5, ih6⟩ := staddaref06_Moves.mono_l k
    refine ⟨?_, ?_, ?_, ?_, ?_, ?_, ?_⟩
    · intro y0 y1 y2 y3
      unfold staddaref06_Moves.l0
      repeat' first
      | (with_reducible exact ih0 _ _ _ _)
      | (with_reducible exact ih1 _ _ _ _ _)
      | (with_reducible exact ih2 _ _ _ _ _ _ _)
      | (with_reducible exact ih3 _ _ _ _ _ _ _ _ _)
      | (with_reducible exact ih4 _ _ _ _ _ _ _ _ _)
      | (with_reducible exact ih5 _ _ _ _ _ _ _ _ _ _)
      | (with_reducible exact ih6 _ _ _ _ _ _ _ _ _ _)
      | (with_reducible exact staddaref06_Values.mono _ _ _)
      | (with_reducible exact staddaref06_after.mono _ _ _)
      | (with_reducible exact staddaref06_before.mono _ _ _)
      | (with_reducible exact staddaref06_put.mono _ _ _)
      | (with_reducible exact LeO.refl _)
      | (with_reducible exact LeO.none _)
      | (with_reducible refine LeO.ite ?_ ?_)
      | (with_reducible refine LeO.bind ?_ (fun _ => ?_))
      | exact ih0 _ _ _ _
      | exact ih1 _ _ _ _ _
      | exact ih2 _ _ _ _ _ _ _
      | exact ih3 _ _ _ _ _ _ _ _ _
      | exact ih4 _ _ _ _ _ _ _ _ _
      | exact ih5 _ _ _ _ _ _ _ _ _ _
      | exact ih6 _ _ _ _ _ _ _ _ _ _
      | exact staddaref06_Values.mono _ _ _
      | exact staddaref06_after.mono _ _ _
      | exact staddaref06_before.mono _ _ _
      | exact staddaref06_put.mono _ _ _
      | exact LeO.none _
      | refine LeO.ite ?_ ?_
      | refine LeO.bind ?_ (fun _ => ?_)
    · intro y0 y1 y2 y3 y4
      unfold staddaref06_Moves.l1
      repeat' first
      | (with_reducible exact ih0 _ _ _ _)
      | (with_reducible exact ih1 _ _ _ _ _)
      | (with_reducible exact ih2 _ _ _ _ _ _ _)
      | (with_reducible exact ih3 _ _ _ _ _ _ _ _ _)
      | (with_reducible exact ih4 _ _ _ _ _ _ _ _ _)
      | (with_reducible exact ih5 _ _ _ _ _ _ _ _ _ _)
      | (with_reducible exact ih6 _ _ _ _ _ _ _ _ _ _)
      | (with_reducible exact staddaref06_Values.mono _ _ _)
      | (with_reducible exact staddaref06_after.mono _ _ _)
      | (with_reducible exact staddaref06_before.mono _ _ _)
      | (with_reducible exact staddaref06_put.mono _ _ _)
      | (with_reducible exact LeO.refl _)
      | (with_reducible exact LeO.none _)
      | (with_reducible refine LeO.ite ?_ ?_)
      | (with_reducible refine LeO.bind ?_ (fun _ => ?_))
      | exact ih0 _ _ _ _
      | exact ih1 _ _ _ _ _
      | exact ih2 _ _ _ _ _ _ _
      | exact ih3 _ _ _ _ _ _ _ _ _
      | exact ih4 _ _ _ _ _ _ _ _ _
      | exact ih5 _ _ _ _ _ _ _ _ _ _
      | exact ih6 _ _ _ _ _ _ _ _ _ _
      | exact staddaref06_Values.mono _ _ _
      | exact staddaref06_after.mono _ _ _
      | exact staddaref06_before.mono _ _ _
      | exact staddaref06_put.mono _ _ _
      | exact LeO.none _
      | refine LeO.ite ?_ ?_
      | refine LeO.bind ?_ (fun _ => ?_)
    · intro y0 y1 y2 y3 y4 y5 y6
      unfold staddaref06_Moves.l2
      repeat' first
      | (with_reducible exact ih0 _ _ _ _)
      | (with_reducible exact ih1 _ _ _ _ _)
      | (with_reducible exact ih2 _ _ _ _ _ _ _)
      | (with_reducible exact ih3 _ _ _ _ _ _ _ _ _)
      | (with_reducible exact ih4 _ _ _ _ _ _ _ _ _)
      | (with_reducible exact ih5 _ _ _ _ _ _ _ _ _ _)
      | (with_reducible exact ih6 _ _ _ _ _ _ _ _ _ _)
      | (with_reducible exact staddaref06_Values.mono _ _ _)
      | (with_reducible exact staddaref06_after.mono _ _ _)
      | (with_reducible exact staddaref06_before.mono _ _ _)
      | (with_reducible exact staddaref06_put.mono _ _ _)
      | (with_reducible exact LeO.refl _)
      | (with_reducible exact LeO.none _)
      | (with_reducible refine LeO.ite ?_ ?_)
      | (with_reducible refine LeO.bind ?_ (fun _ => ?_))
      | exact ih0 _ _ _ _
      | exact ih1 _ _ _ _ _
      | exact ih2 _ _ _ _ _ _ _
      | exact ih3 _ _ _ _ _ _ _ _ _
      | exact ih4 _ _ _ _ _ _ _ _ _
      | exact ih5 _ _ _ _ _ _ _ _ _ _
      | exact ih6 _ _ _ _ _ _ _ _ _ _
      | exact staddaref06_Values.mono _ _ _
      | exact staddaref06_after.mono _ _ _
      | exact staddaref06_before.mono _ _ _
      | exact staddaref06_put.mono _ _ _
      | exact LeO.none _
      | refine LeO.ite ?_ ?_
      | refine LeO.bind ?_ (fun _ => ?_)
    · intro y0 y1 y2 y3 y4 y5 y6 y7 y8
      unfold staddaref06_Moves.l3
      repeat' first
      | (with_reducible exact ih0 _ _ _ _)
      | (with_reducible exact ih1 _ _ _ _ _)
      | (with_reducible exact ih2 _ _ _ _ _ _ _)
      | (with_reducible exact ih3 _ _ _ _ _ _ _ _ _)
      | (with_reducible exact ih4 _ _ _ _ _ _ _ _ _)
      | (with_reducible exact ih5 _ _ _ _ _ _ _ _ _ _)
      | (with_reducible exact ih6 _ _ _ _ _ _ _ _ _ _)
      | (with_reducible exact staddaref06_Values.mono _ _ _)
      | (with_reducible exact staddaref06_after.mono _ _ _)
      | (with_reducible exact staddaref06_before.mono _ _ _)
      | (with_reducible exact staddaref06_put.mono _ _ _)
      | (with_reducible exact LeO.refl _)
      | (with_reducible exact LeO.none _)
      | (with_reducible refine LeO.ite ?_ ?_)
      | (with_reducible refine LeO.bind ?_ (fun _ => ?_))
      | exact ih0 _ _ _ _
      | exact ih1 _ _ _ _ _
      | exact ih2 _ _ _ _ _ _ _
      | exact ih3 _ _ _ _ _ _ _ _ _
      | exact ih4 _ _ _ _ _ _ _ _ _
      | exact ih5 _ _ _ _ _ _ _ _ _ _
      | exact ih6 _ _ _ _ _ _ _ _ _ _
      | exact staddaref06_Values.mono _ _ _
      | exact staddaref06_after.mono _ _ _
      | exact staddaref06_before.mono _ _ _
      | exact staddaref06_put.mono _ _ _
      | exact LeO.none _
      | refine LeO.ite ?_ ?_
      | refine LeO.bind ?_ (fun _ => ?_)
    · intro y0 y1 y2 y3 y4 y5 y6 y7 y8
      unfold staddaref06_Moves.l4
      repeat' first
      | (with_reducible exact ih0 _ _ _ _)
      | (with_reducible exact ih1 _ _ _ _ _)
      | (with_reducible exact ih2 _ _ _ _ _ _ _)
      | (with_reducible exact ih3 _ _ _ _ _ _ _ _ _)
      | (with_reducible exact ih4 _ _ _ _ _ _ _ _ _)
      | (with_reducible exact ih5 _ _ _ _ _ _ _ _ _ _)
      | (with_reducible exact ih6 _ _ _ _ _ _ _ _ _ _)
      | (with_reducible exact staddaref06_Values.mono _ _ _)
      | (with_reducible exact staddaref06_after.mono _ _ _)
      | (with_reducible exact staddaref06_before.mono _ _ _)
      | (with_reducible exact staddaref06_put.mono _ _ _)
      | (with_reducible exact LeO.refl _)
      | (with_reducible exact LeO.none _)
      | (with_reducible refine LeO.ite ?_ ?_)
      | (with_reducible refine LeO.bind ?_ (fun _ => ?_))
      | exact ih0 _ _ _ _
      | exact ih1 _ _ _ _ _
      | exact ih2 _ _ _ _ _ _ _
      | exact ih3 _ _ _ _ _ _ _ _ _
      | exact ih4 _ _ _ _ _ _ _ _ _
      | exact ih5 _ _ _ _ _ _ _ _ _ _
      | exact ih6 _ _ _ _ _ _ _ _ _ _
      | exact staddaref06_Values.mono _ _ _
      | exact staddaref06_after.mono _ _ _
      | exact staddaref06_before.mono _ _ _
      | exact staddaref06_put.mono _ _ _
      | exact LeO.none _
      | refine LeO.ite ?_ ?_
      | refine LeO.bind ?_ (fun _ => ?_)
    · intro y0 y1 y2 y3 y4 y5 y6 y7 y8 y9
      unfold staddaref06_Moves.l5
      repeat' first
      | (with_reducible exact ih0 _ _ _ _)
      | (with_reducible exact ih1 _ _ _ _ _)
      | (with_reducible exact ih2 _ _ _ _ _ _ _)
      | (with_reducible exact ih3 _ _ _ _ _ _ _ _ _)
      | (with_reducible exact ih4 _ _ _ _ _ _ _ _ _)
      | (with_reducible exact ih5 _ _ _ _ _ _ _ _ _ _)
      | (with_reducible exact ih6 _ _ _ _ _ _ _ _ _ _)
      | (with_reducible exact staddaref06_Values.mono _ _ _)
      | (with_reducible exact staddaref06_after.mono _ _ _)
      | (with_reducible exact staddaref06_before.mono _ _ _)
      | (with_reducible exact staddaref06_put.mono _ _ _)
      | (with_reducible exact LeO.refl _)
      | (with_reducible exact LeO.none _)
      | (with_reducible refine LeO.ite ?_ ?_)
      | (with_reducible refine LeO.bind ?_ (fun _ => ?_))
      | exact ih0 _ _ _ _
      | exact ih1 _ _ _ _ _
      | exact ih2 _ _ _ _ _ _ _
      | exact ih3 _ _ _ _ _ _ _ _ _
      | exact ih4 _ _ _ _ _ _ _ _ _
      | exact ih5 _ _ _ _ _ _ _ _ _ _
      | exact ih6 _ _ _ _ _ _ _ _ _ _
      | exact staddaref06_Values.mono _ _ _
      | exact staddaref06_after.mono _ _ _
      | exact staddaref06_before.mono _ _ _
      | exact staddaref06_put.mono _ _ _
      | exact LeO.none _
      | refine LeO.ite ?_ ?_
      | refine LeO.bind ?_ (fun _ => ?_)
    · intro y0 y1 y2 y3 y4 y5 y6 y7 y8 y9
      unfold staddaref06_Moves.l6
      repeat' first
      | (with_reducible exact ih0 _ _ _ _)
      | (with_reducible exact ih1 _ _ _ _ _)
      | (with_reducible exact ih2 _ _ _ _ _ _ _)
      | (with_reducible exact ih3 _ _ _ _ _ _ _ _ _)
      | (with_reducible exact ih4 _ _ _ _ _ _ _ _ _)
      | (with_reducible exact ih5 _ _ _ _ _ _ _ _ _ _)
      | (with_reducible exact ih6 _ _ _ _ _ _ _ _ _ _)
      | (with_reducible exact staddaref06_Values.mono _ _ _)
      | (with_reducible exact staddaref06_after.mono _ _ _)
      | (with_reducible exact staddaref06_before.mono _ _ _)
      | (with_reducible exact staddaref06_put.mono _ _ _)
      | (with_reducible exact LeO.refl _)
      | (with_reducible exact LeO.none _)
      | (with_reducible refine LeO.ite ?_ ?_)
      | (with_reducible refine LeO.bind ?_ (fun _ => ?_))
      | exact ih0 _ _ _ _
      | exact ih1 _ _ _ _ _
      | exact ih2 _ _ _ _ _ _ _
      | exact ih3 _ _ _ _ _ _ _ _ _
      | exact ih4 _ _ _ _ _ _ _ _ _
      | exact ih5 _ _ _ _ _ _ _ _ _ _
      | exact ih6 _ _ _ _ _ _ _ _ _ _
      | exact staddaref06_Values.mono _ _ _
      | exact staddaref06_after.mono _ _ _
      | exact staddaref06_before.mono _ _ _
      | exact staddaref06_put.mono _ _ _
      | exact LeO.none _
      | refine LeO.ite ?_ ?_
      | refine LeO.bind ?_ (fun _ => ?_)
theorem staddaref06_Moves.mono : ∀ a0 a1 k, LeO (staddaref06_Moves.f k a0 a1) (staddaref06_Moves.f (k + 1) a0 a1) := by
  intro a0 a1 k
  obtain ⟨ih0, ih1, ih2, ih3, ih4, ih5, ih6⟩ := staddaref06_Moves.mono_l k
  unfold staddaref06_Moves.f
  repeat' first
      | (with_reducible exact ih0 _ _ _ _)
      | (with_reducible exact ih1 _ _ _ _ _)
      | (with_reducible exact ih2 _ _ _ _ _ _ _)
      | (with_reducible exact ih3 _ _ _ _ _ _ _ _ _)
      | (with_reducible exact ih4 _ _ _ _ _ _ _ _ _)
      | (with_reducible exact ih5 _ _ _ _ _ _ _ _ _ _)
      | (with_reducible exact ih6 _ _ _ _ _ _ _ _ _ _)
      | (with_reducible exact staddaref06_Values.mono _ _ _)
      | (with_reducible exact staddaref06_after.mono _ _ _)
      | (with_reducible exact staddaref06_before.mono _ _ _)
      | (with_reducible exact staddaref06_put.mono _ _ _)
      | (with_reducible exact LeO.refl _)
      | (with_reducible exact LeO.none _)
      | (with_reducible refine LeO.ite ?_ ?_)
      | (with_reducible refine LeO.bind ?_ (fun _ => ?_))
      | exact ih0 _ _ _ _
      | exact ih1 _ _ _ _ _
      | exact ih2 _ _ _ _ _ _ _
      | exact ih3 _ _ _ _ _ _ _ _ _
      | exact ih4 _ _ _ _ _ _ _ _ _
      | exact ih5 _ _ _ _ _ _ _ _ _ _
      | exact ih6 _ _ _ _ _ _ _ _ _ _
      | exact staddaref06_Values.mono _ _ _
      | exact staddaref06_after.mono _ _ _
      | exact staddaref06_before.mono _ _ _
      | exact staddaref06_put.mono _ _ _
      | exact LeO.none _
      | refine LeO.ite ?_ ?_
      | refine LeO.bind ?_ (fun _ => ?_)
set_option maxHeartbeats 8000000 in
set_option maxRecDepth 100000 in
theorem staddaref06_Moves.calls (k : Nat) (a0 : ByteArray) (A1 : Option Addr) (c1 : Nat) (l1 : List Int) (r : List (List Int)) (w : World) (hr1 : Kd.C (Kd.int .i64) w A1 l1.length l1) (hc1 : l1.length ≤ c1) (h : staddaref06_Moves.f k a0 l1 = some r) :
    Calls Tryz.prog 6 #[.string a0, .slice A1 l1.length c1] w fun e w' => ∃ v0_ : Value, e = .returned (v0_) ∧ Kd.N (Kd.slice 3 (Kd.int .i64)) 22 w' w.heap.size (fun k_ => (w.heap.size ≤ k_)) v0_ r ∧ Below w.heap.size w w' := by
  have HR1 := Aside0.mk hr1
  have HC1 := Aside0.mk hc1
  clear hr1 hc1
  have HB := Aside0.mk (Below.refl w.heap.size w)
  have H : (staddaref06_Moves.l0 k a0 l1 0 0) = some r := h
  clear h
  have H' := Aside0.mk H
  clear H
  go_enter Tryz.func6, Tryz.ntmps6
  go_wp2
  go_loopg [5, 6] k (fun kq v5 v6 w' => ∃ (x5_1 : Int) (x6_1 : Int), v5 = .int .i64 x5_1 ∧ v6 = .int .i64 x6_1 ∧ Aside0 (staddaref06_Moves.l0 kq a0 l1 x5_1 x6_1 = some r) ∧ Aside0 (kq ≤ k) ∧ Aside0 (Below w.heap.size w w'))
  case atStart => exact ⟨(0), (0), (by first | rfl | (simp; done) | (simp [*]; done)), (by first | rfl | (simp; done) | (simp [*]; done)), H', ⟨Nat.le_refl _⟩, ⟨by repeat (first | (with_reducible first | exact HB.out | apply below_alloc | apply pw_below_drewN | apply below_drew1) | exact HB.out)⟩⟩
  case round =>
    clear H'
    try clear c1
    try clear p2
    obtain ⟨x5_1, x6_1, rfl, rfl, HA, HK1, HB⟩ := hrel
    cases gk with
    | zero => exact absurd HA.out (by simp [staddaref06_Moves.l0])
    | succ k1 =>
      have H := HA.out
      clear HA
      simp only [staddaref06_Moves.l0] at H
      by_cases c3 : x6_1 < (l1.length : Int)
      · rw [if_pos c3] at H
        have c3b0 : decide (x6_1 < (l1.length : Int)) = true := decide_eq_true c3
        clear c3
        by_cases c4 : 0 ≤ x6_1
        · rw [if_pos c4] at H
          have c4b0 : decide (0 ≤ x6_1) = true := decide_eq_true c4
          clear c4
          obtain ⟨ji5, hji5⟩ : ∃ j_ : Int, (mx x5_1 (rd l1 x6_1)) = j_ := ⟨_, rfl⟩
          replace H : (staddaref06_Moves.l0 k1 a0 l1 ji5 (wrap64 (x6_1 + 1))) = some r := by first | (rw [hji5] at H; exact H) | (simp only [hji5] at H ⊢; exact H)
          have hji5_ : (if x5_1 < (rd l1 x6_1) then (rd l1 x6_1) else x5_1) = ji5 := hji5
          have H' := Aside0.mk H
          clear H
          have p182 : 0 ≤ (x6_1 : Int) := of_decide_eq_true (by first | (with_reducible assumption) | assumption)
          have q182 : x6_1 < (l1.length : Int) := of_decide_eq_true (by first | (with_reducible assumption) | assumption)
          obtain ⟨ad182, e182, hx182_0⟩ := Kd.at_int HR1.out x6_1 p182 q182
          cases e182
          replace hx182_0 := (HB.out.cell (World.block_lt_of_cell? w _ hx182_0)).trans hx182_0
          replace p182 := eq_true p182
          replace q182 := eq_true q182
          go_wp2
          go_roundg k1
          case measure => have := HK1.out; omega
          case rel => exact ⟨(ji5), (wrap64 (x6_1 + 1)), (by first | rfl | (simp; done) | (simp only [← hji5] <;> (first | rfl | simp)) | (simp [*]; done)), (by first | rfl | (simp; done) | (simp [*]; done)), H', ⟨by have := HK1.out; omega⟩, ⟨by repeat (first | (with_reducible first | exact HB.out | apply below_alloc | apply pw_below_drewN | apply below_drew1) | exact HB.out)⟩⟩
        · rw [if_neg c4] at H
          exact absurd H (by simp)
      · rw [if_neg c3] at H
        have c3b0 : decide (x6_1 < (l1.length : Int)) = false := decide_eq_false c3
        clear c3
        replace H := Option.bind_eq_some_iff.mp H
        obtain ⟨t183, A60, H⟩ := H
        replace H : (staddaref06_Moves.l1 k1 a0 l1 t183 ([] : List (List Int)) 0) = some r := H
        have A6 := Aside0.mk A60
        clear A60
        have H' := Aside0.mk H
        clear H
        go_wp2_with (first | ((with_reducible refine gate_callee (f := 25) rfl ?_); refine goesL_ (some 33) rfl rfl Tryz.func25 (by kernel_rfl) rfl #[.string a0, .int .i64 x5_1] rfl (by (try simp only [List.map_toArray, List.map_cons, List.map_nil]); first | done | rfl | (simp only [List.length_drop, List.length_take]; rfl)) ?_; (with_reducible refine (staddaref06_Values.calls k1 a0 x5_1 t183 _ A6.out).mono ?_); rintro e w7 ⟨v184, rfl, ho0, hb⟩; refine ⟨_, rfl, ?_⟩; have n0_ := Aside0.mk (Kd.R_lower (Kd.R_newM (M := fun k_ => (w.heap.size ≤ k_)) ho0 (below_size (by repeat (first | (with_reducible first | exact HB.out | apply below_alloc | apply pw_below_drewN | apply below_drew1) | exact HB.out))) (fun k_ h_ => h_)) (below_size (by repeat (first | (with_reducible first | exact HB.out | apply below_alloc | apply pw_below_drewN | apply below_drew1) | exact HB.out)))); have n1_ := Aside0.mk (below_step (by repeat (first | (with_reducible first | exact HB.out | apply below_alloc | apply pw_below_drewN | apply below_drew1) | exact HB.out)) hb); clear HB; have HO185 := n0_; have HB := n1_; clear n0_ n1_; (try clear hb); (try clear hb2); (try clear hk); (try clear hi); (try clear ho0)))
        go_loopg [8, 9] k1 (fun kq v8 v9 w' => ∃ (x8_2 : List (List Int)) (x9_2 : Int), v9 = .int .i64 x9_2 ∧ Aside0 (staddaref06_Moves.l1 kq a0 l1 t183 x8_2 x9_2 = some r) ∧ Aside0 (kq ≤ k1) ∧ Aside0 (Kd.R (Kd.int .i64) 3 w' w.heap.size (fun k_ => (w.heap.size ≤ k_)) v184 t183) ∧ Aside0 (Kd.N (Kd.slice 3 (Kd.int .i64)) 22 w' w.heap.size (fun k_ => (w.heap.size ≤ k_) ∧ some k_ ≠ (v184 : Value).ownBlock) v8 x8_2) ∧ Aside0 (Below w.heap.size w w'))
        case atStart => exact ⟨(([] : List (List Int))), (0), (by first | rfl | (simp; done) | (simp [*]; done)), H', ⟨Nat.le_refl _⟩, ⟨by (with_reducible repeat (first | apply Kd.R_alloc | apply Kd.R_drewN | apply Kd.R_drew)); exact Kd.R_mono HO185.out (fun _ hk => hk.1)⟩, ⟨by first | exact Kd.S_nil _ _ _ _ _ | exact Kd.N_nil _ _ _ _ _ | exact Kd.V_nil _ _ _ _ _ | exact Kd.Q_nil _ _ _ _ _ | exact Kd.R_nil _ _ _ _ _⟩, ⟨by repeat (first | (with_reducible first | exact HB.out | apply below_alloc | apply pw_below_drewN | apply below_drew1) | exact HB.out)⟩⟩
        case round =>
          clear H'
          try clear c1
          try clear p1
          try clear q1
          try clear hx1
          try clear c2
          try clear p2
          try clear c3
          try clear c3b0
          try clear c4
          try clear c4b0
          try clear c6
          try clear p6
          try clear hx182_0
          try clear p182
          try clear p2
          try clear q182
          obtain ⟨x8_2, x9_2, rfl, HA, HK2, HO_7, HO_8, HB⟩ := hrel
          cases gk with
          | zero => exact absurd HA.out (by simp [staddaref06_Moves.l1])
          | succ k2 =>
            have H := HA.out
            clear HA
            simp only [staddaref06_Moves.l1] at H
            by_cases c8 : x9_2 < (l1.length : Int)
            · rw [if_pos c8] at H
              have c8b0 : decide (x9_2 < (l1.length : Int)) = true := decide_eq_true c8
              clear c8
              by_cases c9 : 0 ≤ x9_2
              · rw [if_pos c9] at H
                have c9b0 : decide (0 ≤ x9_2) = true := decide_eq_true c9
                clear c9
                replace H := Option.bind_eq_some_iff.mp H
                obtain ⟨t187, A100, H⟩ := H
                replace H : (staddaref06_Moves.l2 k2 a0 l1 t183 x8_2 x9_2 t187 0) = some r := H
                have A10 := Aside0.mk A100
                clear A100
                have H' := Aside0.mk H
                clear H
                have p186 : 0 ≤ (x9_2 : Int) := of_decide_eq_true (by first | (with_reducible assumption) | assumption)
                have q186 : x9_2 < (l1.length : Int) := of_decide_eq_true (by first | (with_reducible assumption) | assumption)
                obtain ⟨ad186, e186, hx186_0⟩ := Kd.at_int HR1.out x9_2 p186 q186
                cases e186
                replace hx186_0 := (HB.out.cell (World.block_lt_of_cell? w _ hx186_0)).trans hx186_0
                replace p186 := eq_true p186
                replace q186 := eq_true q186
                go_wp2_with (first | ((with_reducible refine gate_callee (f := 26) rfl ?_); refine goesL_ (some 45) rfl rfl Tryz.func26 (by kernel_rfl) rfl #[.string a0, .int .i64 (rd l1 x9_2)] rfl (by (try simp only [List.map_toArray, List.map_cons, List.map_nil]); first | done | rfl | (simp only [List.length_drop, List.length_take]; rfl)) ?_; (with_reducible refine (staddaref06_after.calls k2 a0 (rd l1 x9_2) t187 _ A10.out).mono ?_); rintro e w11 ⟨v188, rfl, ho0, hb⟩; refine ⟨_, rfl, ?_⟩; have n0_ := Aside0.mk (Kd.R_below (by (with_reducible repeat (first | apply Kd.R_alloc | apply Kd.R_drewN | apply Kd.R_drew)); exact HO_7.out) hb); have n1_ := Aside0.mk (Kd.N_elder' (by (with_reducible repeat (first | apply Kd.N_alloc | apply Kd.N_drewN | apply Kd.N_drew)); exact HO_8.out) (Kd.S_base ho0) hb); have n2_ := Aside0.mk (Kd.N_lower (Kd.N_mono (ok' := fun k_ => (w.heap.size ≤ k_) ∧ some k_ ≠ (v184 : Value).ownBlock ∧ some k_ ≠ (u8 : Value).ownBlock) (Kd.S_N (Kd.S_bound ho0)) (fun k_ hk_ => ⟨(Nat.le_trans (below_size (by repeat (first | (with_reducible first | exact HB.out | apply below_alloc | apply pw_below_drewN | apply below_drew1) | exact HB.out))) hk_.2.1), (Kd.fresh' (Kd.R_lt (by (with_reducible repeat (first | apply Kd.R_alloc | apply Kd.R_drewN | apply Kd.R_drew)); exact HO_7.out)) k_ hk_.2.1), (Kd.fresh' (Kd.N_lt (by (with_reducible repeat (first | apply Kd.N_alloc | apply Kd.N_drewN | apply Kd.N_drew)); exact HO_8.out)) k_ hk_.2.1)⟩)) (below_size (by repeat (first | (with_reducible first | exact HB.out | apply below_alloc | apply pw_below_drewN | apply below_drew1) | exact HB.out)))); have n3_ := Aside0.mk (below_step (by repeat (first | (with_reducible first | exact HB.out | apply below_alloc | apply pw_below_drewN | apply below_drew1) | exact HB.out)) hb); clear HO_7; clear HO_8; clear HB; have HO_7 := n0_; have HO_8 := n1_; have HO189 := n2_; have HB := n3_; clear n0_ n1_ n2_ n3_; (try clear hb); (try clear hb2); (try clear hk); (try clear hi); (try clear ho0)))
                go_loopg [8, 11] k2 (fun kq v8 v11 w' => ∃ (x8_3 : List (List Int)) (x11_3 : Int), v11 = .int .i64 x11_3 ∧ Aside0 (staddaref06_Moves.l2 kq a0 l1 t183 x8_3 x9_2 t187 x11_3 = some r) ∧ Aside0 (kq ≤ k2) ∧ Aside0 (Kd.R (Kd.int .i64) 3 w' w.heap.size (fun k_ => (w.heap.size ≤ k_)) v184 t183) ∧ Aside0 (Kd.N (Kd.slice 3 (Kd.int .i64)) 22 w' w.heap.size (fun k_ => (w.heap.size ≤ k_) ∧ some k_ ≠ (v184 : Value).ownBlock ∧ some k_ ≠ (v188 : Value).ownBlock) v8 x8_3) ∧ Aside0 (Kd.N (Kd.slice 3 (Kd.int .i64)) 22 w' w.heap.size (fun k_ => (w.heap.size ≤ k_) ∧ some k_ ≠ (v184 : Value).ownBlock ∧ some k_ ≠ (v8 : Value).ownBlock) v188 t187) ∧ Aside0 (Below w.heap.size w w'))
                case atStart => exact ⟨(x8_2), (0), (by first | rfl | (simp; done) | (simp [*]; done)), H', ⟨Nat.le_refl _⟩, ⟨by (with_reducible repeat (first | apply Kd.R_alloc | apply Kd.R_drewN | apply Kd.R_drew)); exact HO_7.out⟩, ⟨by (with_reducible repeat (first | apply Kd.N_alloc | apply Kd.N_drewN | apply Kd.N_drew)); exact Kd.N_mono HO_8.out (fun _ hk => ⟨hk.1.1, ⟨hk.1.2, hk.2⟩⟩)⟩, ⟨by (with_reducible repeat (first | apply Kd.N_alloc | apply Kd.N_drewN | apply Kd.N_drew)); exact HO189.out⟩, ⟨by repeat (first | (with_reducible first | exact HB.out | apply below_alloc | apply pw_below_drewN | apply below_drew1) | exact HB.out)⟩⟩
                case round =>
                  clear H'
                  try clear c1
                  try clear p1
                  try clear q1
                  try clear hx1
                  try clear c2
                  try clear p2
                  try clear c3
                  try clear c3b0
                  try clear c4
                  try clear c4b0
                  try clear c6
                  try clear p6
                  try clear c8
                  try clear c8b0
                  try clear c9
                  try clear c9b0
                  try clear hx182_0
                  try clear hx186_0
                  try clear p1
                  try clear p182
                  try clear p186
                  try clear p2
                  try clear p6
                  try clear q1
                  try clear q182
                  try clear q186
                  obtain ⟨x8_3, x11_3, rfl, HA, HK3, HO_7, HO_8, HO_10, HB⟩ := hrel
                  cases gk with
                  | zero => exact absurd HA.out (by simp [staddaref06_Moves.l2])
                  | succ k3 =>
                    have H := HA.out
                    clear HA
                    simp only [staddaref06_Moves.l2] at H
                    by_cases c12 : x11_3 < (t187.length : Int)
                    · rw [if_pos c12] at H
                      have c12b0 : decide (x11_3 < (t187.length : Int)) = true := decide_eq_true c12
                      clear c12
                      have H' := Aside0.mk H
                      clear H
                      obtain ⟨Ao13, co13, eo13⟩ := Kd.N_slice HO_10.out
                      subst eo13
                      go_wp2
                      go_loopg [12, 13] k3 (fun kq v12 v13 w' => ∃ (x12_4 : List Int) (x13_4 : Int), v13 = .int .i64 x13_4 ∧ Aside0 (staddaref06_Moves.l3 kq a0 l1 t183 x8_3 x9_2 t187 x11_3 x12_4 x13_4 = some r) ∧ Aside0 (kq ≤ k3) ∧ Aside0 (Kd.R (Kd.int .i64) 3 w' w.heap.size (fun k_ => (w.heap.size ≤ k_) ∧ some k_ ≠ (v12 : Value).ownBlock) v184 t183) ∧ Aside0 (Kd.N (Kd.slice 3 (Kd.int .i64)) 22 w' w.heap.size (fun k_ => (w.heap.size ≤ k_) ∧ some k_ ≠ (v184 : Value).ownBlock ∧ some k_ ≠ ((.slice Ao13 t187.length co13) : Value).ownBlock ∧ some k_ ≠ (v12 : Value).ownBlock) u8 x8_3) ∧ Aside0 (Kd.N (Kd.slice 3 (Kd.int .i64)) 22 w' w.heap.size (fun k_ => (w.heap.size ≤ k_) ∧ some k_ ≠ (v184 : Value).ownBlock ∧ some k_ ≠ (u8 : Value).ownBlock ∧ some k_ ≠ (v12 : Value).ownBlock) (.slice Ao13 t187.length co13) t187) ∧ Aside0 (Kd.R (Kd.int .i64) 3 w' w.heap.size (fun k_ => (w.heap.size ≤ k_) ∧ some k_ ≠ (v184 : Value).ownBlock) v12 x12_4) ∧ Aside0 (Below w.heap.size w w'))
                      case atStart => exact ⟨(([] : List Int)), (0), (by first | rfl | (simp; done) | (simp [*]; done)), H', ⟨Nat.le_refl _⟩, ⟨by (with_reducible repeat (first | apply Kd.R_alloc | apply Kd.R_drewN | apply Kd.R_drew)); exact Kd.R_mono HO_7.out (fun _ hk => ⟨hk, (by simp [Value.ownBlock])⟩)⟩, ⟨by (with_reducible repeat (first | apply Kd.N_alloc | apply Kd.N_drewN | apply Kd.N_drew)); exact Kd.N_mono HO_8.out (fun _ hk => ⟨hk.1, ⟨hk.2.1, ⟨hk.2.2, (by simp [Value.ownBlock])⟩⟩⟩)⟩, ⟨by (with_reducible repeat (first | apply Kd.N_alloc | apply Kd.N_drewN | apply Kd.N_drew)); exact Kd.N_mono HO_10.out (fun _ hk => ⟨hk.1, ⟨hk.2.1, ⟨hk.2.2, (by simp [Value.ownBlock])⟩⟩⟩)⟩, ⟨by first | exact Kd.R_nil _ _ _ _ _ | exact Kd.N_nil _ _ _ _ _ | exact Kd.V_nil _ _ _ _ _ | exact Kd.Q_nil _ _ _ _ _ | exact Kd.S_nil _ _ _ _ _⟩, ⟨by repeat (first | (with_reducible first | exact HB.out | apply below_alloc | apply pw_below_drewN | apply below_drew1) | exact HB.out)⟩⟩
                      case round =>
                        clear H'
                        try clear c1
                        try clear p1
                        try clear q1
                        try clear hx1
                        try clear c2
                        try clear p2
                        try clear c3
                        try clear c3b0
                        try clear c4
                        try clear c4b0
                        try clear c6
                        try clear p6
                        try clear c8
                        try clear c8b0
                        try clear c9
                        try clear c9b0
                        try clear c12
                        try clear c12b0
                        try clear hx182_0
                        try clear hx186_0
                        try clear p1
                        try clear p182
                        try clear p186
                        try clear p2
                        try clear p6
                        try clear q1
                        try clear q182
                        try clear q186
                        obtain ⟨x12_4, x13_4, rfl, HA, HK4, HO_7, HO_8, HO_10, HO_12, HB⟩ := hrel
                        cases gk with
                        | zero => exact absurd HA.out (by simp [staddaref06_Moves.l3])
                        | succ k4 =>
                          have H := HA.out
                          clear HA
                          simp only [staddaref06_Moves.l3] at H
                          by_cases c14 : x13_4 < (l1.length : Int)
                          · rw [if_pos c14] at H
                            have c14b0 : decide (x13_4 < (l1.length : Int)) = true := decide_eq_true c14
                            clear c14
                            by_cases c15 : x13_4 = x9_2
                            · rw [if_pos c15] at H
                              have c15b0 : (x13_4 == x9_2) = true := beq_iff_eq.mpr c15
                              have c15b1 : (x13_4 != x9_2) = false := bne_eq_false_iff_eq.mpr c15
                              clear c15
                              have H' := Aside0.mk H
                              clear H
                              go_wp2
                              go_roundg k4
                              case measure => have := HK1.out; have := HK2.out; have := HK3.out; have := HK4.out; omega
                              case rel => exact ⟨(x12_4), (wrap64 (x13_4 + 1)), (by first | rfl | (simp; done) | (simp [*]; done)), H', ⟨by have := HK1.out; have := HK2.out; have := HK3.out; have := HK4.out; omega⟩, ⟨by (with_reducible repeat (first | apply Kd.R_alloc | apply Kd.R_drewN | apply Kd.R_drew)); exact HO_7.out⟩, ⟨by (with_reducible repeat (first | apply Kd.N_alloc | apply Kd.N_drewN | apply Kd.N_drew)); exact HO_8.out⟩, ⟨by (with_reducible repeat (first | apply Kd.N_alloc | apply Kd.N_drewN | apply Kd.N_drew)); exact HO_10.out⟩, ⟨by (with_reducible repeat (first | apply Kd.R_alloc | apply Kd.R_drewN | apply Kd.R_drew)); exact HO_12.out⟩, ⟨by repeat (first | (with_reducible first | exact HB.out | apply below_alloc | apply pw_below_drewN | apply below_drew1) | exact HB.out)⟩⟩
                            · rw [if_neg c15] at H
                              have c15b0 : (x13_4 == x9_2) = false := beq_eq_false_iff_ne.mpr c15
                              have c15b1 : (x13_4 != x9_2) = true := bne_iff_ne.mpr c15
                              by_cases c16 : 0 ≤ x13_4
                              · rw [if_pos c16] at H
                                have c16b0 : decide (0 ≤ x13_4) = true := decide_eq_true c16
                                clear c16
                                replace H := Option.bind_eq_some_iff.mp H
                                obtain ⟨t191, A170, H⟩ := H
                                replace H : (staddaref06_Moves.l3 k4 a0 l1 t183 x8_3 x9_2 t187 x11_3 t191 (wrap64 (x13_4 + 1))) = some r := H
                                have A17 := Aside0.mk A170
                                clear A170
                                have H' := Aside0.mk H
                                clear H
                                have p190 : 0 ≤ (x13_4 : Int) := of_decide_eq_true (by first | (with_reducible assumption) | assumption)
                                have q190 : x13_4 < (l1.length : Int) := of_decide_eq_true (by first | (with_reducible assumption) | assumption)
                                obtain ⟨ad190, e190, hx190_0⟩ := Kd.at_int HR1.out x13_4 p190 q190
                                obtain rfl : ad186 = ad190 := (by injection e190)
                                replace hx190_0 := (HB.out.cell (World.block_lt_of_cell? w _ hx190_0)).trans hx190_0
                                replace p190 := eq_true p190
                                replace q190 := eq_true q190
                                obtain ⟨Ao18, co18, eo18⟩ := Kd.R_slice HO_12.out
                                subst eo18
                                go_wp2_with (first | ((with_reducible refine gate_callee (f := 27) rfl ?_); refine goesL_ (some 66) rfl rfl Tryz.func27 (by kernel_rfl) rfl #[.slice Ao18 x12_4.length co18, .int .i64 (rd l1 x13_4)] rfl (by (try simp only [List.map_toArray, List.map_cons, List.map_nil]); first | done | rfl | (simp only [List.length_drop, List.length_take]; rfl)) ?_; (with_reducible refine (staddaref06_put.calls k4 (fun k_ => some k_ = (.slice Ao18 x12_4.length co18 : Value).ownBlock) (.slice Ao18 x12_4.length co18) x12_4 (rd l1 x13_4) t191 w _ ?side1 ?side2 A17.out).mono ?_); (case side1 => repeat (first | (with_reducible first | exact HB.out | apply below_alloc | apply pw_below_drewN | apply below_drew1) | exact HB.out)); (case side2 => exact Kd.R_tight rfl HO_12.out); rintro e w19 ⟨v192, rfl, ho0, hb, hkp⟩; refine ⟨_, rfl, ?_⟩; have n0_ := Aside0.mk (Kd.R_mono (ok' := fun k_ => (w.heap.size ≤ k_) ∧ some k_ ≠ (v192 : Value).ownBlock) (Kd.R_keptB (HO_7.out) hkp (fun k_ hk_ hs_ => (hk_.2) hs_)) (fun k_ hk_ => ⟨hk_.1.1, fun e_ => Or.elim (ho0.1 k_ e_.symm) (fun hs_ => hk_.2.1 hs_) (fun hn_ => Nat.not_le.2 hk_.2.2 hn_)⟩)); have n1_ := Aside0.mk (Kd.N_mono (ok' := fun k_ => (w.heap.size ≤ k_) ∧ some k_ ≠ (v184 : Value).ownBlock ∧ some k_ ≠ (.slice Ao13 t187.length co13 : Value).ownBlock ∧ some k_ ≠ (v192 : Value).ownBlock) (Kd.N_keptB (HO_8.out) hkp (fun k_ hk_ hs_ => (hk_.2.2.2) hs_)) (fun k_ hk_ => ⟨hk_.1.1, hk_.1.2.1, hk_.1.2.2.1, fun e_ => Or.elim (ho0.1 k_ e_.symm) (fun hs_ => hk_.2.1 hs_) (fun hn_ => Nat.not_le.2 hk_.2.2 hn_)⟩)); have n2_ := Aside0.mk (Kd.N_mono (ok' := fun k_ => (w.heap.size ≤ k_) ∧ some k_ ≠ (v184 : Value).ownBlock ∧ some k_ ≠ (u8 : Value).ownBlock ∧ some k_ ≠ (v192 : Value).ownBlock) (Kd.N_keptB (HO_10.out) hkp (fun k_ hk_ hs_ => (hk_.2.2.2) hs_)) (fun k_ hk_ => ⟨hk_.1.1, hk_.1.2.1, hk_.1.2.2.1, fun e_ => Or.elim (ho0.1 k_ e_.symm) (fun hs_ => hk_.2.1 hs_) (fun hn_ => Nat.not_le.2 hk_.2.2 hn_)⟩)); have n3_ := Aside0.mk (Kd.R_mono (ok' := fun k_ => (w.heap.size ≤ k_) ∧ some k_ ≠ (v184 : Value).ownBlock) ho0 (fun k_ hk_ => ⟨Or.elim hk_ (fun hs_ => (HO_12.out.1 k_ (hs_).symm).1) (fun hn_ => (Nat.le_trans (below_size (by repeat (first | (with_reducible first | exact HB.out | apply below_alloc | apply pw_below_drewN | apply below_drew1) | exact HB.out))) hn_)), Or.elim hk_ (fun hs_ => fun e_ => (((HO_7.out).1 k_ e_.symm).2) hs_) (fun hn_ => (Kd.fresh' (Kd.R_lt (by (with_reducible repeat (first | apply Kd.R_alloc | apply Kd.R_drewN | apply Kd.R_drew)); exact HO_7.out)) k_ hn_))⟩)); have n4_ := Aside0.mk (hb); clear HO_7; clear HO_8; clear HO_10; clear HB; clear HO_12; have HO_7 := n0_; have HO_8 := n1_; have HO_10 := n2_; have HO193 := n3_; have HB := n4_; clear n0_ n1_ n2_ n3_ n4_; (try clear hb); (try clear hkp); (try clear ho0)))
                                go_roundg k4
                                case measure => have := HK1.out; have := HK2.out; have := HK3.out; have := HK4.out; omega
                                case rel => exact ⟨(t191), (wrap64 (x13_4 + 1)), (by first | rfl | (simp; done) | (simp [*]; done)), H', ⟨by have := HK1.out; have := HK2.out; have := HK3.out; have := HK4.out; omega⟩, ⟨by (with_reducible repeat (first | apply Kd.R_alloc | apply Kd.R_drewN | apply Kd.R_drew)); exact HO_7.out⟩, ⟨by (with_reducible repeat (first | apply Kd.N_alloc | apply Kd.N_drewN | apply Kd.N_drew)); exact HO_8.out⟩, ⟨by (with_reducible repeat (first | apply Kd.N_alloc | apply Kd.N_drewN | apply Kd.N_drew)); exact HO_10.out⟩, ⟨by (with_reducible repeat (first | apply Kd.R_alloc | apply Kd.R_drewN | apply Kd.R_drew)); exact HO193.out⟩, ⟨by repeat (first | (with_reducible first | exact HB.out | apply below_alloc | apply pw_below_drewN | apply below_drew1) | exact HB.out)⟩⟩
                              · rw [if_neg c16] at H
                                exact absurd H (by simp)
                          · rw [if_neg c14] at H
                            have c14b0 : decide (x13_4 < (l1.length : Int)) = false := decide_eq_false c14
                            clear c14
                            have H' := Aside0.mk H
                            clear H
                            go_wp2
                            go_loopg [12, 14] k4 (fun kq v12 v14 w' => ∃ (x12_5 : List Int) (x14_5 : Int), v14 = .int .i64 x14_5 ∧ Aside0 (staddaref06_Moves.l4 kq a0 l1 t183 x8_3 x9_2 t187 x11_3 x12_5 x14_5 = some r) ∧ Aside0 (kq ≤ k4) ∧ Aside0 (Kd.R (Kd.int .i64) 3 w' w.heap.size (fun k_ => (w.heap.size ≤ k_) ∧ some k_ ≠ (v12 : Value).ownBlock) v184 t183) ∧ Aside0 (Kd.N (Kd.slice 3 (Kd.int .i64)) 22 w' w.heap.size (fun k_ => (w.heap.size ≤ k_) ∧ some k_ ≠ (v184 : Value).ownBlock ∧ some k_ ≠ ((.slice Ao13 t187.length co13) : Value).ownBlock ∧ some k_ ≠ (v12 : Value).ownBlock) u8 x8_3) ∧ Aside0 (Kd.N (Kd.slice 3 (Kd.int .i64)) 22 w' w.heap.size (fun k_ => (w.heap.size ≤ k_) ∧ some k_ ≠ (v184 : Value).ownBlock ∧ some k_ ≠ (u8 : Value).ownBlock ∧ some k_ ≠ (v12 : Value).ownBlock) (.slice Ao13 t187.length co13) t187) ∧ Aside0 (Kd.R (Kd.int .i64) 3 w' w.heap.size (fun k_ => (w.heap.size ≤ k_) ∧ some k_ ≠ (v184 : Value).ownBlock) v12 x12_5) ∧ Aside0 (Below w.heap.size w w'))
                            case atStart => exact ⟨(x12_4), (0), (by first | rfl | (simp; done) | (simp [*]; done)), H', ⟨Nat.le_refl _⟩, ⟨by (with_reducible repeat (first | apply Kd.R_alloc | apply Kd.R_drewN | apply Kd.R_drew)); exact HO_7.out⟩, ⟨by (with_reducible repeat (first | apply Kd.N_alloc | apply Kd.N_drewN | apply Kd.N_drew)); exact HO_8.out⟩, ⟨by (with_reducible repeat (first | apply Kd.N_alloc | apply Kd.N_drewN | apply Kd.N_drew)); exact HO_10.out⟩, ⟨by (with_reducible repeat (first | apply Kd.R_alloc | apply Kd.R_drewN | apply Kd.R_drew)); exact HO_12.out⟩, ⟨by repeat (first | (with_reducible first | exact HB.out | apply below_alloc | apply pw_below_drewN | apply below_drew1) | exact HB.out)⟩⟩
                            case round =>
                              clear H'
                              try clear c1
                              try clear p1
                              try clear q1
                              try clear hx1
                              try clear c2
                              try clear p2
                              try clear c3
                              try clear c3b0
                              try clear c4
                              try clear c4b0
                              try clear c6
                              try clear p6
                              try clear c8
                              try clear c8b0
                              try clear c9
                              try clear c9b0
                              try clear c12
                              try clear c12b0
                              try clear c14
                              try clear c14b0
                              try clear c15
                              try clear c15b0
                              try clear c15b1
                              try clear c16
                              try clear c16b0
                              try clear p18
                              try clear q18
                              try clear hx18
                              try clear p19
                              try clear q19
                              try clear hx19
                              try clear hx182_0
                              try clear hx186_0
                              try clear hx190_0
                              try clear p1
                              try clear p182
                              try clear p186
                              try clear p190
                              try clear p2
                              try clear p6
                              try clear q1
                              try clear q182
                              try clear q186
                              try clear q190
                              obtain ⟨x12_5, x14_5, rfl, HA, HK5, HO_7, HO_8, HO_10, HO_12, HB⟩ := hrel
                              cases gk with
                              | zero => exact absurd HA.out (by simp [staddaref06_Moves.l4])
                              | succ k5 =>
                                have H := HA.out
                                clear HA
                                simp only [staddaref06_Moves.l4] at H
                                by_cases c20 : 0 ≤ x11_3
                                · rw [if_pos c20] at H
                                  have c20b0 : decide (0 ≤ x11_3) = true := decide_eq_true c20
                                  clear c20
                                  by_cases c21 : x11_3 < (t187.length : Int)
                                  · rw [if_pos c21] at H
                                    have c21b0 : decide (x11_3 < (t187.length : Int)) = true := decide_eq_true c21
                                    clear c21
                                    by_cases c22 : x14_5 < ((rd_L2 t187 x11_3).length : Int)
                                    · rw [if_pos c22] at H
                                      have c22b0 : decide (x14_5 < ((rd_L2 t187 x11_3).length : Int)) = true := decide_eq_true c22
                                      clear c22
                                      by_cases c23 : 0 ≤ x14_5
                                      · rw [if_pos c23] at H
                                        have c23b0 : decide (0 ≤ x14_5) = true := decide_eq_true c23
                                        clear c23
                                        replace H := Option.bind_eq_some_iff.mp H
                                        obtain ⟨t197, A240, H⟩ := H
                                        replace H : (staddaref06_Moves.l4 k5 a0 l1 t183 x8_3 x9_2 t187 x11_3 t197 (wrap64 (x14_5 + 1))) = some r := H
                                        have A24 := Aside0.mk A240
                                        clear A240
                                        have H' := Aside0.mk H
                                        clear H
                                        have p194 : 0 ≤ (x11_3 : Int) := of_decide_eq_true (by first | (with_reducible assumption) | assumption)
                                        have q194 : x11_3 < (t187.length : Int) := of_decide_eq_true (by first | (with_reducible assumption) | assumption)
                                        obtain ⟨ad194, A194_0, c194_0, e194, hx194_0, hl194_0, hi194_0⟩ := at_L2 (Kd.N_reads' HO_10.out).2.2 x11_3 p194 q194
                                        cases e194
                                        obtain ⟨ce194, hce194, hMe194, hcc194⟩ := Kd.N_get HO_10.out [] x11_3 p194 (by first | exact q194 | exact of_decide_eq_true (by first | (with_reducible assumption) | assumption) | (have e_ := (Kd.N_reads' HO_10.out).1; omega))
                                        obtain ⟨ua194_0, uc194_0, rfl, ul194_0, ge194_0⟩ := Kd.FK_slice_open hMe194
                                        have hv194_0 := hcc194 0 _ rfl
                                        rw [Nat.add_zero, show ((Kd.slice 3 (Kd.int .i64))).sz = 1 from rfl, Nat.mul_one] at hv194_0
                                        replace hv194_0 := Option.some.inj (hv194_0.symm.trans hx194_0)
                                        injection hv194_0 with hva_ hvn_ hvc_
                                        rw [hva_] at ge194_0
                                        rw [hvc_] at ul194_0
                                        have HL194_0 := Aside0.mk (show Kd.V (Kd.int .i64) 3 _ w.heap.size _ _ (rd_L2 t187 x11_3) from Kd.V_mk ul194_0 ge194_0)
                                        clear hva_ hvn_ hvc_ ge194_0 ul194_0
                                        clear hcc194 hce194
                                        have HR194_0 := Aside0.mk hi194_0
                                        have HC194_0 := Aside0.mk hl194_0
                                        clear hi194_0 hl194_0
                                        replace p194 := eq_true p194
                                        replace q194 := eq_true q194
                                        have p195 : 0 ≤ (x11_3 : Int) := of_decide_eq_true (by first | (with_reducible assumption) | assumption)
                                        have q195 : x11_3 < (t187.length : Int) := of_decide_eq_true (by first | (with_reducible assumption) | assumption)
                                        obtain ⟨ad195, A195_0, c195_0, e195, hx195_0, hl195_0, hi195_0⟩ := at_L2 (Kd.N_reads' HO_10.out).2.2 x11_3 p195 q195
                                        obtain rfl : ad194 = ad195 := (by injection e195)
                                        obtain ⟨ce195, hce195, hMe195, hcc195⟩ := Kd.N_get HO_10.out [] x11_3 p195 (by first | exact q195 | exact of_decide_eq_true (by first | (with_reducible assumption) | assumption) | (have e_ := (Kd.N_reads' HO_10.out).1; omega))
                                        obtain ⟨ua195_0, uc195_0, rfl, ul195_0, ge195_0⟩ := Kd.FK_slice_open hMe195
                                        have hv195_0 := hcc195 0 _ rfl
                                        rw [Nat.add_zero, show ((Kd.slice 3 (Kd.int .i64))).sz = 1 from rfl, Nat.mul_one] at hv195_0
                                        replace hv195_0 := Option.some.inj (hv195_0.symm.trans hx195_0)
                                        injection hv195_0 with hva_ hvn_ hvc_
                                        rw [hva_] at ge195_0
                                        rw [hvc_] at ul195_0
                                        have HL195_0 := Aside0.mk (show Kd.V (Kd.int .i64) 3 _ w.heap.size _ _ (rd_L2 t187 x11_3) from Kd.V_mk ul195_0 ge195_0)
                                        clear hva_ hvn_ hvc_ ge195_0 ul195_0
                                        clear hcc195 hce195
                                        have HR195_0 := Aside0.mk hi195_0
                                        have HC195_0 := Aside0.mk hl195_0
                                        clear hi195_0 hl195_0
                                        replace p195 := eq_true p195
                                        replace q195 := eq_true q195
                                        have ea_ := Option.some.inj (hx194_0.symm.trans hx195_0)
                                        injection ea_ with ea_ en_ ec_
                                        subst ea_
                                        subst ec_
                                        clear en_
                                        have p196 : 0 ≤ (x14_5 : Int) := of_decide_eq_true (by first | (with_reducible assumption) | assumption)
                                        have q196 : x14_5 < ((rd_L2 t187 x11_3).length : Int) := of_decide_eq_true (by first | (with_reducible assumption) | assumption)
                                        obtain ⟨ad196, e196, hx196_0⟩ := Kd.at_int (by repeat (first | (with_reducible exact HR195_0.out) | (with_reducible refine Kd.C_alloc ?_ _) | (with_reducible refine Kd.C_drewN ?_ _) | (with_reducible refine Kd.C_drew ?_) | exact HR195_0.out)) x14_5 p196 q196
                                        cases e196
                                        replace p196 := eq_true p196
                                        replace q196 := eq_true q196
                                        obtain ⟨Ao25, co25, eo25⟩ := Kd.R_slice HO_12.out
                                        subst eo25
                                        go_wp2_with (first | ((with_reducible refine gate_callee (f := 27) rfl ?_); refine goesL_ (some 84) rfl rfl Tryz.func27 (by kernel_rfl) rfl #[.slice Ao25 x12_5.length co25, .int .i64 (rd (rd_L2 t187 x11_3) x14_5)] rfl (by (try simp only [List.map_toArray, List.map_cons, List.map_nil]); first | done | rfl | (simp only [List.length_drop, List.length_take]; rfl)) ?_; (with_reducible refine (staddaref06_put.calls k5 (fun k_ => some k_ = (.slice Ao25 x12_5.length co25 : Value).ownBlock) (.slice Ao25 x12_5.length co25) x12_5 (rd (rd_L2 t187 x11_3) x14_5) t197 w _ ?side1 ?side2 A24.out).mono ?_); (case side1 => repeat (first | (with_reducible first | exact HB.out | apply below_alloc | apply pw_below_drewN | apply below_drew1) | exact HB.out)); (case side2 => exact Kd.R_tight rfl HO_12.out); rintro e w26 ⟨v198, rfl, ho0, hb, hkp⟩; refine ⟨_, rfl, ?_⟩; have n0_ := Aside0.mk (Kd.R_mono (ok' := fun k_ => (w.heap.size ≤ k_) ∧ some k_ ≠ (v198 : Value).ownBlock) (Kd.R_keptB (HO_7.out) hkp (fun k_ hk_ hs_ => (hk_.2) hs_)) (fun k_ hk_ => ⟨hk_.1.1, fun e_ => Or.elim (ho0.1 k_ e_.symm) (fun hs_ => hk_.2.1 hs_) (fun hn_ => Nat.not_le.2 hk_.2.2 hn_)⟩)); have n1_ := Aside0.mk (Kd.N_mono (ok' := fun k_ => (w.heap.size ≤ k_) ∧ some k_ ≠ (v184 : Value).ownBlock ∧ some k_ ≠ (.slice (some ad194) t187.length co13 : Value).ownBlock ∧ some k_ ≠ (v198 : Value).ownBlock) (Kd.N_keptB (HO_8.out) hkp (fun k_ hk_ hs_ => (hk_.2.2.2) hs_)) (fun k_ hk_ => ⟨hk_.1.1, hk_.1.2.1, hk_.1.2.2.1, fun e_ => Or.elim (ho0.1 k_ e_.symm) (fun hs_ => hk_.2.1 hs_) (fun hn_ => Nat.not_le.2 hk_.2.2 hn_)⟩)); have n2_ := Aside0.mk (Kd.N_mono (ok' := fun k_ => (w.heap.size ≤ k_) ∧ some k_ ≠ (v184 : Value).ownBlock ∧ some k_ ≠ (u8 : Value).ownBlock ∧ some k_ ≠ (v198 : Value).ownBlock) (Kd.N_keptB (HO_10.out) hkp (fun k_ hk_ hs_ => (hk_.2.2.2) hs_)) (fun k_ hk_ => ⟨hk_.1.1, hk_.1.2.1, hk_.1.2.2.1, fun e_ => Or.elim (ho0.1 k_ e_.symm) (fun hs_ => hk_.2.1 hs_) (fun hn_ => Nat.not_le.2 hk_.2.2 hn_)⟩)); have n3_ := Aside0.mk (Kd.R_mono (ok' := fun k_ => (w.heap.size ≤ k_) ∧ some k_ ≠ (v184 : Value).ownBlock) ho0 (fun k_ hk_ => ⟨Or.elim hk_ (fun hs_ => (HO_12.out.1 k_ (hs_).symm).1) (fun hn_ => (Nat.le_trans (below_size (by repeat (first | (with_reducible first | exact HB.out | apply below_alloc | apply pw_below_drewN | apply below_drew1) | exact HB.out))) hn_)), Or.elim hk_ (fun hs_ => fun e_ => (((HO_7.out).1 k_ e_.symm).2) hs_) (fun hn_ => (Kd.fresh' (Kd.R_lt (by (with_reducible repeat (first | apply Kd.R_alloc | apply Kd.R_drewN | apply Kd.R_drew)); exact HO_7.out)) k_ hn_))⟩)); have n4_ := Aside0.mk (hb); clear HO_7; clear HO_8; clear HO_10; clear HB; clear HO_12; clear HL194_0; clear HL195_0; have HO_7 := n0_; have HO_8 := n1_; have HO_10 := n2_; have HO199 := n3_; have HB := n4_; clear n0_ n1_ n2_ n3_ n4_; (try clear hb); (try clear hkp); (try clear ho0)))
                                        go_roundg k5
                                        case measure => have := HK1.out; have := HK2.out; have := HK3.out; have := HK4.out; have := HK5.out; omega
                                        case rel => exact ⟨(t197), (wrap64 (x14_5 + 1)), (by first | rfl | (simp; done) | (simp [*]; done)), H', ⟨by have := HK1.out; have := HK2.out; have := HK3.out; have := HK4.out; have := HK5.out; omega⟩, ⟨by (with_reducible repeat (first | apply Kd.R_alloc | apply Kd.R_drewN | apply Kd.R_drew)); exact HO_7.out⟩, ⟨by (with_reducible repeat (first | apply Kd.N_alloc | apply Kd.N_drewN | apply Kd.N_drew)); exact HO_8.out⟩, ⟨by (with_reducible repeat (first | apply Kd.N_alloc | apply Kd.N_drewN | apply Kd.N_drew)); exact HO_10.out⟩, ⟨by (with_reducible repeat (first | apply Kd.R_alloc | apply Kd.R_drewN | apply Kd.R_drew)); exact HO199.out⟩, ⟨by repeat (first | (with_reducible first | exact HB.out | apply below_alloc | apply pw_below_drewN | apply below_drew1) | exact HB.out)⟩⟩
                                      · rw [if_neg c23] at H
                                        exact absurd H (by simp)
                                    · rw [if_neg c22] at H
                                      have c22b0 : decide (x14_5 < ((rd_L2 t187 x11_3).length : Int)) = false := decide_eq_false c22
                                      clear c22
                                      have H' := Aside0.mk H
                                      clear H
                                      have p194 : 0 ≤ (x11_3 : Int) := of_decide_eq_true (by first | (with_reducible assumption) | assumption)
                                      have q194 : x11_3 < (t187.length : Int) := of_decide_eq_true (by first | (with_reducible assumption) | assumption)
                                      obtain ⟨ad194, A194_0, c194_0, e194, hx194_0, hl194_0, hi194_0⟩ := at_L2 (Kd.N_reads' HO_10.out).2.2 x11_3 p194 q194
                                      cases e194
                                      obtain ⟨ce194, hce194, hMe194, hcc194⟩ := Kd.N_get HO_10.out [] x11_3 p194 (by first | exact q194 | exact of_decide_eq_true (by first | (with_reducible assumption) | assumption) | (have e_ := (Kd.N_reads' HO_10.out).1; omega))
                                      obtain ⟨ua194_0, uc194_0, rfl, ul194_0, ge194_0⟩ := Kd.FK_slice_open hMe194
                                      have hv194_0 := hcc194 0 _ rfl
                                      rw [Nat.add_zero, show ((Kd.slice 3 (Kd.int .i64))).sz = 1 from rfl, Nat.mul_one] at hv194_0
                                      replace hv194_0 := Option.some.inj (hv194_0.symm.trans hx194_0)
                                      injection hv194_0 with hva_ hvn_ hvc_
                                      rw [hva_] at ge194_0
                                      rw [hvc_] at ul194_0
                                      have HL194_0 := Aside0.mk (show Kd.V (Kd.int .i64) 3 _ w.heap.size _ _ (rd_L2 t187 x11_3) from Kd.V_mk ul194_0 ge194_0)
                                      clear hva_ hvn_ hvc_ ge194_0 ul194_0
                                      clear hcc194 hce194
                                      have HR194_0 := Aside0.mk hi194_0
                                      have HC194_0 := Aside0.mk hl194_0
                                      clear hi194_0 hl194_0
                                      replace p194 := eq_true p194
                                      replace q194 := eq_true q194
                                      go_wp2
                                      go_loopg [15, 16] k5 (fun kq v15 v16 w' => ∃ (x15_6 : Int) (x16_6 : Int), v15 = .int .i64 x15_6 ∧ v16 = .int .i64 x16_6 ∧ Aside0 (staddaref06_Moves.l5 kq a0 l1 t183 x8_3 x9_2 t187 x11_3 x12_5 x15_6 x16_6 = some r) ∧ Aside0 (kq ≤ k5) ∧ Aside0 (Kd.R (Kd.int .i64) 3 w' w.heap.size (fun k_ => (w.heap.size ≤ k_) ∧ some k_ ≠ (u12 : Value).ownBlock) v184 t183) ∧ Aside0 (Kd.N (Kd.slice 3 (Kd.int .i64)) 22 w' w.heap.size (fun k_ => (w.heap.size ≤ k_) ∧ some k_ ≠ (v184 : Value).ownBlock ∧ some k_ ≠ ((.slice (some ad194) t187.length co13) : Value).ownBlock ∧ some k_ ≠ (u12 : Value).ownBlock) u8 x8_3) ∧ Aside0 (Kd.N (Kd.slice 3 (Kd.int .i64)) 22 w' w.heap.size (fun k_ => (w.heap.size ≤ k_) ∧ some k_ ≠ (v184 : Value).ownBlock ∧ some k_ ≠ (u8 : Value).ownBlock ∧ some k_ ≠ (u12 : Value).ownBlock) (.slice (some ad194) t187.length co13) t187) ∧ Aside0 (Kd.R (Kd.int .i64) 3 w' w.heap.size (fun k_ => (w.heap.size ≤ k_) ∧ some k_ ≠ (v184 : Value).ownBlock) u12 x12_5) ∧ Aside0 (Kd.C (Kd.int .i64) w' A194_0 (rd_L2 t187 x11_3).length (rd_L2 t187 x11_3)) ∧ Aside0 (Below w.heap.size w w'))
                                      case atStart => exact ⟨(0), (0), (by first | rfl | (simp; done) | (simp [*]; done)), (by first | rfl | (simp; done) | (simp [*]; done)), H', ⟨Nat.le_refl _⟩, ⟨by (with_reducible repeat (first | apply Kd.R_alloc | apply Kd.R_drewN | apply Kd.R_drew)); exact HO_7.out⟩, ⟨by (with_reducible repeat (first | apply Kd.N_alloc | apply Kd.N_drewN | apply Kd.N_drew)); exact HO_8.out⟩, ⟨by (with_reducible repeat (first | apply Kd.N_alloc | apply Kd.N_drewN | apply Kd.N_drew)); exact HO_10.out⟩, ⟨by (with_reducible repeat (first | apply Kd.R_alloc | apply Kd.R_drewN | apply Kd.R_drew)); exact HO_12.out⟩, ⟨by repeat (first | (with_reducible exact HR194_0.out) | (with_reducible refine Kd.C_alloc ?_ _) | (with_reducible refine Kd.C_drewN ?_ _) | (with_reducible refine Kd.C_drew ?_) | exact HR194_0.out)⟩, ⟨by repeat (first | (with_reducible first | exact HB.out | apply below_alloc | apply pw_below_drewN | apply below_drew1) | exact HB.out)⟩⟩
                                      case round =>
                                        clear H'
                                        try clear c1
                                        try clear p1
                                        try clear q1
                                        try clear hx1
                                        try clear c2
                                        try clear p2
                                        try clear c3
                                        try clear c3b0
                                        try clear c4
                                        try clear c4b0
                                        try clear c6
                                        try clear p6
                                        try clear c8
                                        try clear c8b0
                                        try clear c9
                                        try clear c9b0
                                        try clear c12
                                        try clear c12b0
                                        try clear c14
                                        try clear c14b0
                                        try clear c15
                                        try clear c15b0
                                        try clear c15b1
                                        try clear c16
                                        try clear c16b0
                                        try clear p18
                                        try clear q18
                                        try clear hx18
                                        try clear c19
                                        try clear p19
                                        try clear q19
                                        try clear hx19
                                        try clear c20
                                        try clear c20b0
                                        try clear c21
                                        try clear c21b0
                                        try clear c22
                                        try clear c22b0
                                        try clear c23
                                        try clear c23b0
                                        try clear c25
                                        try clear c26
                                        try clear hx182_0
                                        try clear hx186_0
                                        try clear hx190_0
                                        try clear hx194_0
                                        try clear hx195_0
                                        try clear hx196_0
                                        try clear p1
                                        try clear p18
                                        try clear p182
                                        try clear p186
                                        try clear p19
                                        try clear p190
                                        try clear p194
                                        try clear p195
                                        try clear p196
                                        try clear p2
                                        try clear p6
                                        try clear q1
                                        try clear q18
                                        try clear q182
                                        try clear q186
                                        try clear q19
                                        try clear q190
                                        try clear q194
                                        try clear q195
                                        try clear q196
                                        obtain ⟨x15_6, x16_6, rfl, rfl, HA, HK6, HO_7, HO_8, HO_10, HO_12, HR194_0, HB⟩ := hrel
                                        cases gk with
                                        | zero => exact absurd HA.out (by simp [staddaref06_Moves.l5])
                                        | succ k6 =>
                                          have H := HA.out
                                          clear HA
                                          simp only [staddaref06_Moves.l5] at H
                                          by_cases c27 : x16_6 < (x12_5.length : Int)
                                          · rw [if_pos c27] at H
                                            have c27b0 : decide (x16_6 < (x12_5.length : Int)) = true := decide_eq_true c27
                                            clear c27
                                            by_cases c28 : 0 ≤ x16_6
                                            · rw [if_pos c28] at H
                                              have c28b0 : decide (0 ≤ x16_6) = true := decide_eq_true c28
                                              clear c28
                                              by_cases c29 : 0 ≤ (rd x12_5 x16_6)
                                              · rw [if_pos c29] at H
                                                have c29b0 : decide (0 ≤ (rd x12_5 x16_6)) = true := decide_eq_true c29
                                                clear c29
                                                by_cases c30 : (rd x12_5 x16_6) < (t183.length : Int)
                                                · rw [if_pos c30] at H
                                                  have c30b0 : decide ((rd x12_5 x16_6) < (t183.length : Int)) = true := decide_eq_true c30
                                                  clear c30
                                                  have H' := Aside0.mk H
                                                  clear H
                                                  obtain ⟨Ao31, co31, eo31⟩ := Kd.R_slice HO_12.out
                                                  subst eo31
                                                  have p200 : 0 ≤ (x16_6 : Int) := of_decide_eq_true (by first | (with_reducible assumption) | assumption)
                                                  have q200 : x16_6 < (x12_5.length : Int) := of_decide_eq_true (by first | (with_reducible assumption) | assumption)
                                                  obtain ⟨ad200, e200, hx200_0⟩ := Kd.at_int (Kd.R_reads' HO_12.out).2.2 x16_6 p200 q200
                                                  cases e200
                                                  replace p200 := eq_true p200
                                                  replace q200 := eq_true q200
                                                  obtain ⟨Ao32, co32, eo32⟩ := Kd.R_slice HO_7.out
                                                  subst eo32
                                                  have p201 : 0 ≤ ((rd x12_5 x16_6) : Int) := of_decide_eq_true (by first | (with_reducible assumption) | assumption)
                                                  have q201 : (rd x12_5 x16_6) < (t183.length : Int) := of_decide_eq_true (by first | (with_reducible assumption) | assumption)
                                                  obtain ⟨ad201, e201, hx201_0⟩ := Kd.at_int (Kd.R_reads' HO_7.out).2.2 (rd x12_5 x16_6) p201 q201
                                                  cases e201
                                                  replace p201 := eq_true p201
                                                  replace q201 := eq_true q201
                                                  go_wp2
                                                  go_roundg k6
                                                  case measure => have := HK1.out; have := HK2.out; have := HK3.out; have := HK4.out; have := HK5.out; have := HK6.out; omega
                                                  case rel => exact ⟨(Go.bits .xor .i64 x15_6 (rd t183 (rd x12_5 x16_6))), (wrap64 (x16_6 + 1)), (by first | rfl | (simp; done) | (simp [*]; done)), (by first | rfl | (simp; done) | (simp [*]; done)), H', ⟨by have := HK1.out; have := HK2.out; have := HK3.out; have := HK4.out; have := HK5.out; have := HK6.out; omega⟩, ⟨by (with_reducible repeat (first | apply Kd.R_alloc | apply Kd.R_drewN | apply Kd.R_drew)); exact HO_7.out⟩, ⟨by (with_reducible repeat (first | apply Kd.N_alloc | apply Kd.N_drewN | apply Kd.N_drew)); exact HO_8.out⟩, ⟨by (with_reducible repeat (first | apply Kd.N_alloc | apply Kd.N_drewN | apply Kd.N_drew)); exact HO_10.out⟩, ⟨by (with_reducible repeat (first | apply Kd.R_alloc | apply Kd.R_drewN | apply Kd.R_drew)); exact HO_12.out⟩, ⟨by repeat (first | (with_reducible exact HR194_0.out) | (with_reducible refine Kd.C_alloc ?_ _) | (with_reducible refine Kd.C_drewN ?_ _) | (with_reducible refine Kd.C_drew ?_) | exact HR194_0.out)⟩, ⟨by repeat (first | (with_reducible first | exact HB.out | apply below_alloc | apply pw_below_drewN | apply below_drew1) | exact HB.out)⟩⟩
                                                · rw [if_neg c30] at H
                                                  exact absurd H (by simp)
                                              · rw [if_neg c29] at H
                                                exact absurd H (by simp)
                                            · rw [if_neg c28] at H
                                              exact absurd H (by simp)
                                          · rw [if_neg c27] at H
                                            have c27b0 : decide (x16_6 < (x12_5.length : Int)) = false := decide_eq_false c27
                                            clear c27
                                            have H' := Aside0.mk H
                                            clear H
                                            obtain ⟨Ao33, co33, eo33⟩ := Kd.R_slice HO_12.out
                                            subst eo33
                                            go_wp2
                                            go_loopg [17] k6 (fun kq v17 w' => ∃ (x17_7 : Int), v17 = .int .i64 x17_7 ∧ Aside0 (staddaref06_Moves.l6 kq a0 l1 t183 x8_3 x9_2 t187 x11_3 x12_5 x15_6 x17_7 = some r) ∧ Aside0 (kq ≤ k6) ∧ Aside0 (Kd.R (Kd.int .i64) 3 w' w.heap.size (fun k_ => (w.heap.size ≤ k_) ∧ some k_ ≠ ((.slice Ao33 x12_5.length co33) : Value).ownBlock) v184 t183) ∧ Aside0 (Kd.N (Kd.slice 3 (Kd.int .i64)) 22 w' w.heap.size (fun k_ => (w.heap.size ≤ k_) ∧ some k_ ≠ (v184 : Value).ownBlock ∧ some k_ ≠ ((.slice (some ad194) t187.length co13) : Value).ownBlock ∧ some k_ ≠ ((.slice Ao33 x12_5.length co33) : Value).ownBlock) u8 x8_3) ∧ Aside0 (Kd.N (Kd.slice 3 (Kd.int .i64)) 22 w' w.heap.size (fun k_ => (w.heap.size ≤ k_) ∧ some k_ ≠ (v184 : Value).ownBlock ∧ some k_ ≠ (u8 : Value).ownBlock ∧ some k_ ≠ ((.slice Ao33 x12_5.length co33) : Value).ownBlock) (.slice (some ad194) t187.length co13) t187) ∧ Aside0 (Kd.R (Kd.int .i64) 3 w' w.heap.size (fun k_ => (w.heap.size ≤ k_) ∧ some k_ ≠ (v184 : Value).ownBlock) (.slice Ao33 x12_5.length co33) x12_5) ∧ Aside0 (Kd.C (Kd.int .i64) w' A194_0 (rd_L2 t187 x11_3).length (rd_L2 t187 x11_3)) ∧ Aside0 (Below w.heap.size w w'))
                                            case atStart => exact ⟨(0), (by first | rfl | (simp; done) | (simp [*]; done)), H', ⟨Nat.le_refl _⟩, ⟨by (with_reducible repeat (first | apply Kd.R_alloc | apply Kd.R_drewN | apply Kd.R_drew)); exact HO_7.out⟩, ⟨by (with_reducible repeat (first | apply Kd.N_alloc | apply Kd.N_drewN | apply Kd.N_drew)); exact HO_8.out⟩, ⟨by (with_reducible repeat (first | apply Kd.N_alloc | apply Kd.N_drewN | apply Kd.N_drew)); exact HO_10.out⟩, ⟨by (with_reducible repeat (first | apply Kd.R_alloc | apply Kd.R_drewN | apply Kd.R_drew)); exact HO_12.out⟩, ⟨by repeat (first | (with_reducible exact HR194_0.out) | (with_reducible refine Kd.C_alloc ?_ _) | (with_reducible refine Kd.C_drewN ?_ _) | (with_reducible refine Kd.C_drew ?_) | exact HR194_0.out)⟩, ⟨by repeat (first | (with_reducible first | exact HB.out | apply below_alloc | apply pw_below_drewN | apply below_drew1) | exact HB.out)⟩⟩
                                            case round =>
                                              clear H'
                                              try clear c1
                                              try clear p1
                                              try clear q1
                                              try clear hx1
                                              try clear c2
                                              try clear p2
                                              try clear q2
                                              try clear hx2
                                              try clear c3
                                              try clear c3b0
                                              try clear c4
                                              try clear c4b0
                                              try clear c6
                                              try clear p6
                                              try clear c8
                                              try clear c8b0
                                              try clear c9
                                              try clear c9b0
                                              try clear c12
                                              try clear c12b0
                                              try clear c14
                                              try clear c14b0
                                              try clear c15
                                              try clear c15b0
                                              try clear c15b1
                                              try clear c16
                                              try clear c16b0
                                              try clear p18
                                              try clear q18
                                              try clear hx18
                                              try clear c19
                                              try clear p19
                                              try clear q19
                                              try clear hx19
                                              try clear c20
                                              try clear c20b0
                                              try clear p20
                                              try clear q20
                                              try clear hx20
                                              try clear c21
                                              try clear c21b0
                                              try clear c22
                                              try clear c22b0
                                              try clear c23
                                              try clear c23b0
                                              try clear c25
                                              try clear c26
                                              try clear c27
                                              try clear c27b0
                                              try clear c28
                                              try clear c28b0
                                              try clear c29
                                              try clear c29b0
                                              try clear c30
                                              try clear c30b0
                                              try clear hx182_0
                                              try clear hx186_0
                                              try clear hx190_0
                                              try clear hx194_0
                                              try clear hx195_0
                                              try clear hx196_0
                                              try clear hx200_0
                                              try clear hx201_0
                                              try clear p1
                                              try clear p18
                                              try clear p182
                                              try clear p186
                                              try clear p19
                                              try clear p190
                                              try clear p194
                                              try clear p195
                                              try clear p196
                                              try clear p2
                                              try clear p200
                                              try clear p201
                                              try clear p6
                                              try clear q1
                                              try clear q18
                                              try clear q182
                                              try clear q186
                                              try clear q19
                                              try clear q190
                                              try clear q194
                                              try clear q195
                                              try clear q196
                                              try clear q200
                                              try clear q201
                                              obtain ⟨x17_7, rfl, HA, HK7, HO_7, HO_8, HO_10, HO_12, HR194_0, HB⟩ := hrel
                                              cases gk with
                                              | zero => exact absurd HA.out (by simp [staddaref06_Moves.l6])
                                              | succ k7 =>
                                                have H := HA.out
                                                clear HA
                                                simp only [staddaref06_Moves.l6] at H
                                                by_cases c34 : x17_7 < (x8_3.length : Int)
                                                · rw [if_pos c34] at H
                                                  have c34b0 : decide (x17_7 < (x8_3.length : Int)) = true := decide_eq_true c34
                                                  clear c34
                                                  by_cases c35 : 0 ≤ x17_7
                                                  · rw [if_pos c35] at H
                                                    have c35b0 : decide (0 ≤ x17_7) = true := decide_eq_true c35
                                                    clear c35
                                                    replace H := Option.bind_eq_some_iff.mp H
                                                    obtain ⟨t203, A360, H⟩ := H
                                                    replace H : (if t203 = true then (staddaref06_Moves.l6 k7 a0 l1 t183 x8_3 x9_2 t187 x11_3 x12_5 x15_6 (wrap64 (x17_7 + 1))) else (if x15_6 = 0 then ((staddaref06_before.f k7 x12_5 (rd_L2 x8_3 x17_7)).bind fun t205 => (if t205 = true then (if x17_7 ≤ (x8_3.length : Int) then ((some (x8_3.take (x17_7 : Int).toNat : List (List Int))).bind fun y206 => (if ([] : List (List Int)).length + y206.length < 5864062014805 then ((some (([] : List (List Int)) ++ y206 : List (List Int))).bind fun y211 => (if y211.length < 5864062014805 then ((some (y211 ++ [x12_5] : List (List Int))).bind fun y214 => ((some (x8_3.drop (x17_7 : Int).toNat : List (List Int))).bind fun y217 => (if y214.length + y217.length < 5864062014805 then (staddaref06_Moves.l2 k7 a0 l1 t183 (y214 ++ y217) x9_2 t187 (wrap64 (x11_3 + 1))) else (none)))) else (none))) else (none))) else (none)) else (staddaref06_Moves.l2 k7 a0 l1 t183 x8_3 x9_2 t187 (wrap64 (x11_3 + 1))))) else (staddaref06_Moves.l2 k7 a0 l1 t183 x8_3 x9_2 t187 (wrap64 (x11_3 + 1))))) = some r := H
                                                    have A36 := Aside0.mk A360
                                                    clear A360
                                                    by_cases c37 : t203 = true
                                                    · subst c37
                                                      have H1 : (staddaref06_Moves.l6 k7 a0 l1 t183 x8_3 x9_2 t187 x11_3 x12_5 x15_6 (wrap64 (x17_7 + 1))) = some r := by rw [if_pos rfl] at H; exact H
                                                      clear H
                                                      have H := H1
                                                      clear H1
                                                      have H' := Aside0.mk H
                                                      clear H
                                                      obtain ⟨Ao38, co38, eo38⟩ := Kd.N_slice HO_8.out
                                                      subst eo38
                                                      have p202 : 0 ≤ (x17_7 : Int) := of_decide_eq_true (by first | (with_reducible assumption) | assumption)
                                                      have q202 : x17_7 < (x8_3.length : Int) := of_decide_eq_true (by first | (with_reducible assumption) | assumption)
                                                      obtain ⟨ad202, A202_0, c202_0, e202, hx202_0, hl202_0, hi202_0⟩ := at_L2 (Kd.N_reads' HO_8.out).2.2 x17_7 p202 q202
                                                      cases e202
                                                      obtain ⟨ce202, hce202, hMe202, hcc202⟩ := Kd.N_get HO_8.out [] x17_7 p202 (by first | exact q202 | exact of_decide_eq_true (by first | (with_reducible assumption) | assumption) | (have e_ := (Kd.N_reads' HO_8.out).1; omega))
                                                      obtain ⟨ua202_0, uc202_0, rfl, ul202_0, ge202_0⟩ := Kd.FK_slice_open hMe202
                                                      have hv202_0 := hcc202 0 _ rfl
                                                      rw [Nat.add_zero, show ((Kd.slice 3 (Kd.int .i64))).sz = 1 from rfl, Nat.mul_one] at hv202_0
                                                      replace hv202_0 := Option.some.inj (hv202_0.symm.trans hx202_0)
                                                      injection hv202_0 with hva_ hvn_ hvc_
                                                      rw [hva_] at ge202_0
                                                      rw [hvc_] at ul202_0
                                                      have HL202_0 := Aside0.mk (show Kd.V (Kd.int .i64) 3 _ w.heap.size _ _ (rd_L2 x8_3 x17_7) from Kd.V_mk ul202_0 ge202_0)
                                                      clear hva_ hvn_ hvc_ ge202_0 ul202_0
                                                      clear hcc202 hce202
                                                      have HR202_0 := Aside0.mk hi202_0
                                                      have HC202_0 := Aside0.mk hl202_0
                                                      clear hi202_0 hl202_0
                                                      replace p202 := eq_true p202
                                                      replace q202 := eq_true q202
                                                      go_wp2_with (first | (go_at_call 28; (with_reducible refine (staddaref06_before.calls k7 _ _ (rd_L2 x8_3 x17_7) _ _ x12_5 true _ ?side1 ?side2 ?side3 ?side4 A36.out).mono ?_); (case side1 => repeat (first | exact (by repeat (first | (with_reducible exact HR202_0.out) | (with_reducible refine Kd.C_alloc ?_ _) | (with_reducible refine Kd.C_drewN ?_ _) | (with_reducible refine Kd.C_drew ?_) | exact HR202_0.out)) | (with_reducible refine Kd.C_alloc ?_ _) | (with_reducible refine Kd.C_drewN ?_ _) | (with_reducible refine Kd.C_drew ?_))); (case side2 => exact HC202_0.out); (case side3 => repeat (first | exact (Kd.R_reads' HO_12.out).2.2 | (with_reducible refine Kd.C_alloc ?_ _) | (with_reducible refine Kd.C_drewN ?_ _) | (with_reducible refine Kd.C_drew ?_))); (case side4 => exact (Kd.R_reads' HO_12.out).2.1); rintro e w' ⟨rfl, ⟨nd, rfl⟩⟩))
                                                      go_roundg k7
                                                      case measure => have := HK1.out; have := HK2.out; have := HK3.out; have := HK4.out; have := HK5.out; have := HK6.out; have := HK7.out; omega
                                                      case rel => exact ⟨(wrap64 (x17_7 + 1)), (by first | rfl | (simp; done) | (simp [*]; done)), H', ⟨by have := HK1.out; have := HK2.out; have := HK3.out; have := HK4.out; have := HK5.out; have := HK6.out; have := HK7.out; omega⟩, ⟨by (with_reducible repeat (first | apply Kd.R_alloc | apply Kd.R_drewN | apply Kd.R_drew)); exact HO_7.out⟩, ⟨by (with_reducible repeat (first | apply Kd.N_alloc | apply Kd.N_drewN | apply Kd.N_drew)); exact HO_8.out⟩, ⟨by (with_reducible repeat (first | apply Kd.N_alloc | apply Kd.N_drewN | apply Kd.N_drew)); exact HO_10.out⟩, ⟨by (with_reducible repeat (first | apply Kd.R_alloc | apply Kd.R_drewN | apply Kd.R_drew)); exact HO_12.out⟩, ⟨by repeat (first | (with_reducible exact HR194_0.out) | (with_reducible refine Kd.C_alloc ?_ _) | (with_reducible refine Kd.C_drewN ?_ _) | (with_reducible refine Kd.C_drew ?_) | exact HR194_0.out)⟩, ⟨by repeat (first | (with_reducible first | exact HB.out | apply below_alloc | apply pw_below_drewN | apply below_drew1) | exact HB.out)⟩⟩
                                                    · replace c37 := Bool.eq_false_iff.mpr c37
                                                      subst c37
                                                      have H1 : (if x15_6 = 0 then ((staddaref06_before.f k7 x12_5 (rd_L2 x8_3 x17_7)).bind fun t205 => (if t205 = true then (if x17_7 ≤ (x8_3.length : Int) then ((some (x8_3.take (x17_7 : Int).toNat : List (List Int))).bind fun y206 => (if ([] : List (List Int)).length + y206.length < 5864062014805 then ((some (([] : List (List Int)) ++ y206 : List (List Int))).bind fun y211 => (if y211.length < 5864062014805 then ((some (y211 ++ [x12_5] : List (List Int))).bind fun y214 => ((some (x8_3.drop (x17_7 : Int).toNat : List (List Int))).bind fun y217 => (if y214.length + y217.length < 5864062014805 then (staddaref06_Moves.l2 k7 a0 l1 t183 (y214 ++ y217) x9_2 t187 (wrap64 (x11_3 + 1))) else (none)))) else (none))) else (none))) else (none)) else (staddaref06_Moves.l2 k7 a0 l1 t183 x8_3 x9_2 t187 (wrap64 (x11_3 + 1))))) else (staddaref06_Moves.l2 k7 a0 l1 t183 x8_3 x9_2 t187 (wrap64 (x11_3 + 1)))) = some r := by rw [if_neg (show ¬ (false = true) by decide)] at H; exact H
                                                      clear H
                                                      have H := H1
                                                      clear H1
                                                      by_cases c39 : x15_6 = 0
                                                      · rw [if_pos c39] at H
                                                        have c39b0 : (x15_6 == 0) = true := beq_iff_eq.mpr c39
                                                        have c39b1 : (x15_6 != 0) = false := bne_eq_false_iff_eq.mpr c39
                                                        clear c39
                                                        replace H := Option.bind_eq_some_iff.mp H
                                                        obtain ⟨t205, A400, H⟩ := H
                                                        replace H : (if t205 = true then (if x17_7 ≤ (x8_3.length : Int) then ((some (x8_3.take (x17_7 : Int).toNat : List (List Int))).bind fun y206 => (if ([] : List (List Int)).length + y206.length < 5864062014805 then ((some (([] : List (List Int)) ++ y206 : List (List Int))).bind fun y211 => (if y211.length < 5864062014805 then ((some (y211 ++ [x12_5] : List (List Int))).bind fun y214 => ((some (x8_3.drop (x17_7 : Int).toNat : List (List Int))).bind fun y217 => (if y214.length + y217.length < 5864062014805 then (staddaref06_Moves.l2 k7 a0 l1 t183 (y214 ++ y217) x9_2 t187 (wrap64 (x11_3 + 1))) else (none)))) else (none))) else (none))) else (none)) else (staddaref06_Moves.l2 k7 a0 l1 t183 x8_3 x9_2 t187 (wrap64 (x11_3 + 1)))) = some r := H
                                                        have A40 := Aside0.mk A400
                                                        clear A400
                                                        by_cases c41 : t205 = true
                                                        · subst c41
                                                          have H1 : (if x17_7 ≤ (x8_3.length : Int) then ((some (x8_3.take (x17_7 : Int).toNat : List (List Int))).bind fun y206 => (if ([] : List (List Int)).length + y206.length < 5864062014805 then ((some (([] : List (List Int)) ++ y206 : List (List Int))).bind fun y211 => (if y211.length < 5864062014805 then ((some (y211 ++ [x12_5] : List (List Int))).bind fun y214 => ((some (x8_3.drop (x17_7 : Int).toNat : List (List Int))).bind fun y217 => (if y214.length + y217.length < 5864062014805 then (staddaref06_Moves.l2 k7 a0 l1 t183 (y214 ++ y217) x9_2 t187 (wrap64 (x11_3 + 1))) else (none)))) else (none))) else (none))) else (none)) = some r := by rw [if_pos rfl] at H; exact H
                                                          clear H
                                                          have H := H1
                                                          clear H1
                                                          have c42b0 := eq_true (of_decide_eq_true (by first | (with_reducible assumption) | assumption) : 0 ≤ x17_7)
                                                          by_cases c43 : x17_7 ≤ (x8_3.length : Int)
                                                          · rw [if_pos c43] at H
                                                            have c43b0 := eq_true c43
                                                            have c43b1 : decide (x17_7 ≤ (x8_3.length : Int)) = true := decide_eq_true c43
                                                            clear c43
                                                            obtain ⟨y206, hy206⟩ : ∃ y_ : List (List Int), y_ = (x8_3.take (x17_7 : Int).toNat) := ⟨_, rfl⟩
                                                            replace H : (if ([] : List (List Int)).length + y206.length < 5864062014805 then ((some (([] : List (List Int)) ++ y206 : List (List Int))).bind fun y211 => (if y211.length < 5864062014805 then ((some (y211 ++ [x12_5] : List (List Int))).bind fun y214 => ((some (x8_3.drop (x17_7 : Int).toNat : List (List Int))).bind fun y217 => (if y214.length + y217.length < 5864062014805 then (staddaref06_Moves.l2 k7 a0 l1 t183 (y214 ++ y217) x9_2 t187 (wrap64 (x11_3 + 1))) else (none)))) else (none))) else (none)) = some r := by first | (rw [hy206]; with_reducible exact H) | (have H2_ := (Option.bind_some _ _).symm.trans H; rw [hy206]; with_reducible exact H2_) | (have H2_ := (Option.bind_some _ _).symm.trans H; with_reducible exact H2_) | with_reducible exact H | (rw [hy206]; exact H) | exact H
                                                            have Ny206 := Aside0.mk hy206
                                                            clear hy206
                                                            by_cases c44 : ([] : List (List Int)).length + y206.length < 5864062014805
                                                            · rw [if_pos c44] at H
                                                              have LMc44 := Aside0.mk c44
                                                              clear c44
                                                              obtain ⟨y211, hy211⟩ : ∃ y_ : List (List Int), y_ = (([] : List (List Int)) ++ y206) := ⟨_, rfl⟩
                                                              replace H : (if y211.length < 5864062014805 then ((some (y211 ++ [x12_5] : List (List Int))).bind fun y214 => ((some (x8_3.drop (x17_7 : Int).toNat : List (List Int))).bind fun y217 => (if y214.length + y217.length < 5864062014805 then (staddaref06_Moves.l2 k7 a0 l1 t183 (y214 ++ y217) x9_2 t187 (wrap64 (x11_3 + 1))) else (none)))) else (none)) = some r := by first | (rw [hy211]; with_reducible exact H) | (have H2_ := (Option.bind_some _ _).symm.trans H; rw [hy211]; with_reducible exact H2_) | (have H2_ := (Option.bind_some _ _).symm.trans H; with_reducible exact H2_) | with_reducible exact H | (rw [hy211]; exact H) | exact H
                                                              have Ny211 := Aside0.mk hy211
                                                              clear hy211
                                                              by_cases c45 : y211.length < 5864062014805
                                                              · rw [if_pos c45] at H
                                                                have LMc45 := Aside0.mk c45
                                                                clear c45
                                                                obtain ⟨y214, hy214⟩ : ∃ y_ : List (List Int), y_ = (y211 ++ [x12_5]) := ⟨_, rfl⟩
                                                                replace H : ((some (x8_3.drop (x17_7 : Int).toNat : List (List Int))).bind fun y217 => (if y214.length + y217.length < 5864062014805 then (staddaref06_Moves.l2 k7 a0 l1 t183 (y214 ++ y217) x9_2 t187 (wrap64 (x11_3 + 1))) else (none))) = some r := by first | (rw [hy214]; with_reducible exact H) | (have H2_ := (Option.bind_some _ _).symm.trans H; rw [hy214]; with_reducible exact H2_) | (have H2_ := (Option.bind_some _ _).symm.trans H; with_reducible exact H2_) | with_reducible exact H | (rw [hy214]; exact H) | exact H
                                                                have Ny214 := Aside0.mk hy214
                                                                clear hy214
                                                                have c46b0 := eq_true (of_decide_eq_true (by first | (with_reducible assumption) | assumption) : 0 ≤ x17_7)
                                                                have c47b0 := eq_true (of_decide_eq_true (by first | (with_reducible assumption) | assumption) : x17_7 ≤ (x8_3.length : Int))
                                                                obtain ⟨y217, hy217⟩ : ∃ y_ : List (List Int), y_ = (x8_3.drop (x17_7 : Int).toNat) := ⟨_, rfl⟩
                                                                replace H : (if y214.length + y217.length < 5864062014805 then (staddaref06_Moves.l2 k7 a0 l1 t183 (y214 ++ y217) x9_2 t187 (wrap64 (x11_3 + 1))) else (none)) = some r := by first | (rw [hy217]; with_reducible exact H) | (have H2_ := (Option.bind_some _ _).symm.trans H; rw [hy217]; with_reducible exact H2_) | (have H2_ := (Option.bind_some _ _).symm.trans H; with_reducible exact H2_) | with_reducible exact H | (rw [hy217]; exact H) | exact H
                                                                have Ny217 := Aside0.mk hy217
                                                                clear hy217
                                                                by_cases c48 : y214.length + y217.length < 5864062014805
                                                                · rw [if_pos c48] at H
                                                                  have LMc48 := Aside0.mk c48
                                                                  clear c48
                                                                  obtain ⟨y222, hy222⟩ : ∃ y_ : List (List Int), y_ = (y214 ++ y217) := ⟨_, rfl⟩
                                                                  replace H : (staddaref06_Moves.l2 k7 a0 l1 t183 y222 x9_2 t187 (wrap64 (x11_3 + 1))) = some r := by first | (rw [hy222]; with_reducible exact H) | (have H2_ := (Option.bind_some _ _).symm.trans H; rw [hy222]; with_reducible exact H2_) | (have H2_ := (Option.bind_some _ _).symm.trans H; with_reducible exact H2_) | with_reducible exact H | (rw [hy222]; exact H) | exact H
                                                                  have Ny222 := Aside0.mk hy222
                                                                  clear hy222
                                                                  have H' := Aside0.mk H
                                                                  clear H
                                                                  obtain ⟨Ao49, co49, eo49⟩ := Kd.N_slice HO_8.out
                                                                  subst eo49
                                                                  have p202 : 0 ≤ (x17_7 : Int) := of_decide_eq_true (by first | (with_reducible assumption) | assumption)
                                                                  have q202 : x17_7 < (x8_3.length : Int) := of_decide_eq_true (by first | (with_reducible assumption) | assumption)
                                                                  obtain ⟨ad202, A202_0, c202_0, e202, hx202_0, hl202_0, hi202_0⟩ := at_L2 (Kd.N_reads' HO_8.out).2.2 x17_7 p202 q202
                                                                  cases e202
                                                                  obtain ⟨ce202, hce202, hMe202, hcc202⟩ := Kd.N_get HO_8.out [] x17_7 p202 (by first | exact q202 | exact of_decide_eq_true (by first | (with_reducible assumption) | assumption) | (have e_ := (Kd.N_reads' HO_8.out).1; omega))
                                                                  obtain ⟨ua202_0, uc202_0, rfl, ul202_0, ge202_0⟩ := Kd.FK_slice_open hMe202
                                                                  have hv202_0 := hcc202 0 _ rfl
                                                                  rw [Nat.add_zero, show ((Kd.slice 3 (Kd.int .i64))).sz = 1 from rfl, Nat.mul_one] at hv202_0
                                                                  replace hv202_0 := Option.some.inj (hv202_0.symm.trans hx202_0)
                                                                  injection hv202_0 with hva_ hvn_ hvc_
                                                                  rw [hva_] at ge202_0
                                                                  rw [hvc_] at ul202_0
                                                                  have HL202_0 := Aside0.mk (show Kd.V (Kd.int .i64) 3 _ w.heap.size _ _ (rd_L2 x8_3 x17_7) from Kd.V_mk ul202_0 ge202_0)
                                                                  clear hva_ hvn_ hvc_ ge202_0 ul202_0
                                                                  clear hcc202 hce202
                                                                  have HR202_0 := Aside0.mk hi202_0
                                                                  have HC202_0 := Aside0.mk hl202_0
                                                                  clear hi202_0 hl202_0
                                                                  replace p202 := eq_true p202
                                                                  replace q202 := eq_true q202
                                                                  go_wp2_with (first | (go_at_call 28; (with_reducible refine (staddaref06_before.calls k7 _ _ (rd_L2 x8_3 x17_7) _ _ x12_5 false _ ?side1 ?side2 ?side3 ?side4 A36.out).mono ?_); (case side1 => repeat (first | exact (by repeat (first | (with_reducible exact HR202_0.out) | (with_reducible refine Kd.C_alloc ?_ _) | (with_reducible refine Kd.C_drewN ?_ _) | (with_reducible refine Kd.C_drew ?_) | exact HR202_0.out)) | (with_reducible refine Kd.C_alloc ?_ _) | (with_reducible refine Kd.C_drewN ?_ _) | (with_reducible refine Kd.C_drew ?_))); (case side2 => exact HC202_0.out); (case side3 => repeat (first | exact (Kd.R_reads' HO_12.out).2.2 | (with_reducible refine Kd.C_alloc ?_ _) | (with_reducible refine Kd.C_drewN ?_ _) | (with_reducible refine Kd.C_drew ?_))); (case side4 => exact (Kd.R_reads' HO_12.out).2.1); rintro e w' ⟨rfl, ⟨nd, rfl⟩⟩; have p204 : 0 ≤ (x17_7 : Int) := of_decide_eq_true (by first | (with_reducible assumption) | assumption); have q204 : x17_7 < (x8_3.length : Int) := of_decide_eq_true (by first | (with_reducible assumption) | assumption); obtain ⟨ad204, A204_0, c204_0, e204, hx204_0, hl204_0, hi204_0⟩ := at_L2 (Kd.N_reads' HO_8.out).2.2 x17_7 p204 q204; obtain rfl : ad202 = ad204 := (by injection e204); obtain ⟨ce204, hce204, hMe204, hcc204⟩ := Kd.N_get HO_8.out [] x17_7 p204 (by first | exact q204 | exact of_decide_eq_true (by first | (with_reducible assumption) | assumption) | (have e_ := (Kd.N_reads' HO_8.out).1; omega)); obtain ⟨ua204_0, uc204_0, rfl, ul204_0, ge204_0⟩ := Kd.FK_slice_open hMe204; have hv204_0 := hcc204 0 _ rfl; rw [Nat.add_zero, show ((Kd.slice 3 (Kd.int .i64))).sz = 1 from rfl, Nat.mul_one] at hv204_0; replace hv204_0 := Option.some.inj (hv204_0.symm.trans hx204_0); injection hv204_0 with hva_ hvn_ hvc_; rw [hva_] at ge204_0; rw [hvc_] at ul204_0; have HL204_0 := Aside0.mk (show Kd.V (Kd.int .i64) 3 _ w.heap.size _ _ (rd_L2 x8_3 x17_7) from Kd.V_mk ul204_0 ge204_0); clear hva_ hvn_ hvc_ ge204_0 ul204_0; clear hcc204 hce204; have HR204_0 := Aside0.mk hi204_0; have HC204_0 := Aside0.mk hl204_0; clear hi204_0 hl204_0; replace p204 := eq_true p204; replace q204 := eq_true q204; have ea_ := Option.some.inj (hx202_0.symm.trans hx204_0); injection ea_ with ea_ en_ ec_; subst ea_; subst ec_; clear en_) | (go_at_call 28; (with_reducible refine (staddaref06_before.calls k7 _ _ x12_5 _ _ (rd_L2 x8_3 x17_7) true _ ?side1 ?side2 ?side3 ?side4 A40.out).mono ?_); (case side1 => repeat (first | exact (Kd.R_reads' HO_12.out).2.2 | (with_reducible refine Kd.C_alloc ?_ _) | (with_reducible refine Kd.C_drewN ?_ _) | (with_reducible refine Kd.C_drew ?_))); (case side2 => exact (Kd.R_reads' HO_12.out).2.1); (case side3 => repeat (first | exact (by repeat (first | (with_reducible exact HR204_0.out) | (with_reducible refine Kd.C_alloc ?_ _) | (with_reducible refine Kd.C_drewN ?_ _) | (with_reducible refine Kd.C_drew ?_) | exact HR204_0.out)) | (with_reducible refine Kd.C_alloc ?_ _) | (with_reducible refine Kd.C_drewN ?_ _) | (with_reducible refine Kd.C_drew ?_))); (case side4 => exact HC204_0.out); rintro e w' ⟨rfl, ⟨nd, rfl⟩⟩; have q50 : (x17_7 : Int) ≤ ((x8_3.length : Int) : Int) := of_decide_eq_true (by first | (with_reducible assumption) | assumption); obtain ⟨i050, hi050, _, hsz50, _⟩ := info_parts info22; have hroom50 : x8_3.length ≤ co49 := (Kd.N_reads' HO_8.out).2.1; have hC50 : Kd.F (Kd.slice 3 (Kd.int .i64)) _ _ (some ad202) x8_3.length x8_3 := (Kd.V_at (base := w.heap.size) (Kd.N_V HO_8.out)).2.2; have hcut50 := cut_to (P := Tryz.prog) 24 22 .i64 Tryz.underlying24 hi050 (some ad202) x8_3.length co49 x17_7 (of_decide_eq_true (by first | (with_reducible assumption) | assumption)) q50 hroom50; have hr50 := Kd.F_take (m := (x17_7 : Int).toNat) hC50 (by omega); have hy50 : y206.length = (x17_7 : Int).toNat := (by rw [Ny206.out, List.length_take]; omega); rw [← Ny206.out] at hr50; rw [← hy50] at hcut50; have HO210 := Aside0.mk (show Kd.V (Kd.slice 3 (Kd.int .i64)) 22 _ w.heap.size _ (.slice (some ad202) y206.length co49) y206 from Kd.V_mk (by omega) hr50); have HC210 := Aside0.mk (show y206.length ≤ co49 from by omega); clear hr50 hC50 hroom50 hi050 hsz50; have KY50 := Aside0.mk hy50; clear hy50; replace q50 := eq_true q50) | ((with_reducible refine gate_builtin (b := .append) (xs := #[.tmp 131, .tmp 134]) rfl ?_); (try (refine gate_guard (by rfl) ?_; dsimp only)); at_builtin; refine Kd.N_append_rows (Kd.slice 3 (Kd.int .i64)) (w0 := w) w.heap.size rfl (.tmp 131) (.tmp 134) 24 22 (.slice none 0 0) 24 rfl Tryz.underlying24 info22 rfl (by decide) (by omega) (.slice none 0 0) ([] : List (List Int)) y206 _ _ _ (fun k_ => (w.heap.size ≤ k_) ∧ some k_ ≠ (v184 : Value).ownBlock ∧ some k_ ≠ (.slice (some ad194) t187.length co13 : Value).ownBlock ∧ some k_ ≠ (.slice Ao33 x12_5.length co33 : Value).ownBlock) (fun k_ => ((fun k_ => (w.heap.size ≤ k_) ∧ some k_ ≠ (v184 : Value).ownBlock ∧ some k_ ≠ (.slice (some ad194) t187.length co13 : Value).ownBlock ∧ some k_ ≠ (.slice Ao33 x12_5.length co33 : Value).ownBlock)) k_ ∧ some k_ ≠ (.slice none 0 0 : Value).ownBlock) rfl rfl ?aO ?aR (fun _ hk => hk) ?aF ?aB ?aS ?aL ?_; (case aR => exact (by (repeat (first | (with_reducible apply Kd.F_alloc) | (with_reducible apply Kd.F_drewN) | (with_reducible apply Kd.F_drew))); exact Kd.V_F (Kd.V_mono (ok' := (fun k_ => ((fun k_ => (w.heap.size ≤ k_) ∧ some k_ ≠ (v184 : Value).ownBlock ∧ some k_ ≠ (.slice (some ad194) t187.length co13 : Value).ownBlock ∧ some k_ ≠ (.slice Ao33 x12_5.length co33 : Value).ownBlock)) k_ ∧ some k_ ≠ (.slice none 0 0 : Value).ownBlock)) (HO210.out) (fun k_ hk => ⟨⟨hk.1, ⟨hk.2.1, ⟨hk.2.2.1, hk.2.2.2⟩⟩⟩, (by simp [Value.ownBlock])⟩)))); (case aB => exact (by repeat (first | (with_reducible first | exact HB.out | apply below_alloc | apply pw_below_drewN | apply below_drew1) | exact HB.out))); (case aF => exact (fun k_ hk => ⟨(Nat.le_trans (below_size (by repeat (first | (with_reducible first | exact HB.out | apply below_alloc | apply pw_below_drewN | apply below_drew1) | exact HB.out))) hk), Kd.fresh' (Kd.R_lt (by (with_reducible repeat (first | apply Kd.R_alloc | apply Kd.R_drewN | apply Kd.R_drew)); exact HO_7.out)) k_ hk, Kd.fresh' (Kd.N_lt (by (with_reducible repeat (first | apply Kd.N_alloc | apply Kd.N_drewN | apply Kd.N_drew)); exact HO_10.out)) k_ hk, Kd.fresh' (Kd.R_lt (by (with_reducible repeat (first | apply Kd.R_alloc | apply Kd.R_drewN | apply Kd.R_drew)); exact HO_12.out)) k_ hk⟩)); (case aO => exact ((Kd.N_nil _ _ _ _ (fun k_ => (w.heap.size ≤ k_) ∧ some k_ ≠ (v184 : Value).ownBlock ∧ some k_ ≠ (.slice (some ad194) t187.length co13 : Value).ownBlock ∧ some k_ ≠ (.slice Ao33 x12_5.length co33 : Value).ownBlock)))); (case aS => exact (below_size (by repeat (first | (with_reducible first | exact HB.out | apply below_alloc | apply pw_below_drewN | apply below_drew1) | exact HB.out)))); (case aL => have := LMc44.out; omega); intro v212 w51 ho hb hg hat; rw [← Ny211.out] at ho; have n0_ := Aside0.mk (Kd.R_grown (by (with_reducible repeat (first | apply Kd.R_alloc | apply Kd.R_drewN | apply Kd.R_drew)); exact HO_7.out) hg (fun _ _ => by simp [Value.ownBlock])); have n1_ := Aside0.mk (Kd.N_afterv (Kd.N_apart_nil (by (with_reducible repeat (first | apply Kd.N_alloc | apply Kd.N_drewN | apply Kd.N_drew)); exact HO_8.out)) hg hat); have n2_ := Aside0.mk (Kd.N_afterv (Kd.N_apart_nil (by (with_reducible repeat (first | apply Kd.N_alloc | apply Kd.N_drewN | apply Kd.N_drew)); exact HO_10.out)) hg hat); have n3_ := Aside0.mk (Kd.R_grown (by (with_reducible repeat (first | apply Kd.R_alloc | apply Kd.R_drewN | apply Kd.R_drew)); exact HO_12.out) hg (fun _ _ => by simp [Value.ownBlock])); have n4_ := Aside0.mk (Kd.V_afterv (Kd.V_apart_nil (by (with_reducible repeat (first | apply Kd.V_alloc | apply Kd.V_drewN | apply Kd.V_drew)); exact HL202_0.out)) hg hat); have n5_ := Aside0.mk (Kd.V_afterv (Kd.V_apart_nil (by (with_reducible repeat (first | apply Kd.V_alloc | apply Kd.V_drewN | apply Kd.V_drew)); exact HL204_0.out)) hg hat); have n6_ := Aside0.mk (Kd.V_afterv (Kd.V_apart_nil (by (with_reducible repeat (first | apply Kd.V_alloc | apply Kd.V_drewN | apply Kd.V_drew)); exact HO210.out)) hg hat); have n7_ := Aside0.mk (hb); have n8_ := Aside0.mk (ho); clear HO_7; clear HO_8; clear HO_10; clear HO_12; clear HL202_0; clear HL204_0; clear HO210; clear HB; have HO_7 := n0_; have HO_8 := n1_; have HO_10 := n2_; have HO_12 := n3_; have HL202_0 := n4_; have HL204_0 := n5_; have HO210 := n6_; have HB := n7_; have HO213 := n8_; clear n0_ n1_ n2_ n3_ n4_ n5_ n6_ n7_ n8_; clear ho hb hg hat) | ((with_reducible refine gate_builtin (b := .append) (xs := #[.tmp 136, .tmp 138]) rfl ?_); (try (refine gate_guard (by rfl) ?_; dsimp only)); at_builtin; refine Kd.N_append (Kd.slice 3 (Kd.int .i64)) (w0 := w) w.heap.size rfl (.tmp 136) (.tmp 138) 24 22 (.slice none 0 0) 24 rfl Tryz.underlying24 info22 rfl (by decide) (by omega) v212 y211 x12_5 [.slice Ao33 x12_5.length co33] (fun k_ => (w.heap.size ≤ k_) ∧ some k_ ≠ (v184 : Value).ownBlock ∧ some k_ ≠ (.slice (some ad194) t187.length co13 : Value).ownBlock) (fun k_ => ((fun k_ => (w.heap.size ≤ k_) ∧ some k_ ≠ (v184 : Value).ownBlock ∧ some k_ ≠ (.slice (some ad194) t187.length co13 : Value).ownBlock)) k_ ∧ some k_ ≠ (v212 : Value).ownBlock) rfl rfl ?aP (fun _ hk => hk) ?aF ?aO ?aB ?aS ?aL ?_; (case aP => exact (Kd.FK_slice_mk (Kd.R_reads' (Kd.R_mono (ok' := (fun k_ => ((fun k_ => (w.heap.size ≤ k_) ∧ some k_ ≠ (v184 : Value).ownBlock ∧ some k_ ≠ (.slice (some ad194) t187.length co13 : Value).ownBlock)) k_ ∧ some k_ ≠ (v212 : Value).ownBlock)) (Kd.R_apart' (Kd.R_apart' (HO_12.out) (Kd.N_typed HO_10.out) (by decide)) (Kd.N_typed HO213.out) (by decide)) (fun k_ hk => ⟨⟨hk.1.1.1, ⟨hk.1.1.2, hk.1.2⟩⟩, hk.2⟩))).2.1 (Kd.R_F (Kd.R_mono (ok' := (fun k_ => ((fun k_ => (w.heap.size ≤ k_) ∧ some k_ ≠ (v184 : Value).ownBlock ∧ some k_ ≠ (.slice (some ad194) t187.length co13 : Value).ownBlock)) k_ ∧ some k_ ≠ (v212 : Value).ownBlock)) (Kd.R_apart' (Kd.R_apart' (HO_12.out) (Kd.N_typed HO_10.out) (by decide)) (Kd.N_typed HO213.out) (by decide)) (fun k_ hk => ⟨⟨hk.1.1.1, ⟨hk.1.1.2, hk.1.2⟩⟩, hk.2⟩))))); (case aB => exact (by repeat (first | (with_reducible first | exact HB.out | apply below_alloc | apply pw_below_drewN | apply below_drew1) | exact HB.out))); (case aF => exact (fun k_ hk => ⟨(Nat.le_trans (below_size (by repeat (first | (with_reducible first | exact HB.out | apply below_alloc | apply pw_below_drewN | apply below_drew1) | exact HB.out))) hk), Kd.fresh' (Kd.R_lt (by (with_reducible repeat (first | apply Kd.R_alloc | apply Kd.R_drewN | apply Kd.R_drew)); exact HO_7.out)) k_ hk, Kd.fresh' (Kd.N_lt (by (with_reducible repeat (first | apply Kd.N_alloc | apply Kd.N_drewN | apply Kd.N_drew)); exact HO_10.out)) k_ hk⟩)); (case aO => exact (by (with_reducible repeat (first | apply Kd.N_alloc | apply Kd.N_drewN | apply Kd.N_drew)); exact Kd.N_mono HO213.out (fun _ hk => ⟨hk.1, ⟨hk.2.1, hk.2.2.1⟩⟩))); (case aS => exact (below_size (by repeat (first | (with_reducible first | exact HB.out | apply below_alloc | apply pw_below_drewN | apply below_drew1) | exact HB.out)))); (case aL => have := LMc45.out; omega); intro v215 w52 ho hb hg hat; rw [← Ny214.out] at ho; have n0_ := Aside0.mk (Kd.R_over' (by (with_reducible repeat (first | apply Kd.R_alloc | apply Kd.R_drewN | apply Kd.R_drew)); exact HO_7.out) (Kd.N_typed (by (with_reducible repeat (first | apply Kd.N_alloc | apply Kd.N_drewN | apply Kd.N_drew)); exact HO213.out)) (by decide) hg); have n1_ := Aside0.mk (Kd.N_afterv (ok := (fun k_ => (w.heap.size ≤ k_) ∧ some k_ ≠ (v184 : Value).ownBlock ∧ some k_ ≠ (.slice (some ad194) t187.length co13 : Value).ownBlock ∧ some k_ ≠ (.slice Ao33 x12_5.length co33 : Value).ownBlock)) (by (with_reducible repeat (first | apply Kd.N_alloc | apply Kd.N_drewN | apply Kd.N_drew)); exact HO_8.out) hg hat); have n2_ := Aside0.mk (Kd.N_afterv (ok := (fun k_ => (w.heap.size ≤ k_) ∧ some k_ ≠ (v184 : Value).ownBlock ∧ some k_ ≠ (.slice (some ad202) x8_3.length co49 : Value).ownBlock ∧ some k_ ≠ (.slice Ao33 x12_5.length co33 : Value).ownBlock)) (by (with_reducible repeat (first | apply Kd.N_alloc | apply Kd.N_drewN | apply Kd.N_drew)); exact HO_10.out) hg hat); have n3_ := Aside0.mk (Kd.V_afterv (ok := (fun k_ => (w.heap.size ≤ k_) ∧ some k_ ≠ (v184 : Value).ownBlock ∧ some k_ ≠ (.slice (some ad202) x8_3.length co49 : Value).ownBlock ∧ some k_ ≠ (.slice (some ad194) t187.length co13 : Value).ownBlock ∧ some k_ ≠ (.slice Ao33 x12_5.length co33 : Value).ownBlock)) (by (with_reducible repeat (first | apply Kd.V_alloc | apply Kd.V_drewN | apply Kd.V_drew)); exact Kd.V_mono HL202_0.out (fun _ hk => ⟨⟨hk.1.1.1, ⟨hk.1.1.2.1, ⟨hk.1.2, ⟨hk.1.1.2.2.1, hk.1.1.2.2.2⟩⟩⟩⟩, hk.2⟩)) hg hat); have n4_ := Aside0.mk (Kd.V_afterv (ok := (fun k_ => (w.heap.size ≤ k_) ∧ some k_ ≠ (v184 : Value).ownBlock ∧ some k_ ≠ (.slice (some ad202) x8_3.length co49 : Value).ownBlock ∧ some k_ ≠ (.slice (some ad194) t187.length co13 : Value).ownBlock ∧ some k_ ≠ (.slice Ao33 x12_5.length co33 : Value).ownBlock)) (by (with_reducible repeat (first | apply Kd.V_alloc | apply Kd.V_drewN | apply Kd.V_drew)); exact Kd.V_mono HL204_0.out (fun _ hk => ⟨⟨hk.1.1.1, ⟨hk.1.1.2.1, ⟨hk.1.2, ⟨hk.1.1.2.2.1, hk.1.1.2.2.2⟩⟩⟩⟩, hk.2⟩)) hg hat); have n5_ := Aside0.mk (Kd.V_afterv (ok := (fun k_ => (w.heap.size ≤ k_) ∧ some k_ ≠ (v184 : Value).ownBlock ∧ some k_ ≠ (.slice (some ad194) t187.length co13 : Value).ownBlock ∧ some k_ ≠ (.slice Ao33 x12_5.length co33 : Value).ownBlock)) (by (with_reducible repeat (first | apply Kd.V_alloc | apply Kd.V_drewN | apply Kd.V_drew)); exact HO210.out) hg hat); have n6_ := Aside0.mk (hb); have n7_ := Aside0.mk (ho); clear HO_7; clear HO_8; clear HO_10; clear HL202_0; clear HL204_0; clear HO210; clear HB; clear HO213; clear HO_12; have HO_7 := n0_; have HO_8 := n1_; have HO_10 := n2_; have HL202_0 := n3_; have HL204_0 := n4_; have HO210 := n5_; have HB := n6_; have HO216 := n7_; clear n0_ n1_ n2_ n3_ n4_ n5_ n6_ n7_; clear ho hb hg hat; have q53 : (x17_7 : Int) ≤ ((x8_3.length : Int) : Int) := of_decide_eq_true (by first | (with_reducible assumption) | assumption); obtain ⟨i053, hi053, _, hsz53, _⟩ := info_parts info22; have hroom53 : x8_3.length ≤ co49 := (Kd.N_reads' HO_8.out).2.1; have hC53 : Kd.F (Kd.slice 3 (Kd.int .i64)) _ _ (some ad202) x8_3.length x8_3 := (Kd.V_at (base := w.heap.size) (Kd.N_V HO_8.out)).2.2; have q053 : (0 : Int) ≤ (x17_7 : Int) := of_decide_eq_true (by first | (with_reducible assumption) | assumption); have hcut53 := cut_from (P := Tryz.prog) 24 22 .i64 Tryz.underlying24 hi053 1 hsz53 (some ad202) x8_3.length co49 x17_7 q053 q53; have hr53 := Kd.F_cut (m := (x17_7 : Int).toNat) (c := co49) hC53 (by omega) hroom53; obtain ⟨A53, hA53⟩ : ∃ A1, A1 = (if co49 = (x17_7 : Int).toNat then (some ad202) else ((some ad202) : Option Addr).map (·.add ((x17_7 : Int).toNat * 1))) := ⟨_, rfl⟩; obtain ⟨c53, hc53⟩ : ∃ c1, c1 = co49 - (x17_7 : Int).toNat := ⟨_, rfl⟩; have hy53 : y217.length = x8_3.length - (x17_7 : Int).toNat := (by rw [Ny217.out, List.length_drop] <;> omega); rw [show (x8_3).drop (x17_7 : Int).toNat = y217 from Ny217.out.symm] at hr53; replace hr53 : Kd.F (Kd.slice 3 (Kd.int .i64)) _ _ A53 y217.length y217 := (by rw [hA53]; exact hr53); rw [← hy53, ← hA53, ← hc53] at hcut53; have HO221 := Aside0.mk (show Kd.V (Kd.slice 3 (Kd.int .i64)) 22 _ w.heap.size _ (.slice A53 y217.length c53) y217 from Kd.V_mk (by rw [hy53, hc53]; exact Nat.sub_le_sub_right hroom53 _) hr53); have HC221 := Aside0.mk (show y217.length ≤ c53 from by rw [hy53, hc53]; exact Nat.sub_le_sub_right hroom53 _); clear hr53 hC53 hroom53 hi053 hsz53 hc53; have KY53 := Aside0.mk hy53; have KA53 := Aside0.mk hA53; clear hy53 hA53; replace q53 := eq_true q53) | ((with_reducible refine gate_builtin (b := .append) (xs := #[.tmp 140, .tmp 143]) rfl ?_); (try (refine gate_guard (by rfl) ?_; dsimp only)); at_builtin; refine Kd.N_append_rows (Kd.slice 3 (Kd.int .i64)) (w0 := w) w.heap.size rfl (.tmp 140) (.tmp 143) 24 22 (.slice none 0 0) 24 rfl Tryz.underlying24 info22 rfl (by decide) (by omega) v215 y214 y217 _ _ _ (fun k_ => (w.heap.size ≤ k_) ∧ some k_ ≠ (v184 : Value).ownBlock ∧ some k_ ≠ (.slice (some ad194) t187.length co13 : Value).ownBlock) (fun k_ => ((fun k_ => (w.heap.size ≤ k_) ∧ some k_ ≠ (v184 : Value).ownBlock ∧ some k_ ≠ (.slice (some ad194) t187.length co13 : Value).ownBlock)) k_ ∧ some k_ ≠ (v215 : Value).ownBlock) rfl rfl ?aO ?aR (fun _ hk => hk) ?aF ?aB ?aS ?aL ?_; (case aR => exact (by (repeat (first | (with_reducible apply Kd.F_alloc) | (with_reducible apply Kd.F_drewN) | (with_reducible apply Kd.F_drew))); exact Kd.V_F (Kd.V_mono (ok' := (fun k_ => ((fun k_ => (w.heap.size ≤ k_) ∧ some k_ ≠ (v184 : Value).ownBlock ∧ some k_ ≠ (.slice (some ad194) t187.length co13 : Value).ownBlock)) k_ ∧ some k_ ≠ (v215 : Value).ownBlock)) (HO221.out) (fun k_ hk => ⟨⟨hk.1.1, ⟨hk.1.2.1, hk.1.2.2.1⟩⟩, hk.2⟩)))); (case aB => exact (by repeat (first | (with_reducible first | exact HB.out | apply below_alloc | apply pw_below_drewN | apply below_drew1) | exact HB.out))); (case aF => exact (fun k_ hk => ⟨(Nat.le_trans (below_size (by repeat (first | (with_reducible first | exact HB.out | apply below_alloc | apply pw_below_drewN | apply below_drew1) | exact HB.out))) hk), Kd.fresh' (Kd.R_lt (by (with_reducible repeat (first | apply Kd.R_alloc | apply Kd.R_drewN | apply Kd.R_drew)); exact HO_7.out)) k_ hk, Kd.fresh' (Kd.N_lt (by (with_reducible repeat (first | apply Kd.N_alloc | apply Kd.N_drewN | apply Kd.N_drew)); exact HO_10.out)) k_ hk⟩)); (case aO => exact (by (with_reducible repeat (first | apply Kd.N_alloc | apply Kd.N_drewN | apply Kd.N_drew)); exact HO216.out)); (case aS => exact (below_size (by repeat (first | (with_reducible first | exact HB.out | apply below_alloc | apply pw_below_drewN | apply below_drew1) | exact HB.out)))); (case aL => have := LMc48.out; omega); intro v223 w54 ho hb hg hat; rw [← Ny222.out] at ho; have n0_ := Aside0.mk (Kd.R_over' (by (with_reducible repeat (first | apply Kd.R_alloc | apply Kd.R_drewN | apply Kd.R_drew)); exact HO_7.out) (Kd.N_typed (by (with_reducible repeat (first | apply Kd.N_alloc | apply Kd.N_drewN | apply Kd.N_drew)); exact HO216.out)) (by decide) hg); have n1_ := Aside0.mk (Kd.N_afterv (ok := (fun k_ => (w.heap.size ≤ k_) ∧ some k_ ≠ (v184 : Value).ownBlock ∧ some k_ ≠ (.slice (some ad194) t187.length co13 : Value).ownBlock)) (by (with_reducible repeat (first | apply Kd.N_alloc | apply Kd.N_drewN | apply Kd.N_drew)); exact Kd.N_mono HO_8.out (fun _ hk => ⟨⟨hk.1.1, ⟨hk.1.2.1, hk.1.2.2.1⟩⟩, hk.2⟩)) hg hat); have n2_ := Aside0.mk (Kd.N_afterv (ok := (fun k_ => (w.heap.size ≤ k_) ∧ some k_ ≠ (v184 : Value).ownBlock ∧ some k_ ≠ (.slice (some ad202) x8_3.length co49 : Value).ownBlock)) (by (with_reducible repeat (first | apply Kd.N_alloc | apply Kd.N_drewN | apply Kd.N_drew)); exact Kd.N_mono HO_10.out (fun _ hk => ⟨⟨hk.1.1, ⟨hk.1.2.1, hk.1.2.2.1⟩⟩, hk.2⟩)) hg hat); have n3_ := Aside0.mk (Kd.V_afterv (ok := (fun k_ => (w.heap.size ≤ k_) ∧ some k_ ≠ (v184 : Value).ownBlock ∧ some k_ ≠ (.slice (some ad202) x8_3.length co49 : Value).ownBlock ∧ some k_ ≠ (.slice (some ad194) t187.length co13 : Value).ownBlock)) (by (with_reducible repeat (first | apply Kd.V_alloc | apply Kd.V_drewN | apply Kd.V_drew)); exact Kd.V_mono HL202_0.out (fun _ hk => ⟨⟨hk.1.1, ⟨hk.1.2.1, ⟨hk.1.2.2.1, hk.1.2.2.2.1⟩⟩⟩, hk.2⟩)) hg hat); have n4_ := Aside0.mk (Kd.V_afterv (ok := (fun k_ => (w.heap.size ≤ k_) ∧ some k_ ≠ (v184 : Value).ownBlock ∧ some k_ ≠ (.slice (some ad202) x8_3.length co49 : Value).ownBlock ∧ some k_ ≠ (.slice (some ad194) t187.length co13 : Value).ownBlock)) (by (with_reducible repeat (first | apply Kd.V_alloc | apply Kd.V_drewN | apply Kd.V_drew)); exact Kd.V_mono HL204_0.out (fun _ hk => ⟨⟨hk.1.1, ⟨hk.1.2.1, ⟨hk.1.2.2.1, hk.1.2.2.2.1⟩⟩⟩, hk.2⟩)) hg hat); have n5_ := Aside0.mk (Kd.V_afterv (ok := (fun k_ => (w.heap.size ≤ k_) ∧ some k_ ≠ (v184 : Value).ownBlock ∧ some k_ ≠ (.slice (some ad194) t187.length co13 : Value).ownBlock)) (by (with_reducible repeat (first | apply Kd.V_alloc | apply Kd.V_drewN | apply Kd.V_drew)); exact Kd.V_mono HO210.out (fun _ hk => ⟨⟨hk.1.1, ⟨hk.1.2.1, hk.1.2.2.1⟩⟩, hk.2⟩)) hg hat); have n6_ := Aside0.mk (Kd.V_afterv (ok := (fun k_ => (w.heap.size ≤ k_) ∧ some k_ ≠ (v184 : Value).ownBlock ∧ some k_ ≠ (.slice (some ad194) t187.length co13 : Value).ownBlock)) (by (with_reducible repeat (first | apply Kd.V_alloc | apply Kd.V_drewN | apply Kd.V_drew)); exact Kd.V_mono HO221.out (fun _ hk => ⟨⟨hk.1.1, ⟨hk.1.2.1, hk.1.2.2.1⟩⟩, hk.2⟩)) hg hat); have n7_ := Aside0.mk (hb); have n8_ := Aside0.mk (ho); clear HO_7; clear HO_8; clear HO_10; clear HL202_0; clear HL204_0; clear HO210; clear HO221; clear HB; clear HO216; have HO_7 := n0_; have HO_8 := n1_; have HO_10 := n2_; have HL202_0 := n3_; have HL204_0 := n4_; have HO210 := n5_; have HO221 := n6_; have HB := n7_; have HO224 := n8_; clear n0_ n1_ n2_ n3_ n4_ n5_ n6_ n7_ n8_; clear ho hb hg hat))
                                                                  go_roundg k7
                                                                  case measure => have := HK1.out; have := HK2.out; have := HK3.out; have := HK4.out; have := HK5.out; have := HK6.out; have := HK7.out; omega
                                                                  case rel => exact ⟨(y222), (wrap64 (x11_3 + 1)), (by first | rfl | (simp; done) | (simp [*]; done)), H', ⟨by have := HK1.out; have := HK2.out; have := HK3.out; have := HK4.out; have := HK5.out; have := HK6.out; have := HK7.out; omega⟩, ⟨by (with_reducible repeat (first | apply Kd.R_alloc | apply Kd.R_drewN | apply Kd.R_drew)); exact Kd.R_mono HO_7.out (fun _ hk => hk.1)⟩, ⟨by (with_reducible repeat (first | apply Kd.N_alloc | apply Kd.N_drewN | apply Kd.N_drew)); exact HO224.out⟩, ⟨by (with_reducible repeat (first | apply Kd.N_alloc | apply Kd.N_drewN | apply Kd.N_drew)); exact Kd.N_mono HO_10.out (fun _ hk => ⟨hk.1.1, ⟨hk.1.2.1, hk.2⟩⟩)⟩, ⟨by repeat (first | (with_reducible first | exact HB.out | apply below_alloc | apply pw_below_drewN | apply below_drew1) | exact HB.out)⟩⟩
                                                                · rw [if_neg c48] at H
                                                                  exact absurd H (by simp)
                                                              · rw [if_neg c45] at H
                                                                exact absurd H (by simp)
                                                            · rw [if_neg c44] at H
                                                              exact absurd H (by simp)
                                                          · rw [if_neg c43] at H
                                                            exact absurd H (by simp)
                                                        · replace c41 := Bool.eq_false_iff.mpr c41
                                                          subst c41
                                                          have H1 : (staddaref06_Moves.l2 k7 a0 l1 t183 x8_3 x9_2 t187 (wrap64 (x11_3 + 1))) = some r := by rw [if_neg (show ¬ (false = true) by decide)] at H; exact H
                                                          clear H
                                                          have H := H1
                                                          clear H1
                                                          have H' := Aside0.mk H
                                                          clear H
                                                          obtain ⟨Ao55, co55, eo55⟩ := Kd.N_slice HO_8.out
                                                          subst eo55
                                                          have p202 : 0 ≤ (x17_7 : Int) := of_decide_eq_true (by first | (with_reducible assumption) | assumption)
                                                          have q202 : x17_7 < (x8_3.length : Int) := of_decide_eq_true (by first | (with_reducible assumption) | assumption)
                                                          obtain ⟨ad202, A202_0, c202_0, e202, hx202_0, hl202_0, hi202_0⟩ := at_L2 (Kd.N_reads' HO_8.out).2.2 x17_7 p202 q202
                                                          cases e202
                                                          obtain ⟨ce202, hce202, hMe202, hcc202⟩ := Kd.N_get HO_8.out [] x17_7 p202 (by first | exact q202 | exact of_decide_eq_true (by first | (with_reducible assumption) | assumption) | (have e_ := (Kd.N_reads' HO_8.out).1; omega))
                                                          obtain ⟨ua202_0, uc202_0, rfl, ul202_0, ge202_0⟩ := Kd.FK_slice_open hMe202
                                                          have hv202_0 := hcc202 0 _ rfl
                                                          rw [Nat.add_zero, show ((Kd.slice 3 (Kd.int .i64))).sz = 1 from rfl, Nat.mul_one] at hv202_0
                                                          replace hv202_0 := Option.some.inj (hv202_0.symm.trans hx202_0)
                                                          injection hv202_0 with hva_ hvn_ hvc_
                                                          rw [hva_] at ge202_0
                                                          rw [hvc_] at ul202_0
                                                          have HL202_0 := Aside0.mk (show Kd.V (Kd.int .i64) 3 _ w.heap.size _ _ (rd_L2 x8_3 x17_7) from Kd.V_mk ul202_0 ge202_0)
                                                          clear hva_ hvn_ hvc_ ge202_0 ul202_0
                                                          clear hcc202 hce202
                                                          have HR202_0 := Aside0.mk hi202_0
                                                          have HC202_0 := Aside0.mk hl202_0
                                                          clear hi202_0 hl202_0
                                                          replace p202 := eq_true p202
                                                          replace q202 := eq_true q202
                                                          go_wp2_with (first | (go_at_call 28; (with_reducible refine (staddaref06_before.calls k7 _ _ (rd_L2 x8_3 x17_7) _ _ x12_5 false _ ?side1 ?side2 ?side3 ?side4 A36.out).mono ?_); (case side1 => repeat (first | exact (by repeat (first | (with_reducible exact HR202_0.out) | (with_reducible refine Kd.C_alloc ?_ _) | (with_reducible refine Kd.C_drewN ?_ _) | (with_reducible refine Kd.C_drew ?_) | exact HR202_0.out)) | (with_reducible refine Kd.C_alloc ?_ _) | (with_reducible refine Kd.C_drewN ?_ _) | (with_reducible refine Kd.C_drew ?_))); (case side2 => exact HC202_0.out); (case side3 => repeat (first | exact (Kd.R_reads' HO_12.out).2.2 | (with_reducible refine Kd.C_alloc ?_ _) | (with_reducible refine Kd.C_drewN ?_ _) | (with_reducible refine Kd.C_drew ?_))); (case side4 => exact (Kd.R_reads' HO_12.out).2.1); rintro e w' ⟨rfl, ⟨nd, rfl⟩⟩; have p204 : 0 ≤ (x17_7 : Int) := of_decide_eq_true (by first | (with_reducible assumption) | assumption); have q204 : x17_7 < (x8_3.length : Int) := of_decide_eq_true (by first | (with_reducible assumption) | assumption); obtain ⟨ad204, A204_0, c204_0, e204, hx204_0, hl204_0, hi204_0⟩ := at_L2 (Kd.N_reads' HO_8.out).2.2 x17_7 p204 q204; obtain rfl : ad202 = ad204 := (by injection e204); obtain ⟨ce204, hce204, hMe204, hcc204⟩ := Kd.N_get HO_8.out [] x17_7 p204 (by first | exact q204 | exact of_decide_eq_true (by first | (with_reducible assumption) | assumption) | (have e_ := (Kd.N_reads' HO_8.out).1; omega)); obtain ⟨ua204_0, uc204_0, rfl, ul204_0, ge204_0⟩ := Kd.FK_slice_open hMe204; have hv204_0 := hcc204 0 _ rfl; rw [Nat.add_zero, show ((Kd.slice 3 (Kd.int .i64))).sz = 1 from rfl, Nat.mul_one] at hv204_0; replace hv204_0 := Option.some.inj (hv204_0.symm.trans hx204_0); injection hv204_0 with hva_ hvn_ hvc_; rw [hva_] at ge204_0; rw [hvc_] at ul204_0; have HL204_0 := Aside0.mk (show Kd.V (Kd.int .i64) 3 _ w.heap.size _ _ (rd_L2 x8_3 x17_7) from Kd.V_mk ul204_0 ge204_0); clear hva_ hvn_ hvc_ ge204_0 ul204_0; clear hcc204 hce204; have HR204_0 := Aside0.mk hi204_0; have HC204_0 := Aside0.mk hl204_0; clear hi204_0 hl204_0; replace p204 := eq_true p204; replace q204 := eq_true q204; have ea_ := Option.some.inj (hx202_0.symm.trans hx204_0); injection ea_ with ea_ en_ ec_; subst ea_; subst ec_; clear en_) | (go_at_call 28; (with_reducible refine (staddaref06_before.calls k7 _ _ x12_5 _ _ (rd_L2 x8_3 x17_7) false _ ?side1 ?side2 ?side3 ?side4 A40.out).mono ?_); (case side1 => repeat (first | exact (Kd.R_reads' HO_12.out).2.2 | (with_reducible refine Kd.C_alloc ?_ _) | (with_reducible refine Kd.C_drewN ?_ _) | (with_reducible refine Kd.C_drew ?_))); (case side2 => exact (Kd.R_reads' HO_12.out).2.1); (case side3 => repeat (first | exact (by repeat (first | (with_reducible exact HR204_0.out) | (with_reducible refine Kd.C_alloc ?_ _) | (with_reducible refine Kd.C_drewN ?_ _) | (with_reducible refine Kd.C_drew ?_) | exact HR204_0.out)) | (with_reducible refine Kd.C_alloc ?_ _) | (with_reducible refine Kd.C_drewN ?_ _) | (with_reducible refine Kd.C_drew ?_))); (case side4 => exact HC204_0.out); rintro e w' ⟨rfl, ⟨nd, rfl⟩⟩))
                                                          go_roundg k7
                                                          case measure => have := HK1.out; have := HK2.out; have := HK3.out; have := HK4.out; have := HK5.out; have := HK6.out; have := HK7.out; omega
                                                          case rel => exact ⟨(x8_3), (wrap64 (x11_3 + 1)), (by first | rfl | (simp; done) | (simp [*]; done)), H', ⟨by have := HK1.out; have := HK2.out; have := HK3.out; have := HK4.out; have := HK5.out; have := HK6.out; have := HK7.out; omega⟩, ⟨by (with_reducible repeat (first | apply Kd.R_alloc | apply Kd.R_drewN | apply Kd.R_drew)); exact Kd.R_mono HO_7.out (fun _ hk => hk.1)⟩, ⟨by (with_reducible repeat (first | apply Kd.N_alloc | apply Kd.N_drewN | apply Kd.N_drew)); exact Kd.N_mono HO_8.out (fun _ hk => ⟨hk.1, ⟨hk.2.1, hk.2.2.1⟩⟩)⟩, ⟨by (with_reducible repeat (first | apply Kd.N_alloc | apply Kd.N_drewN | apply Kd.N_drew)); exact Kd.N_mono HO_10.out (fun _ hk => ⟨hk.1, ⟨hk.2.1, hk.2.2.1⟩⟩)⟩, ⟨by repeat (first | (with_reducible first | exact HB.out | apply below_alloc | apply pw_below_drewN | apply below_drew1) | exact HB.out)⟩⟩
                                                      · rw [if_neg c39] at H
                                                        have c39b0 : (x15_6 == 0) = false := beq_eq_false_iff_ne.mpr c39
                                                        have c39b1 : (x15_6 != 0) = true := bne_iff_ne.mpr c39
                                                        have H' := Aside0.mk H
                                                        clear H
                                                        obtain ⟨Ao56, co56, eo56⟩ := Kd.N_slice HO_8.out
                                                        subst eo56
                                                        have p202 : 0 ≤ (x17_7 : Int) := of_decide_eq_true (by first | (with_reducible assumption) | assumption)
                                                        have q202 : x17_7 < (x8_3.length : Int) := of_decide_eq_true (by first | (with_reducible assumption) | assumption)
                                                        obtain ⟨ad202, A202_0, c202_0, e202, hx202_0, hl202_0, hi202_0⟩ := at_L2 (Kd.N_reads' HO_8.out).2.2 x17_7 p202 q202
                                                        cases e202
                                                        obtain ⟨ce202, hce202, hMe202, hcc202⟩ := Kd.N_get HO_8.out [] x17_7 p202 (by first | exact q202 | exact of_decide_eq_true (by first | (with_reducible assumption) | assumption) | (have e_ := (Kd.N_reads' HO_8.out).1; omega))
                                                        obtain ⟨ua202_0, uc202_0, rfl, ul202_0, ge202_0⟩ := Kd.FK_slice_open hMe202
                                                        have hv202_0 := hcc202 0 _ rfl
                                                        rw [Nat.add_zero, show ((Kd.slice 3 (Kd.int .i64))).sz = 1 from rfl, Nat.mul_one] at hv202_0
                                                        replace hv202_0 := Option.some.inj (hv202_0.symm.trans hx202_0)
                                                        injection hv202_0 with hva_ hvn_ hvc_
                                                        rw [hva_] at ge202_0
                                                        rw [hvc_] at ul202_0
                                                        have HL202_0 := Aside0.mk (show Kd.V (Kd.int .i64) 3 _ w.heap.size _ _ (rd_L2 x8_3 x17_7) from Kd.V_mk ul202_0 ge202_0)
                                                        clear hva_ hvn_ hvc_ ge202_0 ul202_0
                                                        clear hcc202 hce202
                                                        have HR202_0 := Aside0.mk hi202_0
                                                        have HC202_0 := Aside0.mk hl202_0
                                                        clear hi202_0 hl202_0
                                                        replace p202 := eq_true p202
                                                        replace q202 := eq_true q202
                                                        go_wp2_with (first | (go_at_call 28; (with_reducible refine (staddaref06_before.calls k7 _ _ (rd_L2 x8_3 x17_7) _ _ x12_5 false _ ?side1 ?side2 ?side3 ?side4 A36.out).mono ?_); (case side1 => repeat (first | exact (by repeat (first | (with_reducible exact HR202_0.out) | (with_reducible refine Kd.C_alloc ?_ _) | (with_reducible refine Kd.C_drewN ?_ _) | (with_reducible refine Kd.C_drew ?_) | exact HR202_0.out)) | (with_reducible refine Kd.C_alloc ?_ _) | (with_reducible refine Kd.C_drewN ?_ _) | (with_reducible refine Kd.C_drew ?_))); (case side2 => exact HC202_0.out); (case side3 => repeat (first | exact (Kd.R_reads' HO_12.out).2.2 | (with_reducible refine Kd.C_alloc ?_ _) | (with_reducible refine Kd.C_drewN ?_ _) | (with_reducible refine Kd.C_drew ?_))); (case side4 => exact (Kd.R_reads' HO_12.out).2.1); rintro e w' ⟨rfl, ⟨nd, rfl⟩⟩))
                                                        go_roundg k7
                                                        case measure => have := HK1.out; have := HK2.out; have := HK3.out; have := HK4.out; have := HK5.out; have := HK6.out; have := HK7.out; omega
                                                        case rel => exact ⟨(x8_3), (wrap64 (x11_3 + 1)), (by first | rfl | (simp; done) | (simp [*]; done)), H', ⟨by have := HK1.out; have := HK2.out; have := HK3.out; have := HK4.out; have := HK5.out; have := HK6.out; have := HK7.out; omega⟩, ⟨by (with_reducible repeat (first | apply Kd.R_alloc | apply Kd.R_drewN | apply Kd.R_drew)); exact Kd.R_mono HO_7.out (fun _ hk => hk.1)⟩, ⟨by (with_reducible repeat (first | apply Kd.N_alloc | apply Kd.N_drewN | apply Kd.N_drew)); exact Kd.N_mono HO_8.out (fun _ hk => ⟨hk.1, ⟨hk.2.1, hk.2.2.1⟩⟩)⟩, ⟨by (with_reducible repeat (first | apply Kd.N_alloc | apply Kd.N_drewN | apply Kd.N_drew)); exact Kd.N_mono HO_10.out (fun _ hk => ⟨hk.1, ⟨hk.2.1, hk.2.2.1⟩⟩)⟩, ⟨by repeat (first | (with_reducible first | exact HB.out | apply below_alloc | apply pw_below_drewN | apply below_drew1) | exact HB.out)⟩⟩
                                                  · rw [if_neg c35] at H
                                                    exact absurd H (by simp)
                                                · rw [if_neg c34] at H
                                                  have c34b0 : decide (x17_7 < (x8_3.length : Int)) = false := decide_eq_false c34
                                                  clear c34
                                                  by_cases c57 : x15_6 = 0
                                                  · rw [if_pos c57] at H
                                                    have c57b0 : (x15_6 == 0) = true := beq_iff_eq.mpr c57
                                                    have c57b1 : (x15_6 != 0) = false := bne_eq_false_iff_eq.mpr c57
                                                    clear c57
                                                    by_cases c58 : 0 ≤ x17_7
                                                    · rw [if_pos c58] at H
                                                      have c58b0 := eq_true c58
                                                      have c58b1 : decide (0 ≤ x17_7) = true := decide_eq_true c58
                                                      clear c58
                                                      by_cases c59 : x17_7 ≤ (x8_3.length : Int)
                                                      · rw [if_pos c59] at H
                                                        have c59b0 := eq_true c59
                                                        have c59b1 : decide (x17_7 ≤ (x8_3.length : Int)) = true := decide_eq_true c59
                                                        clear c59
                                                        obtain ⟨y225, hy225⟩ : ∃ y_ : List (List Int), y_ = (x8_3.take (x17_7 : Int).toNat) := ⟨_, rfl⟩
                                                        replace H : (if ([] : List (List Int)).length + y225.length < 5864062014805 then ((some (([] : List (List Int)) ++ y225 : List (List Int))).bind fun y230 => (if y230.length < 5864062014805 then ((some (y230 ++ [x12_5] : List (List Int))).bind fun y233 => ((some (x8_3.drop (x17_7 : Int).toNat : List (List Int))).bind fun y236 => (if y233.length + y236.length < 5864062014805 then (staddaref06_Moves.l2 k7 a0 l1 t183 (y233 ++ y236) x9_2 t187 (wrap64 (x11_3 + 1))) else (none)))) else (none))) else (none)) = some r := by first | (rw [hy225]; with_reducible exact H) | (have H2_ := (Option.bind_some _ _).symm.trans H; rw [hy225]; with_reducible exact H2_) | (have H2_ := (Option.bind_some _ _).symm.trans H; with_reducible exact H2_) | with_reducible exact H | (rw [hy225]; exact H) | exact H
                                                        have Ny225 := Aside0.mk hy225
                                                        clear hy225
                                                        by_cases c60 : ([] : List (List Int)).length + y225.length < 5864062014805
                                                        · rw [if_pos c60] at H
                                                          have LMc60 := Aside0.mk c60
                                                          clear c60
                                                          obtain ⟨y230, hy230⟩ : ∃ y_ : List (List Int), y_ = (([] : List (List Int)) ++ y225) := ⟨_, rfl⟩
                                                          replace H : (if y230.length < 5864062014805 then ((some (y230 ++ [x12_5] : List (List Int))).bind fun y233 => ((some (x8_3.drop (x17_7 : Int).toNat : List (List Int))).bind fun y236 => (if y233.length + y236.length < 5864062014805 then (staddaref06_Moves.l2 k7 a0 l1 t183 (y233 ++ y236) x9_2 t187 (wrap64 (x11_3 + 1))) else (none)))) else (none)) = some r := by first | (rw [hy230]; with_reducible exact H) | (have H2_ := (Option.bind_some _ _).symm.trans H; rw [hy230]; with_reducible exact H2_) | (have H2_ := (Option.bind_some _ _).symm.trans H; with_reducible exact H2_) | with_reducible exact H | (rw [hy230]; exact H) | exact H
                                                          have Ny230 := Aside0.mk hy230
                                                          clear hy230
                                                          by_cases c61 : y230.length < 5864062014805
                                                          · rw [if_pos c61] at H
                                                            have LMc61 := Aside0.mk c61
                                                            clear c61
                                                            obtain ⟨y233, hy233⟩ : ∃ y_ : List (List Int), y_ = (y230 ++ [x12_5]) := ⟨_, rfl⟩
                                                            replace H : ((some (x8_3.drop (x17_7 : Int).toNat : List (List Int))).bind fun y236 => (if y233.length + y236.length < 5864062014805 then (staddaref06_Moves.l2 k7 a0 l1 t183 (y233 ++ y236) x9_2 t187 (wrap64 (x11_3 + 1))) else (none))) = some r := by first | (rw [hy233]; with_reducible exact H) | (have H2_ := (Option.bind_some _ _).symm.trans H; rw [hy233]; with_reducible exact H2_) | (have H2_ := (Option.bind_some _ _).symm.trans H; with_reducible exact H2_) | with_reducible exact H | (rw [hy233]; exact H) | exact H
                                                            have Ny233 := Aside0.mk hy233
                                                            clear hy233
                                                            have c62b0 := eq_true (of_decide_eq_true (by first | (with_reducible assumption) | assumption) : 0 ≤ x17_7)
                                                            have c63b0 := eq_true (of_decide_eq_true (by first | (with_reducible assumption) | assumption) : x17_7 ≤ (x8_3.length : Int))
                                                            obtain ⟨y236, hy236⟩ : ∃ y_ : List (List Int), y_ = (x8_3.drop (x17_7 : Int).toNat) := ⟨_, rfl⟩
                                                            replace H : (if y233.length + y236.length < 5864062014805 then (staddaref06_Moves.l2 k7 a0 l1 t183 (y233 ++ y236) x9_2 t187 (wrap64 (x11_3 + 1))) else (none)) = some r := by first | (rw [hy236]; with_reducible exact H) | (have H2_ := (Option.bind_some _ _).symm.trans H; rw [hy236]; with_reducible exact H2_) | (have H2_ := (Option.bind_some _ _).symm.trans H; with_reducible exact H2_) | with_reducible exact H | (rw [hy236]; exact H) | exact H
                                                            have Ny236 := Aside0.mk hy236
                                                            clear hy236
                                                            by_cases c64 : y233.length + y236.length < 5864062014805
                                                            · rw [if_pos c64] at H
                                                              have LMc64 := Aside0.mk c64
                                                              clear c64
                                                              obtain ⟨y241, hy241⟩ : ∃ y_ : List (List Int), y_ = (y233 ++ y236) := ⟨_, rfl⟩
                                                              replace H : (staddaref06_Moves.l2 k7 a0 l1 t183 y241 x9_2 t187 (wrap64 (x11_3 + 1))) = some r := by first | (rw [hy241]; with_reducible exact H) | (have H2_ := (Option.bind_some _ _).symm.trans H; rw [hy241]; with_reducible exact H2_) | (have H2_ := (Option.bind_some _ _).symm.trans H; with_reducible exact H2_) | with_reducible exact H | (rw [hy241]; exact H) | exact H
                                                              have Ny241 := Aside0.mk hy241
                                                              clear hy241
                                                              have H' := Aside0.mk H
                                                              clear H
                                                              obtain ⟨Ao65, co65, eo65⟩ := Kd.N_slice HO_8.out
                                                              subst eo65
                                                              have q66 : (x17_7 : Int) ≤ ((x8_3.length : Int) : Int) := of_decide_eq_true (by first | (with_reducible assumption) | assumption)
                                                              obtain ⟨i066, hi066, _, hsz66, _⟩ := info_parts info22
                                                              have hroom66 : x8_3.length ≤ co65 := (Kd.N_reads' HO_8.out).2.1
                                                              have hC66 : Kd.F (Kd.slice 3 (Kd.int .i64)) _ _ Ao65 x8_3.length x8_3 := (Kd.V_at (base := w.heap.size) (Kd.N_V HO_8.out)).2.2
                                                              have hcut66 := cut_to (P := Tryz.prog) 24 22 .i64 Tryz.underlying24 hi066 Ao65 x8_3.length co65 x17_7 (of_decide_eq_true (by first | (with_reducible assumption) | assumption)) q66 hroom66
                                                              have hr66 := Kd.F_take (m := (x17_7 : Int).toNat) hC66 (by omega)
                                                              have hy66 : y225.length = (x17_7 : Int).toNat := (by rw [Ny225.out, List.length_take]; omega)
                                                              rw [← Ny225.out] at hr66
                                                              rw [← hy66] at hcut66
                                                              have HO229 := Aside0.mk (show Kd.V (Kd.slice 3 (Kd.int .i64)) 22 _ w.heap.size _ (.slice Ao65 y225.length co65) y225 from Kd.V_mk (by omega) hr66)
                                                              have HC229 := Aside0.mk (show y225.length ≤ co65 from by omega)
                                                              clear hr66 hC66 hroom66 hi066 hsz66
                                                              have KY66 := Aside0.mk hy66
                                                              clear hy66
                                                              replace q66 := eq_true q66
                                                              go_wp2_with (first | ((with_reducible refine gate_builtin (b := .append) (xs := #[.tmp 131, .tmp 134]) rfl ?_); (try (refine gate_guard (by rfl) ?_; dsimp only)); at_builtin; refine Kd.N_append_rows (Kd.slice 3 (Kd.int .i64)) (w0 := w) w.heap.size rfl (.tmp 131) (.tmp 134) 24 22 (.slice none 0 0) 24 rfl Tryz.underlying24 info22 rfl (by decide) (by omega) (.slice none 0 0) ([] : List (List Int)) y225 _ _ _ (fun k_ => (w.heap.size ≤ k_) ∧ some k_ ≠ (v184 : Value).ownBlock ∧ some k_ ≠ (.slice (some ad194) t187.length co13 : Value).ownBlock ∧ some k_ ≠ (.slice Ao33 x12_5.length co33 : Value).ownBlock) (fun k_ => ((fun k_ => (w.heap.size ≤ k_) ∧ some k_ ≠ (v184 : Value).ownBlock ∧ some k_ ≠ (.slice (some ad194) t187.length co13 : Value).ownBlock ∧ some k_ ≠ (.slice Ao33 x12_5.length co33 : Value).ownBlock)) k_ ∧ some k_ ≠ (.slice none 0 0 : Value).ownBlock) rfl rfl ?aO ?aR (fun _ hk => hk) ?aF ?aB ?aS ?aL ?_; (case aR => exact (by (repeat (first | (with_reducible apply Kd.F_alloc) | (with_reducible apply Kd.F_drewN) | (with_reducible apply Kd.F_drew))); exact Kd.V_F (Kd.V_mono (ok' := (fun k_ => ((fun k_ => (w.heap.size ≤ k_) ∧ some k_ ≠ (v184 : Value).ownBlock ∧ some k_ ≠ (.slice (some ad194) t187.length co13 : Value).ownBlock ∧ some k_ ≠ (.slice Ao33 x12_5.length co33 : Value).ownBlock)) k_ ∧ some k_ ≠ (.slice none 0 0 : Value).ownBlock)) (HO229.out) (fun k_ hk => ⟨⟨hk.1, ⟨hk.2.1, ⟨hk.2.2.1, hk.2.2.2⟩⟩⟩, (by simp [Value.ownBlock])⟩)))); (case aB => exact (by repeat (first | (with_reducible first | exact HB.out | apply below_alloc | apply pw_below_drewN | apply below_drew1) | exact HB.out))); (case aF => exact (fun k_ hk => ⟨(Nat.le_trans (below_size (by repeat (first | (with_reducible first | exact HB.out | apply below_alloc | apply pw_below_drewN | apply below_drew1) | exact HB.out))) hk), Kd.fresh' (Kd.R_lt (by (with_reducible repeat (first | apply Kd.R_alloc | apply Kd.R_drewN | apply Kd.R_drew)); exact HO_7.out)) k_ hk, Kd.fresh' (Kd.N_lt (by (with_reducible repeat (first | apply Kd.N_alloc | apply Kd.N_drewN | apply Kd.N_drew)); exact HO_10.out)) k_ hk, Kd.fresh' (Kd.R_lt (by (with_reducible repeat (first | apply Kd.R_alloc | apply Kd.R_drewN | apply Kd.R_drew)); exact HO_12.out)) k_ hk⟩)); (case aO => exact ((Kd.N_nil _ _ _ _ (fun k_ => (w.heap.size ≤ k_) ∧ some k_ ≠ (v184 : Value).ownBlock ∧ some k_ ≠ (.slice (some ad194) t187.length co13 : Value).ownBlock ∧ some k_ ≠ (.slice Ao33 x12_5.length co33 : Value).ownBlock)))); (case aS => exact (below_size (by repeat (first | (with_reducible first | exact HB.out | apply below_alloc | apply pw_below_drewN | apply below_drew1) | exact HB.out)))); (case aL => have := LMc60.out; omega); intro v231 w67 ho hb hg hat; rw [← Ny230.out] at ho; have n0_ := Aside0.mk (Kd.R_grown (by (with_reducible repeat (first | apply Kd.R_alloc | apply Kd.R_drewN | apply Kd.R_drew)); exact HO_7.out) hg (fun _ _ => by simp [Value.ownBlock])); have n1_ := Aside0.mk (Kd.N_afterv (Kd.N_apart_nil (by (with_reducible repeat (first | apply Kd.N_alloc | apply Kd.N_drewN | apply Kd.N_drew)); exact HO_8.out)) hg hat); have n2_ := Aside0.mk (Kd.N_afterv (Kd.N_apart_nil (by (with_reducible repeat (first | apply Kd.N_alloc | apply Kd.N_drewN | apply Kd.N_drew)); exact HO_10.out)) hg hat); have n3_ := Aside0.mk (Kd.R_grown (by (with_reducible repeat (first | apply Kd.R_alloc | apply Kd.R_drewN | apply Kd.R_drew)); exact HO_12.out) hg (fun _ _ => by simp [Value.ownBlock])); have n4_ := Aside0.mk (Kd.V_afterv (Kd.V_apart_nil (by (with_reducible repeat (first | apply Kd.V_alloc | apply Kd.V_drewN | apply Kd.V_drew)); exact HO229.out)) hg hat); have n5_ := Aside0.mk (hb); have n6_ := Aside0.mk (ho); clear HO_7; clear HO_8; clear HO_10; clear HO_12; clear HO229; clear HB; have HO_7 := n0_; have HO_8 := n1_; have HO_10 := n2_; have HO_12 := n3_; have HO229 := n4_; have HB := n5_; have HO232 := n6_; clear n0_ n1_ n2_ n3_ n4_ n5_ n6_; clear ho hb hg hat) | ((with_reducible refine gate_builtin (b := .append) (xs := #[.tmp 136, .tmp 138]) rfl ?_); (try (refine gate_guard (by rfl) ?_; dsimp only)); at_builtin; refine Kd.N_append (Kd.slice 3 (Kd.int .i64)) (w0 := w) w.heap.size rfl (.tmp 136) (.tmp 138) 24 22 (.slice none 0 0) 24 rfl Tryz.underlying24 info22 rfl (by decide) (by omega) v231 y230 x12_5 [.slice Ao33 x12_5.length co33] (fun k_ => (w.heap.size ≤ k_) ∧ some k_ ≠ (v184 : Value).ownBlock ∧ some k_ ≠ (.slice (some ad194) t187.length co13 : Value).ownBlock) (fun k_ => ((fun k_ => (w.heap.size ≤ k_) ∧ some k_ ≠ (v184 : Value).ownBlock ∧ some k_ ≠ (.slice (some ad194) t187.length co13 : Value).ownBlock)) k_ ∧ some k_ ≠ (v231 : Value).ownBlock) rfl rfl ?aP (fun _ hk => hk) ?aF ?aO ?aB ?aS ?aL ?_; (case aP => exact (Kd.FK_slice_mk (Kd.R_reads' (Kd.R_mono (ok' := (fun k_ => ((fun k_ => (w.heap.size ≤ k_) ∧ some k_ ≠ (v184 : Value).ownBlock ∧ some k_ ≠ (.slice (some ad194) t187.length co13 : Value).ownBlock)) k_ ∧ some k_ ≠ (v231 : Value).ownBlock)) (Kd.R_apart' (Kd.R_apart' (HO_12.out) (Kd.N_typed HO_10.out) (by decide)) (Kd.N_typed HO232.out) (by decide)) (fun k_ hk => ⟨⟨hk.1.1.1, ⟨hk.1.1.2, hk.1.2⟩⟩, hk.2⟩))).2.1 (Kd.R_F (Kd.R_mono (ok' := (fun k_ => ((fun k_ => (w.heap.size ≤ k_) ∧ some k_ ≠ (v184 : Value).ownBlock ∧ some k_ ≠ (.slice (some ad194) t187.length co13 : Value).ownBlock)) k_ ∧ some k_ ≠ (v231 : Value).ownBlock)) (Kd.R_apart' (Kd.R_apart' (HO_12.out) (Kd.N_typed HO_10.out) (by decide)) (Kd.N_typed HO232.out) (by decide)) (fun k_ hk => ⟨⟨hk.1.1.1, ⟨hk.1.1.2, hk.1.2⟩⟩, hk.2⟩))))); (case aB => exact (by repeat (first | (with_reducible first | exact HB.out | apply below_alloc | apply pw_below_drewN | apply below_drew1) | exact HB.out))); (case aF => exact (fun k_ hk => ⟨(Nat.le_trans (below_size (by repeat (first | (with_reducible first | exact HB.out | apply below_alloc | apply pw_below_drewN | apply below_drew1) | exact HB.out))) hk), Kd.fresh' (Kd.R_lt (by (with_reducible repeat (first | apply Kd.R_alloc | apply Kd.R_drewN | apply Kd.R_drew)); exact HO_7.out)) k_ hk, Kd.fresh' (Kd.N_lt (by (with_reducible repeat (first | apply Kd.N_alloc | apply Kd.N_drewN | apply Kd.N_drew)); exact HO_10.out)) k_ hk⟩)); (case aO => exact (by (with_reducible repeat (first | apply Kd.N_alloc | apply Kd.N_drewN | apply Kd.N_drew)); exact Kd.N_mono HO232.out (fun _ hk => ⟨hk.1, ⟨hk.2.1, hk.2.2.1⟩⟩))); (case aS => exact (below_size (by repeat (first | (with_reducible first | exact HB.out | apply below_alloc | apply pw_below_drewN | apply below_drew1) | exact HB.out)))); (case aL => have := LMc61.out; omega); intro v234 w68 ho hb hg hat; rw [← Ny233.out] at ho; have n0_ := Aside0.mk (Kd.R_over' (by (with_reducible repeat (first | apply Kd.R_alloc | apply Kd.R_drewN | apply Kd.R_drew)); exact HO_7.out) (Kd.N_typed (by (with_reducible repeat (first | apply Kd.N_alloc | apply Kd.N_drewN | apply Kd.N_drew)); exact HO232.out)) (by decide) hg); have n1_ := Aside0.mk (Kd.N_afterv (ok := (fun k_ => (w.heap.size ≤ k_) ∧ some k_ ≠ (v184 : Value).ownBlock ∧ some k_ ≠ (.slice (some ad194) t187.length co13 : Value).ownBlock ∧ some k_ ≠ (.slice Ao33 x12_5.length co33 : Value).ownBlock)) (by (with_reducible repeat (first | apply Kd.N_alloc | apply Kd.N_drewN | apply Kd.N_drew)); exact HO_8.out) hg hat); have n2_ := Aside0.mk (Kd.N_afterv (ok := (fun k_ => (w.heap.size ≤ k_) ∧ some k_ ≠ (v184 : Value).ownBlock ∧ some k_ ≠ (.slice Ao65 x8_3.length co65 : Value).ownBlock ∧ some k_ ≠ (.slice Ao33 x12_5.length co33 : Value).ownBlock)) (by (with_reducible repeat (first | apply Kd.N_alloc | apply Kd.N_drewN | apply Kd.N_drew)); exact HO_10.out) hg hat); have n3_ := Aside0.mk (Kd.V_afterv (ok := (fun k_ => (w.heap.size ≤ k_) ∧ some k_ ≠ (v184 : Value).ownBlock ∧ some k_ ≠ (.slice (some ad194) t187.length co13 : Value).ownBlock ∧ some k_ ≠ (.slice Ao33 x12_5.length co33 : Value).ownBlock)) (by (with_reducible repeat (first | apply Kd.V_alloc | apply Kd.V_drewN | apply Kd.V_drew)); exact HO229.out) hg hat); have n4_ := Aside0.mk (hb); have n5_ := Aside0.mk (ho); clear HO_7; clear HO_8; clear HO_10; clear HO229; clear HB; clear HO232; clear HO_12; have HO_7 := n0_; have HO_8 := n1_; have HO_10 := n2_; have HO229 := n3_; have HB := n4_; have HO235 := n5_; clear n0_ n1_ n2_ n3_ n4_ n5_; clear ho hb hg hat; have q69 : (x17_7 : Int) ≤ ((x8_3.length : Int) : Int) := of_decide_eq_true (by first | (with_reducible assumption) | assumption); obtain ⟨i069, hi069, _, hsz69, _⟩ := info_parts info22; have hroom69 : x8_3.length ≤ co65 := (Kd.N_reads' HO_8.out).2.1; have hC69 : Kd.F (Kd.slice 3 (Kd.int .i64)) _ _ Ao65 x8_3.length x8_3 := (Kd.V_at (base := w.heap.size) (Kd.N_V HO_8.out)).2.2; have q069 : (0 : Int) ≤ (x17_7 : Int) := of_decide_eq_true (by first | (with_reducible assumption) | assumption); have hcut69 := cut_from (P := Tryz.prog) 24 22 .i64 Tryz.underlying24 hi069 1 hsz69 Ao65 x8_3.length co65 x17_7 q069 q69; have hr69 := Kd.F_cut (m := (x17_7 : Int).toNat) (c := co65) hC69 (by omega) hroom69; obtain ⟨A69, hA69⟩ : ∃ A1, A1 = (if co65 = (x17_7 : Int).toNat then Ao65 else (Ao65 : Option Addr).map (·.add ((x17_7 : Int).toNat * 1))) := ⟨_, rfl⟩; obtain ⟨c69, hc69⟩ : ∃ c1, c1 = co65 - (x17_7 : Int).toNat := ⟨_, rfl⟩; have hy69 : y236.length = x8_3.length - (x17_7 : Int).toNat := (by rw [Ny236.out, List.length_drop] <;> omega); rw [show (x8_3).drop (x17_7 : Int).toNat = y236 from Ny236.out.symm] at hr69; replace hr69 : Kd.F (Kd.slice 3 (Kd.int .i64)) _ _ A69 y236.length y236 := (by rw [hA69]; exact hr69); rw [← hy69, ← hA69, ← hc69] at hcut69; have HO240 := Aside0.mk (show Kd.V (Kd.slice 3 (Kd.int .i64)) 22 _ w.heap.size _ (.slice A69 y236.length c69) y236 from Kd.V_mk (by rw [hy69, hc69]; exact Nat.sub_le_sub_right hroom69 _) hr69); have HC240 := Aside0.mk (show y236.length ≤ c69 from by rw [hy69, hc69]; exact Nat.sub_le_sub_right hroom69 _); clear hr69 hC69 hroom69 hi069 hsz69 hc69; have KY69 := Aside0.mk hy69; have KA69 := Aside0.mk hA69; clear hy69 hA69; replace q69 := eq_true q69) | ((with_reducible refine gate_builtin (b := .append) (xs := #[.tmp 140, .tmp 143]) rfl ?_); (try (refine gate_guard (by rfl) ?_; dsimp only)); at_builtin; refine Kd.N_append_rows (Kd.slice 3 (Kd.int .i64)) (w0 := w) w.heap.size rfl (.tmp 140) (.tmp 143) 24 22 (.slice none 0 0) 24 rfl Tryz.underlying24 info22 rfl (by decide) (by omega) v234 y233 y236 _ _ _ (fun k_ => (w.heap.size ≤ k_) ∧ some k_ ≠ (v184 : Value).ownBlock ∧ some k_ ≠ (.slice (some ad194) t187.length co13 : Value).ownBlock) (fun k_ => ((fun k_ => (w.heap.size ≤ k_) ∧ some k_ ≠ (v184 : Value).ownBlock ∧ some k_ ≠ (.slice (some ad194) t187.length co13 : Value).ownBlock)) k_ ∧ some k_ ≠ (v234 : Value).ownBlock) rfl rfl ?aO ?aR (fun _ hk => hk) ?aF ?aB ?aS ?aL ?_; (case aR => exact (by (repeat (first | (with_reducible apply Kd.F_alloc) | (with_reducible apply Kd.F_drewN) | (with_reducible apply Kd.F_drew))); exact Kd.V_F (Kd.V_mono (ok' := (fun k_ => ((fun k_ => (w.heap.size ≤ k_) ∧ some k_ ≠ (v184 : Value).ownBlock ∧ some k_ ≠ (.slice (some ad194) t187.length co13 : Value).ownBlock)) k_ ∧ some k_ ≠ (v234 : Value).ownBlock)) (HO240.out) (fun k_ hk => ⟨⟨hk.1.1, ⟨hk.1.2.1, hk.1.2.2.1⟩⟩, hk.2⟩)))); (case aB => exact (by repeat (first | (with_reducible first | exact HB.out | apply below_alloc | apply pw_below_drewN | apply below_drew1) | exact HB.out))); (case aF => exact (fun k_ hk => ⟨(Nat.le_trans (below_size (by repeat (first | (with_reducible first | exact HB.out | apply below_alloc | apply pw_below_drewN | apply below_drew1) | exact HB.out))) hk), Kd.fresh' (Kd.R_lt (by (with_reducible repeat (first | apply Kd.R_alloc | apply Kd.R_drewN | apply Kd.R_drew)); exact HO_7.out)) k_ hk, Kd.fresh' (Kd.N_lt (by (with_reducible repeat (first | apply Kd.N_alloc | apply Kd.N_drewN | apply Kd.N_drew)); exact HO_10.out)) k_ hk⟩)); (case aO => exact (by (with_reducible repeat (first | apply Kd.N_alloc | apply Kd.N_drewN | apply Kd.N_drew)); exact HO235.out)); (case aS => exact (below_size (by repeat (first | (with_reducible first | exact HB.out | apply below_alloc | apply pw_below_drewN | apply below_drew1) | exact HB.out)))); (case aL => have := LMc64.out; omega); intro v242 w70 ho hb hg hat; rw [← Ny241.out] at ho; have n0_ := Aside0.mk (Kd.R_over' (by (with_reducible repeat (first | apply Kd.R_alloc | apply Kd.R_drewN | apply Kd.R_drew)); exact HO_7.out) (Kd.N_typed (by (with_reducible repeat (first | apply Kd.N_alloc | apply Kd.N_drewN | apply Kd.N_drew)); exact HO235.out)) (by decide) hg); have n1_ := Aside0.mk (Kd.N_afterv (ok := (fun k_ => (w.heap.size ≤ k_) ∧ some k_ ≠ (v184 : Value).ownBlock ∧ some k_ ≠ (.slice (some ad194) t187.length co13 : Value).ownBlock)) (by (with_reducible repeat (first | apply Kd.N_alloc | apply Kd.N_drewN | apply Kd.N_drew)); exact Kd.N_mono HO_8.out (fun _ hk => ⟨⟨hk.1.1, ⟨hk.1.2.1, hk.1.2.2.1⟩⟩, hk.2⟩)) hg hat); have n2_ := Aside0.mk (Kd.N_afterv (ok := (fun k_ => (w.heap.size ≤ k_) ∧ some k_ ≠ (v184 : Value).ownBlock ∧ some k_ ≠ (.slice Ao65 x8_3.length co65 : Value).ownBlock)) (by (with_reducible repeat (first | apply Kd.N_alloc | apply Kd.N_drewN | apply Kd.N_drew)); exact Kd.N_mono HO_10.out (fun _ hk => ⟨⟨hk.1.1, ⟨hk.1.2.1, hk.1.2.2.1⟩⟩, hk.2⟩)) hg hat); have n3_ := Aside0.mk (Kd.V_afterv (ok := (fun k_ => (w.heap.size ≤ k_) ∧ some k_ ≠ (v184 : Value).ownBlock ∧ some k_ ≠ (.slice (some ad194) t187.length co13 : Value).ownBlock)) (by (with_reducible repeat (first | apply Kd.V_alloc | apply Kd.V_drewN | apply Kd.V_drew)); exact Kd.V_mono HO229.out (fun _ hk => ⟨⟨hk.1.1, ⟨hk.1.2.1, hk.1.2.2.1⟩⟩, hk.2⟩)) hg hat); have n4_ := Aside0.mk (Kd.V_afterv (ok := (fun k_ => (w.heap.size ≤ k_) ∧ some k_ ≠ (v184 : Value).ownBlock ∧ some k_ ≠ (.slice (some ad194) t187.length co13 : Value).ownBlock)) (by (with_reducible repeat (first | apply Kd.V_alloc | apply Kd.V_drewN | apply Kd.V_drew)); exact Kd.V_mono HO240.out (fun _ hk => ⟨⟨hk.1.1, ⟨hk.1.2.1, hk.1.2.2.1⟩⟩, hk.2⟩)) hg hat); have n5_ := Aside0.mk (hb); have n6_ := Aside0.mk (ho); clear HO_7; clear HO_8; clear HO_10; clear HO229; clear HO240; clear HB; clear HO235; have HO_7 := n0_; have HO_8 := n1_; have HO_10 := n2_; have HO229 := n3_; have HO240 := n4_; have HB := n5_; have HO243 := n6_; clear n0_ n1_ n2_ n3_ n4_ n5_ n6_; clear ho hb hg hat))
                                                              go_roundg k7
                                                              case measure => have := HK1.out; have := HK2.out; have := HK3.out; have := HK4.out; have := HK5.out; have := HK6.out; have := HK7.out; omega
                                                              case rel => exact ⟨(y241), (wrap64 (x11_3 + 1)), (by first | rfl | (simp; done) | (simp [*]; done)), H', ⟨by have := HK1.out; have := HK2.out; have := HK3.out; have := HK4.out; have := HK5.out; have := HK6.out; have := HK7.out; omega⟩, ⟨by (with_reducible repeat (first | apply Kd.R_alloc | apply Kd.R_drewN | apply Kd.R_drew)); exact Kd.R_mono HO_7.out (fun _ hk => hk.1)⟩, ⟨by (with_reducible repeat (first | apply Kd.N_alloc | apply Kd.N_drewN | apply Kd.N_drew)); exact HO243.out⟩, ⟨by (with_reducible repeat (first | apply Kd.N_alloc | apply Kd.N_drewN | apply Kd.N_drew)); exact Kd.N_mono HO_10.out (fun _ hk => ⟨hk.1.1, ⟨hk.1.2.1, hk.2⟩⟩)⟩, ⟨by repeat (first | (with_reducible first | exact HB.out | apply below_alloc | apply pw_below_drewN | apply below_drew1) | exact HB.out)⟩⟩
                                                            · rw [if_neg c64] at H
                                                              exact absurd H (by simp)
                                                          · rw [if_neg c61] at H
                                                            exact absurd H (by simp)
                                                        · rw [if_neg c60] at H
                                                          exact absurd H (by simp)
                                                      · rw [if_neg c59] at H
                                                        exact absurd H (by simp)
                                                    · rw [if_neg c58] at H
                                                      exact absurd H (by simp)
                                                  · rw [if_neg c57] at H
                                                    have c57b0 : (x15_6 == 0) = false := beq_eq_false_iff_ne.mpr c57
                                                    have c57b1 : (x15_6 != 0) = true := bne_iff_ne.mpr c57
                                                    have H' := Aside0.mk H
                                                    clear H
                                                    obtain ⟨Ao71, co71, eo71⟩ := Kd.N_slice HO_8.out
                                                    subst eo71
                                                    go_wp2
                                                    go_roundg k7
                                                    case measure => have := HK1.out; have := HK2.out; have := HK3.out; have := HK4.out; have := HK5.out; have := HK6.out; have := HK7.out; omega
                                                    case rel => exact ⟨(x8_3), (wrap64 (x11_3 + 1)), (by first | rfl | (simp; done) | (simp [*]; done)), H', ⟨by have := HK1.out; have := HK2.out; have := HK3.out; have := HK4.out; have := HK5.out; have := HK6.out; have := HK7.out; omega⟩, ⟨by (with_reducible repeat (first | apply Kd.R_alloc | apply Kd.R_drewN | apply Kd.R_drew)); exact Kd.R_mono HO_7.out (fun _ hk => hk.1)⟩, ⟨by (with_reducible repeat (first | apply Kd.N_alloc | apply Kd.N_drewN | apply Kd.N_drew)); exact Kd.N_mono HO_8.out (fun _ hk => ⟨hk.1, ⟨hk.2.1, hk.2.2.1⟩⟩)⟩, ⟨by (with_reducible repeat (first | apply Kd.N_alloc | apply Kd.N_drewN | apply Kd.N_drew)); exact Kd.N_mono HO_10.out (fun _ hk => ⟨hk.1, ⟨hk.2.1, hk.2.2.1⟩⟩)⟩, ⟨by repeat (first | (with_reducible first | exact HB.out | apply below_alloc | apply pw_below_drewN | apply below_drew1) | exact HB.out)⟩⟩
                                  · rw [if_neg c21] at H
                                    exact absurd H (by simp)
                                · rw [if_neg c20] at H
                                  exact absurd H (by simp)
                    · rw [if_neg c12] at H
                      have c12b0 : decide (x11_3 < (t187.length : Int)) = false := decide_eq_false c12
                      clear c12
                      have H' := Aside0.mk H
                      clear H
                      obtain ⟨Ao72, co72, eo72⟩ := Kd.N_slice HO_10.out
                      subst eo72
                      go_wp2
                      go_roundg k3
                      case measure => have := HK1.out; have := HK2.out; have := HK3.out; omega
                      case rel => exact ⟨(x8_3), (wrap64 (x9_2 + 1)), (by first | rfl | (simp; done) | (simp [*]; done)), H', ⟨by have := HK1.out; have := HK2.out; have := HK3.out; omega⟩, ⟨by (with_reducible repeat (first | apply Kd.R_alloc | apply Kd.R_drewN | apply Kd.R_drew)); exact HO_7.out⟩, ⟨by (with_reducible repeat (first | apply Kd.N_alloc | apply Kd.N_drewN | apply Kd.N_drew)); exact Kd.N_mono HO_8.out (fun _ hk => ⟨hk.1, hk.2.1⟩)⟩, ⟨by repeat (first | (with_reducible first | exact HB.out | apply below_alloc | apply pw_below_drewN | apply below_drew1) | exact HB.out)⟩⟩
              · rw [if_neg c9] at H
                exact absurd H (by simp)
            · rw [if_neg c8] at H
              have c8b0 : decide (x9_2 < (l1.length : Int)) = false := decide_eq_false c8
              clear c8
              obtain rfl := Option.some.inj H
              go_wp2
              go_ret
              exact ⟨_, by first | rfl | (simp [errW_none, errW_some] <;> rfl) | (simp [*, errW_none, errW_some] <;> rfl), by (with_reducible repeat (first | apply Kd.N_alloc | apply Kd.N_drewN | apply Kd.N_drew)); exact Kd.N_mono HO_8.out (fun _ hk => hk.1), by repeat (first | (with_reducible first | exact HB.out | apply below_alloc | apply pw_below_drewN | apply below_drew1) | exact HB.out)⟩

end Go.Proofs.YtkfbdhlfajdpgaaGreatDoor.PHeapMoves
