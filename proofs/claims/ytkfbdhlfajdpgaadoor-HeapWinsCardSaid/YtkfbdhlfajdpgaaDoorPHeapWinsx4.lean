-- printed by wip/pp.py (my patched run of the kit's printer)
import Derived.WalkMore
import Derived.Test.YtkfbdhlfajdpgaaDoorPHeapWinsx0
import Derived.Test.YtkfbdhlfajdpgaaDoorPHeapWinsx1
namespace Go.Proofs.YtkfbdhlfajdpgaaDoor.PHeapWins
open Go.RowKit Go.Proofs.YtkfbdhlfajdpgaaDoorW.PrintWords Go.Proofs.YtkfbdhlfajdpgaaDoorW.PrintLast Go.Proofs.YtkfbdhlfajdpgaaDoorW.PrintMore
attribute [local go_sem] max2_int min2_int max_two min_two max_three min_three max_four min_four   -- for this text's walks alone
set_option linter.unusedVariables false
set_option linter.unusedSimpArgs false

attribute [local go_sem high] eqA71
/-! ### heap_outcomes: function 41 -/
mutual
def heap_outcomes.l0 : Nat → List (List Int) → List (S71) → Int → Int → Option ((List (S71)))
  | 0, _, _, _, _ => none
  | k + 1, x0, x3, x24, x25 => if x25 < x24 then (if 0 ≤ x25 then (if x25 < (x3.length : Int) then (heap_outcomes.l0 k x0 (x3.set (x25 : Int).toNat (⟨2, 0⟩ : S71)) x24 (wrap64 (x25 + 1))) else (none)) else (none)) else (heap_outcomes.l1 k x0 x3 0)
def heap_outcomes.l1 : Nat → List (List Int) → List (S71) → Int → Option ((List (S71)))
  | 0, _, _, _ => none
  | k + 1, x0, x3, x5 => if x5 ≤ (x0.length : Int) then (heap_outcomes.l2 k x0 x3 x5 ([] : List Int) x0 (x0.length : Int) 0) else (some x3)
def heap_outcomes.l2 : Nat → List (List Int) → List (S71) → Int → List Int → List (List Int) → Int → Int → Option ((List (S71)))
  | 0, _, _, _, _, _, _, _ => none
  | k + 1, x0, x3, x5, x6, x39, x40, x41 => if x41 < x40 then (if 0 ≤ x41 then (if x41 < (x39.length : Int) then (if x41 < (x3.length : Int) then (if ((rd_T71 x3 x41).f0) = 2 then (heap_outcomes.l3 k x0 x3 x5 x6 x41 (rd_L2 x39 x41) false x39 x40 x41 (rd_L2 x39 x41) ((rd_L2 x39 x41).length : Int) 0) else (heap_outcomes.l2 k x0 x3 x5 x6 x39 x40 (wrap64 (x41 + 1)))) else (none)) else (none)) else (none)) else (heap_outcomes.l5 k x0 x3 x5 x6 (x6.length : Int) 0)
def heap_outcomes.l3 : Nat → List (List Int) → List (S71) → Int → List Int → Int → List Int → Bool → List (List Int) → Int → Int → List Int → Int → Int → Option ((List (S71)))
  | 0, _, _, _, _, _, _, _, _, _, _, _, _, _ => none
  | k + 1, x0, x3, x5, x6, x7, x8, x9, x39, x40, x41, x52, x53, x54 => if x54 < x53 then (if 0 ≤ x54 then (if x54 < (x52.length : Int) then (if x9 = true then (heap_outcomes.l3 k x0 x3 x5 x6 x7 x8 true x39 x40 x41 x52 x53 (wrap64 (x54 + 1))) else (if 0 ≤ (rd x52 x54) then (if (rd x52 x54) < (x3.length : Int) then (if ((rd_T71 x3 (rd x52 x54)).f0) = 0 then (heap_outcomes.l3 k x0 x3 x5 x6 x7 x8 (((rd_T71 x3 (rd x52 x54)).f1) == (wrap64 (x5 - 1))) x39 x40 x41 x52 x53 (wrap64 (x54 + 1))) else (heap_outcomes.l3 k x0 x3 x5 x6 x7 x8 false x39 x40 x41 x52 x53 (wrap64 (x54 + 1)))) else (none)) else (none))) else (none)) else (none)) else (if x9 = true then (if x6.length < 17592186044416 then (heap_outcomes.l2 k x0 x3 x5 (x6 ++ [x7]) x39 x40 (wrap64 (x41 + 1))) else (none)) else (heap_outcomes.l4 k x0 x3 x5 x6 x7 (-1) x39 x40 x41 x8 (x8.length : Int) 0))
def heap_outcomes.l4 : Nat → List (List Int) → List (S71) → Int → List Int → Int → Int → List (List Int) → Int → Int → List Int → Int → Int → Option ((List (S71)))
  | 0, _, _, _, _, _, _, _, _, _, _, _, _ => none
  | k + 1, x0, x3, x5, x6, x7, x12, x39, x40, x41, x83, x84, x85 => if x85 < x84 then (if 0 ≤ x85 then (if x85 < (x83.length : Int) then (if 0 ≤ (rd x83 x85) then (if (rd x83 x85) < (x3.length : Int) then (if ((rd_T71 x3 (rd x83 x85)).f0) = 1 then (heap_outcomes.l4 k x0 x3 x5 x6 x7 (mx x12 ((rd_T71 x3 (rd x83 x85)).f1)) x39 x40 x41 x83 x84 (wrap64 (x85 + 1))) else (heap_outcomes.l2 k x0 x3 x5 x6 x39 x40 (wrap64 (x41 + 1)))) else (none)) else (none)) else (none)) else (none)) else (if x12 = (wrap64 (x5 - 1)) then (if x6.length < 17592186044416 then (heap_outcomes.l2 k x0 x3 x5 (x6 ++ [x7]) x39 x40 (wrap64 (x41 + 1))) else (none)) else (heap_outcomes.l2 k x0 x3 x5 x6 x39 x40 (wrap64 (x41 + 1))))
def heap_outcomes.l5 : Nat → List (List Int) → List (S71) → Int → List Int → Int → Int → Option ((List (S71)))
  | 0, _, _, _, _, _, _ => none
  | k + 1, x0, x3, x5, x112, x113, x114 => if x114 < x113 then (if 0 ≤ x114 then (if x114 < (x112.length : Int) then (if 0 ≤ (rd x112 x114) then (if (rd x112 x114) < (x0.length : Int) then (heap_outcomes.l6 k x0 x3 x5 (rd x112 x114) 0 x112 x113 x114 (rd_L2 x0 (rd x112 x114)) ((rd_L2 x0 (rd x112 x114)).length : Int) 0) else (none)) else (none)) else (none)) else (none)) else (heap_outcomes.l1 k x0 x3 (wrap64 (x5 + 1)))
def heap_outcomes.l6 : Nat → List (List Int) → List (S71) → Int → Int → Int → List Int → Int → Int → List Int → Int → Int → Option ((List (S71)))
  | 0, _, _, _, _, _, _, _, _, _, _, _ => none
  | k + 1, x0, x3, x5, x16, x17, x112, x113, x114, x121, x122, x123 => if x123 < x122 then (if 0 ≤ x123 then (if x123 < (x121.length : Int) then (if 0 ≤ (rd x121 x123) then (if (rd x121 x123) < (x3.length : Int) then (if (((rd_T71 x3 (rd x121 x123)).f0) == 0 && (((rd_T71 x3 (rd x121 x123)).f1) == (wrap64 (x5 - 1)))) = true then (heap_outcomes.l6 k x0 x3 x5 x16 1 x112 x113 x114 x121 x122 (wrap64 (x123 + 1))) else (heap_outcomes.l6 k x0 x3 x5 x16 x17 x112 x113 x114 x121 x122 (wrap64 (x123 + 1)))) else (none)) else (none)) else (none)) else (none)) else (if 0 ≤ x16 then (if x16 < (x3.length : Int) then (heap_outcomes.l5 k x0 (x3.set (x16 : Int).toNat (⟨x17, x5⟩ : S71)) x5 x112 x113 (wrap64 (x114 + 1))) else (none)) else (none))
end
def heap_outcomes.f (k : Nat) (l0 : List (List Int)) : Option ((List (S71))) := if 0 ≤ (l0.length : Int) then (if ((l0.length : Int) : Int).toNat ≤ 17592186044416 then ((some (List.replicate ((l0.length : Int) : Int).toNat z71 : List (S71))).bind fun y126 => (heap_outcomes.l0 k l0 y126 (y126.length : Int) 0)) else (none)) else (none)
theorem heap_outcomes.mono_l : ∀ k, (∀ y0 y1 y2 y3, LeO (heap_outcomes.l0 k y0 y1 y2 y3) (heap_outcomes.l0 (k + 1) y0 y1 y2 y3)) ∧ (∀ y0 y1 y2, LeO (heap_outcomes.l1 k y0 y1 y2) (heap_outcomes.l1 (k + 1) y0 y1 y2)) ∧ (∀ y0 y1 y2 y3 y4 y5 y6, LeO (heap_outcomes.l2 k y0 y1 y2 y3 y4 y5 y6) (heap_outcomes.l2 (k + 1) y0 y1 y2 y3 y4 y5 y6)) ∧ (∀ y0 y1 y2 y3 y4 y5 y6 y7 y8 y9 y10 y11 y12, LeO (heap_outcomes.l3 k y0 y1 y2 y3 y4 y5 y6 y7 y8 y9 y10 y11 y12) (heap_outcomes.l3 (k + 1) y0 y1 y2 y3 y4 y5 y6 y7 y8 y9 y10 y11 y12)) ∧ (∀ y0 y1 y2 y3 y4 y5 y6 y7 y8 y9 y10 y11, LeO (heap_outcomes.l4 k y0 y1 y2 y3 y4 y5 y6 y7 y8 y9 y10 y11) (heap_outcomes.l4 (k + 1) y0 y1 y2 y3 y4 y5 y6 y7 y8 y9 y10 y11)) ∧ (∀ y0 y1 y2 y3 y4 y5, LeO (heap_outcomes.l5 k y0 y1 y2 y3 y4 y5) (heap_outcomes.l5 (k + 1) y0 y1 y2 y3 y4 y5)) ∧ (∀ y0 y1 y2 y3 y4 y5 y6 y7 y8 y9 y10, LeO (heap_outcomes.l6 k y0 y1 y2 y3 y4 y5 y6 y7 y8 y9 y10) (heap_outcomes.l6 (k + 1) y0 y1 y2 y3 y4 y5 y6 y7 y8 y9 y10))
  | 0 => ⟨fun _ _ _ _ r h => by simp [heap_outcomes.l0] at h, fun _ _ _ r h => by simp [heap_outcomes.l1] at h, fun _ _ _ _ _ _ _ r h => by simp [heap_outcomes.l2] at h, fun _ _ _ _ _ _ _ _ _ _ _ _ _ r h => by simp [heap_outcomes.l3] at h, fun _ _ _ _ _ _ _ _ _ _ _ _ r h => by simp [heap_outcomes.l4] at h, fun _ _ _ _ _ _ r h => by simp [heap_outcomes.l5] at h, fun _ _ _ _ _ _ _ _ _ _ _ r h => by simp [heap_outcomes.l6] at h⟩
  | k + 1 => by
    obtain ⟨ih0, ih1, ih2, ih3, ih4, ih5, ih6⟩ := heap_outcomes.mono_l k
    refine ⟨?_, ?_, ?_, ?_, ?_, ?_, ?_⟩
    · intro y0 y1 y2 y3
      unfold heap_outcomes.l0
      repeat' first
      | (with_reducible exact ih0 _ _ _ _)
      | (with_reducible exact ih1 _ _ _)
      | (with_reducible exact ih2 _ _ _ _ _ _ _)
      | (with_reducible exact ih3 _ _ _ _ _ _ _ _ _ _ _ _ _)
      | (with_reducible exact ih4 _ _ _ _ _ _ _ _ _ _ _ _)
      | (with_reducible exact ih5 _ _ _ _ _ _)
      | (with_reducible exact ih6 _ _ _ _ _ _ _ _ _ _ _)
      | (with_reducible exact LeO.refl _)
      | (with_reducible exact LeO.none _)
      | (with_reducible refine LeO.ite ?_ ?_)
      | (with_reducible refine LeO.bind ?_ (fun _ => ?_))
      | exact ih0 _ _ _ _
      | exact ih1 _ _ _
      | exact ih2 _ _ _ _ _ _ _
      | exact ih3 _ _ _ _ _ _ _ _ _ _ _ _ _
      | exact ih4 _ _ _ _ _ _ _ _ _ _ _ _
      | exact ih5 _ _ _ _ _ _
      | exact ih6 _ _ _ _ _ _ _ _ _ _ _
      | exact LeO.none _
      | refine LeO.ite ?_ ?_
      | refine LeO.bind ?_ (fun _ => ?_)
    · intro y0 y1 y2
      unfold heap_outcomes.l1
      repeat' first
      | (with_reducible exact ih0 _ _ _ _)
      | (with_reducible exact ih1 _ _ _)
      | (with_reducible exact ih2 _ _ _ _ _ _ _)
      | (with_reducible exact ih3 _ _ _ _ _ _ _ _ _ _ _ _ _)
      | (with_reducible exact ih4 _ _ _ _ _ _ _ _ _ _ _ _)
      | (with_reducible exact ih5 _ _ _ _ _ _)
      | (with_reducible exact ih6 _ _ _ _ _ _ _ _ _ _ _)
      | (with_reducible exact LeO.refl _)
      | (with_reducible exact LeO.none _)
      | (with_reducible refine LeO.ite ?_ ?_)
      | (with_reducible refine LeO.bind ?_ (fun _ => ?_))
      | exact ih0 _ _ _ _
      | exact ih1 _ _ _
      | exact ih2 _ _ _ _ _ _ _
      | exact ih3 _ _ _ _ _ _ _ _ _ _ _ _ _
      | exact ih4 _ _ _ _ _ _ _ _ _ _ _ _
      | exact ih5 _ _ _ _ _ _
      | exact ih6 _ _ _ _ _ _ _ _ _ _ _
      | exact LeO.none _
      | refine LeO.ite ?_ ?_
      | refine LeO.bind ?_ (fun _ => ?_)
    · intro y0 y1 y2 y3 y4 y5 y6
      unfold heap_outcomes.l2
      repeat' first
      | (with_reducible exact ih0 _ _ _ _)
      | (with_reducible exact ih1 _ _ _)
      | (with_reducible exact ih2 _ _ _ _ _ _ _)
      | (with_reducible exact ih3 _ _ _ _ _ _ _ _ _ _ _ _ _)
      | (with_reducible exact ih4 _ _ _ _ _ _ _ _ _ _ _ _)
      | (with_reducible exact ih5 _ _ _ _ _ _)
      | (with_reducible exact ih6 _ _ _ _ _ _ _ _ _ _ _)
      | (with_reducible exact LeO.refl _)
      | (with_reducible exact LeO.none _)
      | (with_reducible refine LeO.ite ?_ ?_)
      | (with_reducible refine LeO.bind ?_ (fun _ => ?_))
      | exact ih0 _ _ _ _
      | exact ih1 _ _ _
      | exact ih2 _ _ _ _ _ _ _
      | exact ih3 _ _ _ _ _ _ _ _ _ _ _ _ _
      | exact ih4 _ _ _ _ _ _ _ _ _ _ _ _
      | exact ih5 _ _ _ _ _ _
      | exact ih6 _ _ _ _ _ _ _ _ _ _ _
      | exact LeO.none _
      | refine LeO.ite ?_ ?_
      | refine LeO.bind ?_ (fun _ => ?_)
    · intro y0 y1 y2 y3 y4 y5 y6 y7 y8 y9 y10 y11 y12
      unfold heap_outcomes.l3
      repeat' first
      | (with_reducible exact ih0 _ _ _ _)
      | (with_reducible exact ih1 _ _ _)
      | (with_reducible exact ih2 _ _ _ _ _ _ _)
      | (with_reducible exact ih3 _ _ _ _ _ _ _ _ _ _ _ _ _)
      | (with_reducible exact ih4 _ _ _ _ _ _ _ _ _ _ _ _)
      | (with_reducible exact ih5 _ _ _ _ _ _)
      | (with_reducible exact ih6 _ _ _ _ _ _ _ _ _ _ _)
      | (with_reducible exact LeO.refl _)
      | (with_reducible exact LeO.none _)
      | (with_reducible refine LeO.ite ?_ ?_)
      | (with_reducible refine LeO.bind ?_ (fun _ => ?_))
      | exact ih0 _ _ _ _
      | exact ih1 _ _ _
      | exact ih2 _ _ _ _ _ _ _
      | exact ih3 _ _ _ _ _ _ _ _ _ _ _ _ _
      | exact ih4 _ _ _ _ _ _ _ _ _ _ _ _
      | exact ih5 _ _ _ _ _ _
      | exact ih6 _ _ _ _ _ _ _ _ _ _ _
      | exact LeO.none _
      | refine LeO.ite ?_ ?_
      | refine LeO.bind ?_ (fun _ => ?_)
    · intro y0 y1 y2 y3 y4 y5 y6 y7 y8 y9 y10 y11
      unfold heap_outcomes.l4
      repeat' first
      | (with_reducible exact ih0 _ _ _ _)
      | (with_reducible exact ih1 _ _ _)
      | (with_reducible exact ih2 _ _ _ _ _ _ _)
      | (with_reducible exact ih3 _ _ _ _ _ _ _ _ _ _ _ _ _)
      | (with_reducible exact ih4 _ _ _ _ _ _ _ _ _ _ _ _)
      | (with_reducible exact ih5 _ _ _ _ _ _)
      | (with_reducible exact ih6 _ _ _ _ _ _ _ _ _ _ _)
      | (with_reducible exact LeO.refl _)
      | (with_reducible exact LeO.none _)
      | (with_reducible refine LeO.ite ?_ ?_)
      | (with_reducible refine LeO.bind ?_ (fun _ => ?_))
      | exact ih0 _ _ _ _
      | exact ih1 _ _ _
      | exact ih2 _ _ _ _ _ _ _
      | exact ih3 _ _ _ _ _ _ _ _ _ _ _ _ _
      | exact ih4 _ _ _ _ _ _ _ _ _ _ _ _
      | exact ih5 _ _ _ _ _ _
      | exact ih6 _ _ _ _ _ _ _ _ _ _ _
      | exact LeO.none _
      | refine LeO.ite ?_ ?_
      | refine LeO.bind ?_ (fun _ => ?_)
    · intro y0 y1 y2 y3 y4 y5
      unfold heap_outcomes.l5
      repeat' first
      | (with_reducible exact ih0 _ _ _ _)
      | (with_reducible exact ih1 _ _ _)
      | (with_reducible exact ih2 _ _ _ _ _ _ _)
      | (with_reducible exact ih3 _ _ _ _ _ _ _ _ _ _ _ _ _)
      | (with_reducible exact ih4 _ _ _ _ _ _ _ _ _ _ _ _)
      | (with_reducible exact ih5 _ _ _ _ _ _)
      | (with_reducible exact ih6 _ _ _ _ _ _ _ _ _ _ _)
      | (with_reducible exact LeO.refl _)
      | (with_reducible exact LeO.none _)
      | (with_reducible refine LeO.ite ?_ ?_)
      | (with_reducible refine LeO.bind ?_ (fun _ => ?_))
      | exact ih0 _ _ _ _
      | exact ih1 _ _ _
      | exact ih2 _ _ _ _ _ _ _
      | exact ih3 _ _ _ _ _ _ _ _ _ _ _ _ _
      | exact ih4 _ _ _ _ _ _ _ _ _ _ _ _
      | exact ih5 _ _ _ _ _ _
      | exact ih6 _ _ _ _ _ _ _ _ _ _ _
      | exact LeO.none _
      | refine LeO.ite ?_ ?_
      | refine LeO.bind ?_ (fun _ => ?_)
    · intro y0 y1 y2 y3 y4 y5 y6 y7 y8 y9 y10
      unfold heap_outcomes.l6
      repeat' first
      | (with_reducible exact ih0 _ _ _ _)
      | (with_reducible exact ih1 _ _ _)
      | (with_reducible exact ih2 _ _ _ _ _ _ _)
      | (with_reducible exact ih3 _ _ _ _ _ _ _ _ _ _ _ _ _)
      | (with_reducible exact ih4 _ _ _ _ _ _ _ _ _ _ _ _)
      | (with_reducible exact ih5 _ _ _ _ _ _)
      | (with_reducible exact ih6 _ _ _ _ _ _ _ _ _ _ _)
      | (with_reducible exact LeO.refl _)
      | (with_reducible exact LeO.none _)
      | (with_reducible refine LeO.ite ?_ ?_)
      | (with_reducible refine LeO.bind ?_ (fun _ => ?_))
      | exact ih0 _ _ _ _
      | exact ih1 _ _ _
      | exact ih2 _ _ _ _ _ _ _
      | exact ih3 _ _ _ _ _ _ _ _ _ _ _ _ _
      | exact ih4 _ _ _ _ _ _ _ _ _ _ _ _
      | exact ih5 _ _ _ _ _ _
      | exact ih6 _ _ _ _ _ _ _ _ _ _ _
      | exact LeO.none _
      | refine LeO.ite ?_ ?_
      | refine LeO.bind ?_ (fun _ => ?_)
theorem heap_outcomes.mono : ∀ a0 k, LeO (heap_outcomes.f k a0) (heap_outcomes.f (k + 1) a0) := by
  intro a0 k
  obtain ⟨ih0, ih1, ih2, ih3, ih4, ih5, ih6⟩ := heap_outcomes.mono_l k
  unfold heap_outcomes.f
  repeat' first
      | (with_reducible exact ih0 _ _ _ _)
      | (with_reducible exact ih1 _ _ _)
      | (with_reducible exact ih2 _ _ _ _ _ _ _)
      | (with_reducible exact ih3 _ _ _ _ _ _ _ _ _ _ _ _ _)
      | (with_reducible exact ih4 _ _ _ _ _ _ _ _ _ _ _ _)
      | (with_reducible exact ih5 _ _ _ _ _ _)
      | (with_reducible exact ih6 _ _ _ _ _ _ _ _ _ _ _)
      | (with_reducible exact LeO.refl _)
      | (with_reducible exact LeO.none _)
      | (with_reducible refine LeO.ite ?_ ?_)
      | (with_reducible refine LeO.bind ?_ (fun _ => ?_))
      | exact ih0 _ _ _ _
      | exact ih1 _ _ _
      | exact ih2 _ _ _ _ _ _ _
      | exact ih3 _ _ _ _ _ _ _ _ _ _ _ _ _
      | exact ih4 _ _ _ _ _ _ _ _ _ _ _ _
      | exact ih5 _ _ _ _ _ _
      | exact ih6 _ _ _ _ _ _ _ _ _ _ _
      | exact LeO.none _
      | refine LeO.ite ?_ ?_
      | refine LeO.bind ?_ (fun _ => ?_)
set_option maxHeartbeats 8000000 in
set_option maxRecDepth 100000 in
theorem heap_outcomes.calls (k : Nat) (A0 : Option Addr) (c0 : Nat) (l0 : List (List Int)) (r : List (S71)) (w : World) (hr0 : Kd.C (Kd.slice 3 (Kd.int .i64)) w A0 l0.length l0) (hc0 : l0.length ≤ c0) (h : heap_outcomes.f k l0 = some r) :
    Calls Tryd.prog 41 #[.slice A0 l0.length c0] w fun e w' => ∃ v0_ : Value, e = .returned (v0_) ∧ Kd.R k71 71 w' w.heap.size (fun _ => True) v0_ r ∧ Below w.heap.size w w' := by
  have hu71 := Tryd.underlying71
  have HR0 := Aside0.mk hr0
  have HC0 := Aside0.mk hc0
  clear hr0 hc0
  have HB := Aside0.mk (Below.refl w.heap.size w)
  have H : (if 0 ≤ (l0.length : Int) then (if ((l0.length : Int) : Int).toNat ≤ 17592186044416 then ((some (List.replicate ((l0.length : Int) : Int).toNat z71 : List (S71))).bind fun y126 => (heap_outcomes.l0 k l0 y126 (y126.length : Int) 0)) else (none)) else (none)) = some r := h
  clear h
  by_cases c2 : 0 ≤ (l0.length : Int)
  · rw [if_pos c2] at H
    have c2b0 := eq_true c2
    have c2b1 : decide (0 ≤ (l0.length : Int)) = true := decide_eq_true c2
    (try rw [hl130_0] at c2b1); (try rw [hl145_0] at c2b1); (try rw [hl3_1] at c2b1); (try rw [hl3_2] at c2b1); (try rw [hl3_4] at c2b1)
    clear c2
    by_cases c3 : ((l0.length : Int) : Int).toNat ≤ 17592186044416
    · rw [if_pos c3] at H
      have c3b0 := eq_true c3
      have c3b1 : decide (((l0.length : Int) : Int).toNat ≤ 17592186044416) = true := decide_eq_true c3
      (try rw [hl130_0] at c3b1); (try rw [hl145_0] at c3b1); (try rw [hl3_1] at c3b1); (try rw [hl3_2] at c3b1); (try rw [hl3_4] at c3b1)
      clear c3
      obtain ⟨y126, hy126⟩ : ∃ y_ : List (S71), y_ = (List.replicate ((l0.length : Int) : Int).toNat z71) := ⟨_, rfl⟩
      replace H : (heap_outcomes.l0 k l0 y126 (y126.length : Int) 0) = some r := by first | (rw [hy126]; with_reducible exact H) | (have H2_ := (Option.bind_some _ _).symm.trans H; rw [hy126]; with_reducible exact H2_) | (have H2_ := (Option.bind_some _ _).symm.trans H; with_reducible exact H2_) | with_reducible exact H | (rw [hy126]; exact H) | exact H
      have Ny126 := Aside0.mk hy126
      clear hy126
      have H' := Aside0.mk H
      clear H
      go_enter Tryd.func41, Tryd.ntmps41
      go_wp2_with (first | ((with_reducible refine gate_dst (N := 22) rfl ?_); refine Kd.R_make k71 _ 71 rfl (N := 22) rfl 68 _ _ rfl (l0.length : Int) rfl rfl Tryd.underlying68 (.agg #[(.int .i64 0), (.int .i64 0)]) 16 info71 rfl (by decide) (by omega) z71 (ok := fun _ => True) (okp := fun _ => True) (k71_mkM _ _ _ z71 ) (fun _ hk => hk) trivial (of_decide_eq_true (by first | (with_reducible assumption) | assumption)) (Nat.le_trans (Nat.mul_le_mul_right _ (of_decide_eq_true (by first | (with_reducible assumption) | assumption) : (l0.length : Int).toNat ≤ 17592186044416)) (by omega)) (Below.refl _ _) (Nat.le_refl _) ?_; intro v127 w4 ho5 hb hg_ hnew_; clear hg_ hnew_; (first | rw [← Ny126.out] at ho5 | (simp only [Int.reduceToNat] at ho5; rw [← Ny126.out] at ho5)); have n0_ := Aside0.mk (Kd.R_lower ho5 (below_size (by repeat (first | (with_reducible first | exact HB.out | apply below_alloc | apply pw_below_drewN | apply below_drew1) | exact HB.out)))); have n1_ := Aside0.mk (below_step (by repeat (first | (with_reducible first | exact HB.out | apply below_alloc | apply pw_below_drewN | apply below_drew1) | exact HB.out)) hb); clear HB; have HO128 := n0_; have HB := n1_; clear n0_ n1_; clear hb ho5; obtain ⟨Ao6, co6, eo6⟩ := Kd.R_slice HO128.out; subst eo6))
      (try go_step3); (try go_wp2); (try go_step3); (try go_wp2)
      go_loopg [25] k (fun kq v25 w' => ∃ (x3_1 : List (S71)) (x25_1 : Int), v25 = .int .i64 x25_1 ∧ Aside0 (heap_outcomes.l0 kq l0 x3_1 (y126.length : Int) x25_1 = some r) ∧ Aside0 (kq ≤ k) ∧ Aside0 (Kd.R k71 71 w' w.heap.size (fun _ => True) (.slice Ao6 y126.length co6) x3_1) ∧ Aside0 (Below w.heap.size w w'))
      case atStart => exact ⟨(y126), (0), (by first | rfl | (simp; done) | (simp [*]; done)), H', ⟨Nat.le_refl _⟩, ⟨by (with_reducible repeat (first | apply Kd.R_alloc | apply Kd.R_drewN | apply Kd.R_drew)); exact HO128.out⟩, ⟨by repeat (first | (with_reducible first | exact HB.out | apply below_alloc | apply pw_below_drewN | apply below_drew1) | exact HB.out)⟩⟩
      case round =>
        clear H'
        try clear c2
        try clear c2b0
        try clear c2b1
        try clear p2
        try clear c3
        try clear c3b0
        try clear c3b1
        try clear c4
        obtain ⟨x3_1, x25_1, rfl, HA, HK1, HO_3, HB⟩ := hrel
        have hl3_1 := (Kd.R_reads' HO_3.out).1
        rw [hl3_1] at HO_3
        (try simp only [hl3_1])
        cases gk with
        | zero => exact absurd HA.out (by simp [heap_outcomes.l0])
        | succ k1 =>
          have H := HA.out
          clear HA
          simp only [heap_outcomes.l0] at H
          by_cases c7 : x25_1 < (y126.length : Int)
          · rw [if_pos c7] at H
            have c7b0 : decide (x25_1 < (y126.length : Int)) = true := decide_eq_true c7
            (try rw [hl130_0] at c7b0); (try rw [hl145_0] at c7b0); (try rw [hl3_1] at c7b0); (try rw [hl3_2] at c7b0); (try rw [hl3_4] at c7b0)
            clear c7
            by_cases c8 : 0 ≤ x25_1
            · rw [if_pos c8] at H
              have c8b0 : decide (0 ≤ x25_1) = true := decide_eq_true c8
              clear c8
              by_cases c9 : x25_1 < (x3_1.length : Int)
              · rw [if_pos c9] at H
                have c9b0 : decide (x25_1 < (x3_1.length : Int)) = true := decide_eq_true c9
                (try rw [hl130_0] at c9b0); (try rw [hl145_0] at c9b0); (try rw [hl3_1] at c9b0); (try rw [hl3_2] at c9b0); (try rw [hl3_4] at c9b0)
                clear c9
                obtain ⟨y129, hy129⟩ : ∃ y_ : List (S71), y_ = (x3_1.set (x25_1 : Int).toNat (⟨2, 0⟩ : S71)) := ⟨_, rfl⟩
                replace H : (heap_outcomes.l0 k1 l0 y129 (y126.length : Int) (wrap64 (x25_1 + 1))) = some r := by first | (rw [hy129]; with_reducible exact H) | (have H2_ := (Option.bind_some _ _).symm.trans H; rw [hy129]; with_reducible exact H2_) | (have H2_ := (Option.bind_some _ _).symm.trans H; with_reducible exact H2_) | with_reducible exact H | (rw [hy129]; exact H) | exact H
                have Ny129 := Aside0.mk hy129
                clear hy129
                have H' := Aside0.mk H
                clear H
                have p10 : 0 ≤ (x25_1 : Int) := of_decide_eq_true (by first | (with_reducible assumption) | assumption)
                have q10 : (x25_1 : Int) < ((x3_1.length : Int) : Int) := of_decide_eq_true (by first | (with_reducible assumption) | assumption)
                obtain ⟨go10, co10, eo10, gb10, gl10, cl10, HG10⟩ := Kd.R_form HO_3.out (by omega)
                (first | cases eo10 | (injection eo10 with ea_ en_ ec_; (first | subst ea_ | (injection ea_ with ea_; subst ea_)); subst ec_; clear en_))
                have GB10 := Aside0.mk gb10
                have GG10 := Aside0.mk HG10
                clear gb10 gl10 HG10
                obtain ⟨ce10, hcl10, hM10, hcc10, hfr10⟩ := Kd.R_elem HO_3.out z71 (x25_1 : Int) p10 q10
                obtain rfl := k71_openM hM10
                have hx10_0 : wr.cell? ⟨go10, (x25_1 : Int).toNat * 2, none⟩ = some (.int .i64 ((rd_T71 x3_1 x25_1).f0)) := hcc10 0 _ rfl
                have hx10_1 : wr.cell? ⟨go10, (x25_1 : Int).toNat * 2 + 1, none⟩ = some (.int .i64 ((rd_T71 x3_1 x25_1).f1)) := hcc10 1 _ rfl
                have hf10_0 : wr.frozen? ⟨go10, (x25_1 : Int).toNat * 2, none⟩ = false := hfr10 0
                have hf10_1 : wr.frozen? ⟨go10, (x25_1 : Int).toNat * 2 + 1, none⟩ = false := hfr10 1
                clear hcl10 hcc10 hfr10 hM10
                replace p10 := eq_true p10
                replace q10 := eq_true q10
                have HX11 := Aside0.mk (show Kd.R k71 71 wr w.heap.size (fun _ => True) (.slice (some ⟨go10, 0, none⟩) x3_1.length co6) x3_1 from (by (with_reducible repeat (first | apply Kd.R_alloc | apply Kd.R_drewN | apply Kd.R_drew)); exact HO_3.out))
                obtain ⟨ce11, hcl11, hM11, hcc11, hfr11⟩ := Kd.R_elem HX11.out z71 (x25_1 : Int) (of_decide_eq_true (by first | (with_reducible assumption) | assumption)) (by have h_ : (x25_1 : Int) < ((x3_1.length : Int) : Int) := of_decide_eq_true (by first | (with_reducible assumption) | assumption); first | exact h_ | (have e_ := (Kd.R_reads' HO_3.out).1; omega) | simpa using h_)
                obtain rfl := k71_openM hM11
                have HP11 := Kd.R_seg HX11.out (x25_1 : Int) (of_decide_eq_true (by first | (with_reducible assumption) | assumption)) (by have h_ : (x25_1 : Int) < ((x3_1.length : Int) : Int) := of_decide_eq_true (by first | (with_reducible assumption) | assumption); first | exact h_ | (have e_ := (Kd.R_reads' HO_3.out).1; omega) | simpa using h_) (seg := [.int .i64 2, .int .i64 0]) (j := 0) hcl11 hcc11 (show 2 ≤ 2 from by decide) (x' := (⟨2, 0⟩ : S71)) (k71_mkM _ _ _ (⟨2, 0⟩ : S71) ) (fun _ hk => hk)
                have hx11_0 := hcc11 0 _ rfl
                (try simp only [show (k71).sz = 2 from rfl, Nat.mul_one, Nat.add_zero] at hx11_0)
                have hf11_0 := hfr11 0
                (try simp only [show (k71).sz = 2 from rfl, Nat.mul_one, Nat.add_zero] at hf11_0)
                have hx11_1 := hcc11 1 _ rfl
                (try simp only [show (k71).sz = 2 from rfl, Nat.mul_one, Nat.add_zero] at hx11_1)
                have hf11_1 := hfr11 1
                (try simp only [show (k71).sz = 2 from rfl, Nat.mul_one, Nat.add_zero] at hf11_1)
                clear hcl11 hcc11 hfr11 hM11
                go_wp2_with (first | ((with_reducible refine gate_store (t := 71) (p := 31) rfl ?_); refine store_event (t := 71) (p := 31) (v := ?vo_w12) (w1 := ((wr.setCell ⟨go10, (x25_1 : Int).toNat * 2, none⟩ (.int .i64 2)).setCell ⟨go10, (x25_1 : Int).toNat * 2 + 1, none⟩ (.int .i64 0))) ?hg ?ho ?hn ?hr ?_; (case ho => rfl); (case hg => rfl); (case hn => rfl); (case hr => first | (go_simp; done) | (go_simp; rfl)); intro w12 hw; have hg : wr.grownBy w12 (some go10) := (by rw [hw]; exact HP11.2); have hp_ : Kd.R k71 71 w12 w.heap.size (fun _ => True) (.slice (some ⟨go10, 0, none⟩) x3_1.length co6) y129 := (by rw [hw, Ny129.out]; exact HP11.1); clear HP11; have n0_ := Aside0.mk (hp_); have n1_ := Aside0.mk ((by rw [hw]; exact below_set (below_set (HB.out) GB10.out) GB10.out : Below w.heap.size w w12)); clear HO_3; clear HB; have HO_3 := n0_; have HB := n1_; clear n0_ n1_; clear hg hw hp_))
                (try simp only [← hl3_1])
                (try rw [Exit.noGoto_ret]); (try (rw [Exit.noGoto_normal]; try go_wp2)); (try (rw [Exit.noGoto_exit]; try go_wp2))
                go_roundg k1
                case measure => have := HK1.out; omega
                case rel => exact ⟨(y129), (wrap64 (x25_1 + 1)), (by first | rfl | (simp; done) | (simp [*]; done)), H', ⟨by have := HK1.out; omega⟩, ⟨by (try simp only [hl3_1]); (with_reducible repeat (first | apply Kd.R_alloc | apply Kd.R_drewN | apply Kd.R_drew)); exact HO_3.out⟩, ⟨by repeat (first | (with_reducible first | exact HB.out | apply below_alloc | apply pw_below_drewN | apply below_drew1) | exact HB.out)⟩⟩
              · rw [if_neg c9] at H
                exact absurd H (by simp)
            · rw [if_neg c8] at H
              exact absurd H (by simp)
          · rw [if_neg c7] at H
            have c7b0 : decide (x25_1 < (y126.length : Int)) = false := decide_eq_false c7
            (try rw [hl130_0] at c7b0); (try rw [hl145_0] at c7b0); (try rw [hl3_1] at c7b0); (try rw [hl3_2] at c7b0); (try rw [hl3_4] at c7b0)
            clear c7
            have H' := Aside0.mk H
            clear H
            go_wp2
            (try go_step3); (try go_wp2); (try go_step3); (try go_wp2)
            go_loopg [5] k1 (fun kq v5 w' => ∃ (x3_2 : List (S71)) (x5_2 : Int), v5 = .int .i64 x5_2 ∧ Aside0 (heap_outcomes.l1 kq l0 x3_2 x5_2 = some r) ∧ Aside0 (kq ≤ k1) ∧ Aside0 (Kd.R k71 71 w' w.heap.size (fun _ => True) (.slice Ao6 x3_1.length co6) x3_2) ∧ Aside0 (Below w.heap.size w w'))
            case atStart => exact ⟨(x3_1), (0), (by first | rfl | (simp; done) | (simp [*]; done)), H', ⟨Nat.le_refl _⟩, ⟨by (try simp only [hl3_1]); (with_reducible repeat (first | apply Kd.R_alloc | apply Kd.R_drewN | apply Kd.R_drew)); exact HO_3.out⟩, ⟨by repeat (first | (with_reducible first | exact HB.out | apply below_alloc | apply pw_below_drewN | apply below_drew1) | exact HB.out)⟩⟩
            case round =>
              clear H'
              try clear c1
              try clear p1
              try clear q1
              try clear hx1
              try clear hf1
              try clear c2
              try clear c2b0
              try clear c2b1
              try clear p2
              try clear c3
              try clear c3b0
              try clear c3b1
              try clear c4
              try clear p6
              try clear c7
              try clear c7b0
              try clear c8
              try clear c8b0
              try clear c9
              try clear c9b0
              try clear c10
              try clear p10
              try clear q10
              try clear hx10
              try clear hf10
              try clear c11
              try clear hx11
              try clear hf11
              try clear hx10_0
              try clear hx10_1
              try clear hx11_0
              try clear hx11_1
              try clear p10
              try clear p2
              try clear q10
              obtain ⟨x3_2, x5_2, rfl, HA, HK2, HO_3, HB⟩ := hrel
              have hl3_2 := (Kd.R_reads' HO_3.out).1
              rw [hl3_2] at HO_3
              (try simp only [hl3_2])
              cases gk with
              | zero => exact absurd HA.out (by simp [heap_outcomes.l1])
              | succ k2 =>
                have H := HA.out
                clear HA
                simp only [heap_outcomes.l1] at H
                by_cases c13 : x5_2 ≤ (l0.length : Int)
                · rw [if_pos c13] at H
                  have c13b0 : decide (x5_2 ≤ (l0.length : Int)) = true := decide_eq_true c13
                  (try rw [hl130_0] at c13b0); (try rw [hl145_0] at c13b0); (try rw [hl3_1] at c13b0); (try rw [hl3_2] at c13b0); (try rw [hl3_4] at c13b0)
                  clear c13
                  have H' := Aside0.mk H
                  clear H
                  go_wp2
                  (try go_step3); (try go_wp2); (try go_step3); (try go_wp2)
                  go_loopg [6, 41] k2 (fun kq v6 v41 w' => ∃ (x6_3 : List Int) (x41_3 : Int), v41 = .int .i64 x41_3 ∧ Aside0 (heap_outcomes.l2 kq l0 x3_2 x5_2 x6_3 l0 (l0.length : Int) x41_3 = some r) ∧ Aside0 (kq ≤ k2) ∧ Aside0 (Kd.R k71 71 w' w.heap.size (fun _ => True) (.slice Ao6 x3_2.length co6) x3_2) ∧ Aside0 (Kd.R (Kd.int .i64) 3 w' w.heap.size (fun _ => True) v6 x6_3) ∧ Aside0 (Below w.heap.size w w'))
                  case atStart => exact ⟨(([] : List Int)), (0), (by first | rfl | (simp; done) | (simp [*]; done)), H', ⟨Nat.le_refl _⟩, ⟨by (try simp only [hl3_1]); (try simp only [hl3_2]); (with_reducible repeat (first | apply Kd.R_alloc | apply Kd.R_drewN | apply Kd.R_drew)); exact HO_3.out⟩, ⟨by (try simp only [hl3_1]); (try simp only [hl3_2]); first | exact Kd.R_nil _ _ _ _ _ | exact Kd.N_nil _ _ _ _ _ | exact Kd.V_nil _ _ _ _ _ | exact Kd.Q_nil _ _ _ _ _ | exact Kd.S_nil _ _ _ _ _⟩, ⟨by repeat (first | (with_reducible first | exact HB.out | apply below_alloc | apply pw_below_drewN | apply below_drew1) | exact HB.out)⟩⟩
                  case round =>
                    clear H'
                    try clear c1
                    try clear p1
                    try clear q1
                    try clear hx1
                    try clear hf1
                    try clear c2
                    try clear c2b0
                    try clear c2b1
                    try clear p2
                    try clear c3
                    try clear c3b0
                    try clear c3b1
                    try clear c4
                    try clear p6
                    try clear c7
                    try clear c7b0
                    try clear c8
                    try clear c8b0
                    try clear c9
                    try clear c9b0
                    try clear c10
                    try clear p10
                    try clear q10
                    try clear hx10
                    try clear hf10
                    try clear c11
                    try clear hx11
                    try clear hf11
                    try clear c13
                    try clear c13b0
                    try clear hx10_0
                    try clear hx10_1
                    try clear hx11_0
                    try clear hx11_1
                    try clear p1
                    try clear p10
                    try clear p2
                    try clear p6
                    try clear q1
                    try clear q10
                    obtain ⟨x6_3, x41_3, rfl, HA, HK3, HO_3, HO_6, HB⟩ := hrel
                    cases gk with
                    | zero => exact absurd HA.out (by simp [heap_outcomes.l2])
                    | succ k3 =>
                      have H := HA.out
                      clear HA
                      simp only [heap_outcomes.l2] at H
                      by_cases c14 : x41_3 < (l0.length : Int)
                      · rw [if_pos c14] at H
                        have c14b0 : decide (x41_3 < (l0.length : Int)) = true := decide_eq_true c14
                        (try rw [hl130_0] at c14b0); (try rw [hl145_0] at c14b0); (try rw [hl3_1] at c14b0); (try rw [hl3_2] at c14b0); (try rw [hl3_4] at c14b0)
                        clear c14
                        by_cases c15 : 0 ≤ x41_3
                        · rw [if_pos c15] at H
                          have c15b0 : decide (0 ≤ x41_3) = true := decide_eq_true c15
                          clear c15
                          by_cases c16 : x41_3 < (l0.length : Int)
                          · rw [if_pos c16] at H
                            have c16b0 : decide (x41_3 < (l0.length : Int)) = true := decide_eq_true c16
                            (try rw [hl130_0] at c16b0); (try rw [hl145_0] at c16b0); (try rw [hl3_1] at c16b0); (try rw [hl3_2] at c16b0); (try rw [hl3_4] at c16b0)
                            clear c16
                            by_cases c17 : x41_3 < (x3_2.length : Int)
                            · rw [if_pos c17] at H
                              have c17b0 : decide (x41_3 < (x3_2.length : Int)) = true := decide_eq_true c17
                              (try rw [hl130_0] at c17b0); (try rw [hl145_0] at c17b0); (try rw [hl3_1] at c17b0); (try rw [hl3_2] at c17b0); (try rw [hl3_4] at c17b0)
                              clear c17
                              by_cases c18 : ((rd_T71 x3_2 x41_3).f0) = 2
                              · rw [if_pos c18] at H
                                have c18b0 : (((rd_T71 x3_2 x41_3).f0) == 2) = true := beq_iff_eq.mpr c18
                                have c18b1 : (((rd_T71 x3_2 x41_3).f0) != 2) = false := bne_eq_false_iff_eq.mpr c18
                                clear c18
                                have H' := Aside0.mk H
                                clear H
                                have p130 : 0 ≤ (x41_3 : Int) := of_decide_eq_true (by first | (with_reducible assumption) | assumption)
                                have q130 : x41_3 < (l0.length : Int) := of_decide_eq_true (by first | (with_reducible assumption) | assumption)
                                obtain ⟨ad130, A130_0, c130_0, e130, hx130_0, hl130_0, hi130_0⟩ := at_L2 HR0.out x41_3 p130 q130
                                cases e130
                                replace hx130_0 := (HB.out.cell (World.block_lt_of_cell? w _ hx130_0)).trans hx130_0
                                have HR130_0 := Aside0.mk hi130_0
                                have HC130_0 := Aside0.mk hl130_0
                                clear hi130_0 hl130_0
                                replace p130 := eq_true p130
                                replace q130 := eq_true q130
                                have p131 : 0 ≤ (x41_3 : Int) := of_decide_eq_true (by first | (with_reducible assumption) | assumption)
                                have q131 : x41_3 < (x3_2.length : Int) := of_decide_eq_true (by first | (with_reducible assumption) | assumption)
                                obtain ⟨ad131, e131, hx131_0, hx131_1⟩ := at_T71 (Kd.R_reads' HO_3.out).2.2 x41_3 p131 q131
                                cases e131
                                replace p131 := eq_true p131
                                replace q131 := eq_true q131
                                go_wp2
                                (try go_step3); (try go_wp2); (try go_step3); (try go_wp2)
                                go_loopg [9, 54] k3 (fun kq v9 v54 w' => ∃ (x9_4 : Bool) (x54_4 : Int), v9 = .bool x9_4 ∧ v54 = .int .i64 x54_4 ∧ Aside0 (heap_outcomes.l3 kq l0 x3_2 x5_2 x6_3 x41_3 (rd_L2 l0 x41_3) x9_4 l0 (l0.length : Int) x41_3 (rd_L2 l0 x41_3) ((rd_L2 l0 x41_3).length : Int) x54_4 = some r) ∧ Aside0 (kq ≤ k3) ∧ Aside0 (Kd.R k71 71 w' w.heap.size (fun _ => True) (.slice (some ad131) x3_2.length co6) x3_2) ∧ Aside0 (Kd.R (Kd.int .i64) 3 w' w.heap.size (fun _ => True) u6 x6_3) ∧ Aside0 (Below w.heap.size w w'))
                                case atStart => exact ⟨(false), (0), (by first | rfl | (simp; done) | (simp [*]; done)), (by first | rfl | (simp; done) | (simp [*]; done)), H', ⟨Nat.le_refl _⟩, ⟨by (try simp only [hl3_1]); (try simp only [hl3_2]); (with_reducible repeat (first | apply Kd.R_alloc | apply Kd.R_drewN | apply Kd.R_drew)); exact HO_3.out⟩, ⟨by (try simp only [hl3_1]); (try simp only [hl3_2]); (with_reducible repeat (first | apply Kd.R_alloc | apply Kd.R_drewN | apply Kd.R_drew)); exact HO_6.out⟩, ⟨by repeat (first | (with_reducible first | exact HB.out | apply below_alloc | apply pw_below_drewN | apply below_drew1) | exact HB.out)⟩⟩
                                case round =>
                                  clear H'
                                  try clear c1
                                  try clear p1
                                  try clear q1
                                  try clear hx1
                                  try clear hf1
                                  try clear c2
                                  try clear c2b0
                                  try clear c2b1
                                  try clear p2
                                  try clear c3
                                  try clear c3b0
                                  try clear c3b1
                                  try clear c4
                                  try clear p6
                                  try clear c7
                                  try clear c7b0
                                  try clear c8
                                  try clear c8b0
                                  try clear c9
                                  try clear c9b0
                                  try clear c10
                                  try clear p10
                                  try clear q10
                                  try clear hx10
                                  try clear hf10
                                  try clear c11
                                  try clear hx11
                                  try clear hf11
                                  try clear c13
                                  try clear c13b0
                                  try clear p13
                                  try clear q13
                                  try clear hx13
                                  try clear c14
                                  try clear c14b0
                                  try clear c15
                                  try clear c15b0
                                  try clear c16
                                  try clear c16b0
                                  try clear c17
                                  try clear c17b0
                                  try clear c18
                                  try clear c18b0
                                  try clear c18b1
                                  try clear hx10_0
                                  try clear hx10_1
                                  try clear hx11_0
                                  try clear hx11_1
                                  try clear hx130_0
                                  try clear hx131_0
                                  try clear hx131_1
                                  try clear p1
                                  try clear p10
                                  try clear p130
                                  try clear p131
                                  try clear p2
                                  try clear p6
                                  try clear q1
                                  try clear q10
                                  try clear q130
                                  try clear q131
                                  obtain ⟨x9_4, x54_4, rfl, rfl, HA, HK4, HO_3, HO_6, HB⟩ := hrel
                                  cases gk with
                                  | zero => exact absurd HA.out (by simp [heap_outcomes.l3])
                                  | succ k4 =>
                                    have H := HA.out
                                    clear HA
                                    simp only [heap_outcomes.l3] at H
                                    by_cases c19 : x54_4 < ((rd_L2 l0 x41_3).length : Int)
                                    · rw [if_pos c19] at H
                                      have c19b0 : decide (x54_4 < ((rd_L2 l0 x41_3).length : Int)) = true := decide_eq_true c19
                                      (try rw [hl130_0] at c19b0); (try rw [hl145_0] at c19b0); (try rw [hl3_1] at c19b0); (try rw [hl3_2] at c19b0); (try rw [hl3_4] at c19b0)
                                      clear c19
                                      by_cases c20 : 0 ≤ x54_4
                                      · rw [if_pos c20] at H
                                        have c20b0 : decide (0 ≤ x54_4) = true := decide_eq_true c20
                                        clear c20
                                        by_cases c21 : x54_4 < ((rd_L2 l0 x41_3).length : Int)
                                        · rw [if_pos c21] at H
                                          have c21b0 : decide (x54_4 < ((rd_L2 l0 x41_3).length : Int)) = true := decide_eq_true c21
                                          (try rw [hl130_0] at c21b0); (try rw [hl145_0] at c21b0); (try rw [hl3_1] at c21b0); (try rw [hl3_2] at c21b0); (try rw [hl3_4] at c21b0)
                                          clear c21
                                          by_cases c22 : x9_4 = true
                                          · subst c22
                                            have H1 : (heap_outcomes.l3 k4 l0 x3_2 x5_2 x6_3 x41_3 (rd_L2 l0 x41_3) true l0 (l0.length : Int) x41_3 (rd_L2 l0 x41_3) ((rd_L2 l0 x41_3).length : Int) (wrap64 (x54_4 + 1))) = some r := by rw [if_pos rfl] at H; exact H
                                            clear H
                                            have H := H1
                                            clear H1
                                            have H' := Aside0.mk H
                                            clear H
                                            have p132 : 0 ≤ (x54_4 : Int) := of_decide_eq_true (by first | (with_reducible assumption) | assumption)
                                            have q132 : x54_4 < ((rd_L2 l0 x41_3).length : Int) := of_decide_eq_true (by first | (with_reducible assumption) | assumption)
                                            obtain ⟨ad132, e132, hx132_0⟩ := Kd.at_int HR130_0.out x54_4 p132 q132
                                            cases e132
                                            replace hx132_0 := (HB.out.cell (World.block_lt_of_cell? w _ hx132_0)).trans hx132_0
                                            replace p132 := eq_true p132
                                            replace q132 := eq_true q132
                                            go_wp2
                                            (try rw [Exit.noGoto_ret]); (try (rw [Exit.noGoto_normal]; try go_wp2)); (try (rw [Exit.noGoto_exit]; try go_wp2))
                                            go_roundg k4
                                            case measure => have := HK1.out; have := HK2.out; have := HK3.out; have := HK4.out; omega
                                            case rel => exact ⟨(true), (wrap64 (x54_4 + 1)), (by first | rfl | (simp; done) | (simp [*]; done)), (by first | rfl | (simp; done) | (simp [*]; done)), H', ⟨by have := HK1.out; have := HK2.out; have := HK3.out; have := HK4.out; omega⟩, ⟨by (try simp only [hl3_1]); (try simp only [hl3_2]); (with_reducible repeat (first | apply Kd.R_alloc | apply Kd.R_drewN | apply Kd.R_drew)); exact HO_3.out⟩, ⟨by (try simp only [hl3_1]); (try simp only [hl3_2]); (with_reducible repeat (first | apply Kd.R_alloc | apply Kd.R_drewN | apply Kd.R_drew)); exact HO_6.out⟩, ⟨by repeat (first | (with_reducible first | exact HB.out | apply below_alloc | apply pw_below_drewN | apply below_drew1) | exact HB.out)⟩⟩
                                          · replace c22 := Bool.eq_false_iff.mpr c22
                                            subst c22
                                            have H1 : (if 0 ≤ (rd (rd_L2 l0 x41_3) x54_4) then (if (rd (rd_L2 l0 x41_3) x54_4) < (x3_2.length : Int) then (if ((rd_T71 x3_2 (rd (rd_L2 l0 x41_3) x54_4)).f0) = 0 then (heap_outcomes.l3 k4 l0 x3_2 x5_2 x6_3 x41_3 (rd_L2 l0 x41_3) (((rd_T71 x3_2 (rd (rd_L2 l0 x41_3) x54_4)).f1) == (wrap64 (x5_2 - 1))) l0 (l0.length : Int) x41_3 (rd_L2 l0 x41_3) ((rd_L2 l0 x41_3).length : Int) (wrap64 (x54_4 + 1))) else (heap_outcomes.l3 k4 l0 x3_2 x5_2 x6_3 x41_3 (rd_L2 l0 x41_3) false l0 (l0.length : Int) x41_3 (rd_L2 l0 x41_3) ((rd_L2 l0 x41_3).length : Int) (wrap64 (x54_4 + 1)))) else (none)) else (none)) = some r := by rw [if_neg (show ¬ (false = true) by decide)] at H; exact H
                                            clear H
                                            have H := H1
                                            clear H1
                                            by_cases c23 : 0 ≤ (rd (rd_L2 l0 x41_3) x54_4)
                                            · rw [if_pos c23] at H
                                              have c23b0 : decide (0 ≤ (rd (rd_L2 l0 x41_3) x54_4)) = true := decide_eq_true c23
                                              clear c23
                                              by_cases c24 : (rd (rd_L2 l0 x41_3) x54_4) < (x3_2.length : Int)
                                              · rw [if_pos c24] at H
                                                have c24b0 : decide ((rd (rd_L2 l0 x41_3) x54_4) < (x3_2.length : Int)) = true := decide_eq_true c24
                                                (try rw [hl130_0] at c24b0); (try rw [hl145_0] at c24b0); (try rw [hl3_1] at c24b0); (try rw [hl3_2] at c24b0); (try rw [hl3_4] at c24b0)
                                                clear c24
                                                by_cases c25 : ((rd_T71 x3_2 (rd (rd_L2 l0 x41_3) x54_4)).f0) = 0
                                                · rw [if_pos c25] at H
                                                  have c25b0 : (((rd_T71 x3_2 (rd (rd_L2 l0 x41_3) x54_4)).f0) == 0) = true := beq_iff_eq.mpr c25
                                                  have c25b1 : (((rd_T71 x3_2 (rd (rd_L2 l0 x41_3) x54_4)).f0) != 0) = false := bne_eq_false_iff_eq.mpr c25
                                                  clear c25
                                                  have H' := Aside0.mk H
                                                  clear H
                                                  have p132 : 0 ≤ (x54_4 : Int) := of_decide_eq_true (by first | (with_reducible assumption) | assumption)
                                                  have q132 : x54_4 < ((rd_L2 l0 x41_3).length : Int) := of_decide_eq_true (by first | (with_reducible assumption) | assumption)
                                                  obtain ⟨ad132, e132, hx132_0⟩ := Kd.at_int HR130_0.out x54_4 p132 q132
                                                  cases e132
                                                  replace hx132_0 := (HB.out.cell (World.block_lt_of_cell? w _ hx132_0)).trans hx132_0
                                                  replace p132 := eq_true p132
                                                  replace q132 := eq_true q132
                                                  have p133 : 0 ≤ ((rd (rd_L2 l0 x41_3) x54_4) : Int) := of_decide_eq_true (by first | (with_reducible assumption) | assumption)
                                                  have q133 : (rd (rd_L2 l0 x41_3) x54_4) < (x3_2.length : Int) := of_decide_eq_true (by first | (with_reducible assumption) | assumption)
                                                  obtain ⟨ad133, e133, hx133_0, hx133_1⟩ := at_T71 (Kd.R_reads' HO_3.out).2.2 (rd (rd_L2 l0 x41_3) x54_4) p133 q133
                                                  obtain rfl : ad131 = ad133 := (by injection e133)
                                                  replace p133 := eq_true p133
                                                  replace q133 := eq_true q133
                                                  have p134 : 0 ≤ ((rd (rd_L2 l0 x41_3) x54_4) : Int) := of_decide_eq_true (by first | (with_reducible assumption) | assumption)
                                                  have q134 : (rd (rd_L2 l0 x41_3) x54_4) < (x3_2.length : Int) := of_decide_eq_true (by first | (with_reducible assumption) | assumption)
                                                  obtain ⟨ad134, e134, hx134_0, hx134_1⟩ := at_T71 (Kd.R_reads' HO_3.out).2.2 (rd (rd_L2 l0 x41_3) x54_4) p134 q134
                                                  obtain rfl : ad131 = ad134 := (by injection e134)
                                                  replace p134 := eq_true p134
                                                  replace q134 := eq_true q134
                                                  go_wp2
                                                  (try rw [Exit.noGoto_ret]); (try (rw [Exit.noGoto_normal]; try go_wp2)); (try (rw [Exit.noGoto_exit]; try go_wp2))
                                                  go_roundg k4
                                                  case measure => have := HK1.out; have := HK2.out; have := HK3.out; have := HK4.out; omega
                                                  case rel => exact ⟨((((rd_T71 x3_2 (rd (rd_L2 l0 x41_3) x54_4)).f1) == (wrap64 (x5_2 - 1)))), (wrap64 (x54_4 + 1)), (by first | rfl | (simp; done) | (simp [*]; done)), (by first | rfl | (simp; done) | (simp [*]; done)), H', ⟨by have := HK1.out; have := HK2.out; have := HK3.out; have := HK4.out; omega⟩, ⟨by (try simp only [hl3_1]); (try simp only [hl3_2]); (with_reducible repeat (first | apply Kd.R_alloc | apply Kd.R_drewN | apply Kd.R_drew)); exact HO_3.out⟩, ⟨by (try simp only [hl3_1]); (try simp only [hl3_2]); (with_reducible repeat (first | apply Kd.R_alloc | apply Kd.R_drewN | apply Kd.R_drew)); exact HO_6.out⟩, ⟨by repeat (first | (with_reducible first | exact HB.out | apply below_alloc | apply pw_below_drewN | apply below_drew1) | exact HB.out)⟩⟩
                                                · rw [if_neg c25] at H
                                                  have c25b0 : (((rd_T71 x3_2 (rd (rd_L2 l0 x41_3) x54_4)).f0) == 0) = false := beq_eq_false_iff_ne.mpr c25
                                                  have c25b1 : (((rd_T71 x3_2 (rd (rd_L2 l0 x41_3) x54_4)).f0) != 0) = true := bne_iff_ne.mpr c25
                                                  have H' := Aside0.mk H
                                                  clear H
                                                  have p132 : 0 ≤ (x54_4 : Int) := of_decide_eq_true (by first | (with_reducible assumption) | assumption)
                                                  have q132 : x54_4 < ((rd_L2 l0 x41_3).length : Int) := of_decide_eq_true (by first | (with_reducible assumption) | assumption)
                                                  obtain ⟨ad132, e132, hx132_0⟩ := Kd.at_int HR130_0.out x54_4 p132 q132
                                                  cases e132
                                                  replace hx132_0 := (HB.out.cell (World.block_lt_of_cell? w _ hx132_0)).trans hx132_0
                                                  replace p132 := eq_true p132
                                                  replace q132 := eq_true q132
                                                  have p133 : 0 ≤ ((rd (rd_L2 l0 x41_3) x54_4) : Int) := of_decide_eq_true (by first | (with_reducible assumption) | assumption)
                                                  have q133 : (rd (rd_L2 l0 x41_3) x54_4) < (x3_2.length : Int) := of_decide_eq_true (by first | (with_reducible assumption) | assumption)
                                                  obtain ⟨ad133, e133, hx133_0, hx133_1⟩ := at_T71 (Kd.R_reads' HO_3.out).2.2 (rd (rd_L2 l0 x41_3) x54_4) p133 q133
                                                  obtain rfl : ad131 = ad133 := (by injection e133)
                                                  replace p133 := eq_true p133
                                                  replace q133 := eq_true q133
                                                  go_wp2
                                                  (try rw [Exit.noGoto_ret]); (try (rw [Exit.noGoto_normal]; try go_wp2)); (try (rw [Exit.noGoto_exit]; try go_wp2))
                                                  go_roundg k4
                                                  case measure => have := HK1.out; have := HK2.out; have := HK3.out; have := HK4.out; omega
                                                  case rel => exact ⟨(false), (wrap64 (x54_4 + 1)), (by first | rfl | (simp; done) | (simp [*]; done)), (by first | rfl | (simp; done) | (simp [*]; done)), H', ⟨by have := HK1.out; have := HK2.out; have := HK3.out; have := HK4.out; omega⟩, ⟨by (try simp only [hl3_1]); (try simp only [hl3_2]); (with_reducible repeat (first | apply Kd.R_alloc | apply Kd.R_drewN | apply Kd.R_drew)); exact HO_3.out⟩, ⟨by (try simp only [hl3_1]); (try simp only [hl3_2]); (with_reducible repeat (first | apply Kd.R_alloc | apply Kd.R_drewN | apply Kd.R_drew)); exact HO_6.out⟩, ⟨by repeat (first | (with_reducible first | exact HB.out | apply below_alloc | apply pw_below_drewN | apply below_drew1) | exact HB.out)⟩⟩
                                              · rw [if_neg c24] at H
                                                exact absurd H (by simp)
                                            · rw [if_neg c23] at H
                                              exact absurd H (by simp)
                                        · rw [if_neg c21] at H
                                          exact absurd H (by simp)
                                      · rw [if_neg c20] at H
                                        exact absurd H (by simp)
                                    · rw [if_neg c19] at H
                                      have c19b0 : decide (x54_4 < ((rd_L2 l0 x41_3).length : Int)) = false := decide_eq_false c19
                                      (try rw [hl130_0] at c19b0); (try rw [hl145_0] at c19b0); (try rw [hl3_1] at c19b0); (try rw [hl3_2] at c19b0); (try rw [hl3_4] at c19b0)
                                      clear c19
                                      by_cases c26 : x9_4 = true
                                      · subst c26
                                        have H1 : (if x6_3.length < 17592186044416 then (heap_outcomes.l2 k4 l0 x3_2 x5_2 (x6_3 ++ [x41_3]) l0 (l0.length : Int) (wrap64 (x41_3 + 1))) else (none)) = some r := by rw [if_pos rfl] at H; exact H
                                        clear H
                                        have H := H1
                                        clear H1
                                        by_cases c27 : x6_3.length < 17592186044416
                                        · rw [if_pos c27] at H
                                          have LMc27 := Aside0.mk c27
                                          clear c27
                                          obtain ⟨y135, hy135⟩ : ∃ y_ : List Int, y_ = (x6_3 ++ [x41_3]) := ⟨_, rfl⟩
                                          replace H : (heap_outcomes.l2 k4 l0 x3_2 x5_2 y135 l0 (l0.length : Int) (wrap64 (x41_3 + 1))) = some r := by first | (rw [hy135]; with_reducible exact H) | (have H2_ := (Option.bind_some _ _).symm.trans H; rw [hy135]; with_reducible exact H2_) | (have H2_ := (Option.bind_some _ _).symm.trans H; with_reducible exact H2_) | with_reducible exact H | (rw [hy135]; exact H) | exact H
                                          have Ny135 := Aside0.mk hy135
                                          clear hy135
                                          have H' := Aside0.mk H
                                          clear H
                                          go_wp2_with (first | ((with_reducible refine gate_builtin (b := .append) (xs := #[.tmp 79, .tmp 81]) rfl ?_); at_builtin; refine Kd.R_append (Kd.int .i64) (w0 := w) w.heap.size rfl (.tmp 79) (.tmp 81) 22 3 (.int .i64 0) 8 rfl Tryd.underlying22 info3 rfl (by decide) (by omega) u6 x6_3 x41_3 [.int .i64 x41_3] (fun _ => True) (fun _ => False) rfl rfl ?aP (fun _ hk => hk.elim) ?aF ?aO ?aB ?aS ?aL ?_; (case aP => exact rfl); (case aB => exact (by repeat (first | (with_reducible first | exact HB.out | apply below_alloc | apply pw_below_drewN | apply below_drew1) | exact HB.out))); (case aF => exact (fun _ _ => trivial)); (case aO => exact (by (with_reducible repeat (first | apply Kd.R_alloc | apply Kd.R_drewN | apply Kd.R_drew)); exact HO_6.out)); (case aS => exact (below_size (by repeat (first | (with_reducible first | exact HB.out | apply below_alloc | apply pw_below_drewN | apply below_drew1) | exact HB.out)))); (case aL => have := LMc27.out; omega); intro v136 w28 ho hb hg hat; rw [← Ny135.out] at ho; have n0_ := Aside0.mk (Kd.R_over' (by (with_reducible repeat (first | apply Kd.R_alloc | apply Kd.R_drewN | apply Kd.R_drew)); exact HO_3.out) (Kd.R_typed (by (with_reducible repeat (first | apply Kd.R_alloc | apply Kd.R_drewN | apply Kd.R_drew)); exact HO_6.out)) (by decide) hg); have n1_ := Aside0.mk (hb); have n2_ := Aside0.mk (ho); clear HO_3; clear HB; clear HO_6; have HO_3 := n0_; have HB := n1_; have HO137 := n2_; clear n0_ n1_ n2_; clear ho hb hg hat))
                                          (try rw [Exit.noGoto_ret]); (try (rw [Exit.noGoto_normal]; try go_wp2)); (try (rw [Exit.noGoto_exit]; try go_wp2))
                                          go_roundg k4
                                          case measure => have := HK1.out; have := HK2.out; have := HK3.out; have := HK4.out; omega
                                          case rel => exact ⟨(y135), (wrap64 (x41_3 + 1)), (by first | rfl | (simp; done) | (simp [*]; done)), H', ⟨by have := HK1.out; have := HK2.out; have := HK3.out; have := HK4.out; omega⟩, ⟨by (try simp only [hl3_1]); (try simp only [hl3_2]); (with_reducible repeat (first | apply Kd.R_alloc | apply Kd.R_drewN | apply Kd.R_drew)); exact HO_3.out⟩, ⟨by (try simp only [hl3_1]); (try simp only [hl3_2]); (with_reducible repeat (first | apply Kd.R_alloc | apply Kd.R_drewN | apply Kd.R_drew)); exact HO137.out⟩, ⟨by repeat (first | (with_reducible first | exact HB.out | apply below_alloc | apply pw_below_drewN | apply below_drew1) | exact HB.out)⟩⟩
                                        · rw [if_neg c27] at H
                                          exact absurd H (by simp)
                                      · replace c26 := Bool.eq_false_iff.mpr c26
                                        subst c26
                                        have H1 : (heap_outcomes.l4 k4 l0 x3_2 x5_2 x6_3 x41_3 (-1) l0 (l0.length : Int) x41_3 (rd_L2 l0 x41_3) ((rd_L2 l0 x41_3).length : Int) 0) = some r := by rw [if_neg (show ¬ (false = true) by decide)] at H; exact H
                                        clear H
                                        have H := H1
                                        clear H1
                                        have H' := Aside0.mk H
                                        clear H
                                        go_wp2
                                        (try go_step3); (try go_wp2); (try go_step3); (try go_wp2)
                                        go_loopg [12, 85] k4 (fun kq v12 v85 w' => ∃ (x12_5 : Int) (x85_5 : Int), v12 = .int .i64 x12_5 ∧ v85 = .int .i64 x85_5 ∧ Aside0 (heap_outcomes.l4 kq l0 x3_2 x5_2 x6_3 x41_3 x12_5 l0 (l0.length : Int) x41_3 (rd_L2 l0 x41_3) ((rd_L2 l0 x41_3).length : Int) x85_5 = some r) ∧ Aside0 (kq ≤ k4) ∧ Aside0 (Kd.R k71 71 w' w.heap.size (fun _ => True) (.slice (some ad131) x3_2.length co6) x3_2) ∧ Aside0 (Kd.R (Kd.int .i64) 3 w' w.heap.size (fun _ => True) u6 x6_3) ∧ Aside0 (Below w.heap.size w w'))
                                        case atStart => exact ⟨((-1)), (0), (by first | rfl | (simp; done) | (simp [*]; done)), (by first | rfl | (simp; done) | (simp [*]; done)), H', ⟨Nat.le_refl _⟩, ⟨by (try simp only [hl3_1]); (try simp only [hl3_2]); (with_reducible repeat (first | apply Kd.R_alloc | apply Kd.R_drewN | apply Kd.R_drew)); exact HO_3.out⟩, ⟨by (try simp only [hl3_1]); (try simp only [hl3_2]); (with_reducible repeat (first | apply Kd.R_alloc | apply Kd.R_drewN | apply Kd.R_drew)); exact HO_6.out⟩, ⟨by repeat (first | (with_reducible first | exact HB.out | apply below_alloc | apply pw_below_drewN | apply below_drew1) | exact HB.out)⟩⟩
                                        case round =>
                                          clear H'
                                          try clear c1
                                          try clear p1
                                          try clear q1
                                          try clear hx1
                                          try clear hf1
                                          try clear c2
                                          try clear c2b0
                                          try clear c2b1
                                          try clear p2
                                          try clear c3
                                          try clear c3b0
                                          try clear c3b1
                                          try clear c4
                                          try clear p6
                                          try clear c7
                                          try clear c7b0
                                          try clear c8
                                          try clear c8b0
                                          try clear c9
                                          try clear c9b0
                                          try clear c10
                                          try clear p10
                                          try clear q10
                                          try clear hx10
                                          try clear hf10
                                          try clear c11
                                          try clear hx11
                                          try clear hf11
                                          try clear c13
                                          try clear c13b0
                                          try clear p13
                                          try clear q13
                                          try clear hx13
                                          try clear c14
                                          try clear c14b0
                                          try clear c15
                                          try clear c15b0
                                          try clear c16
                                          try clear c16b0
                                          try clear c17
                                          try clear c17b0
                                          try clear c18
                                          try clear c18b0
                                          try clear c18b1
                                          try clear c19
                                          try clear c19b0
                                          try clear c20
                                          try clear c20b0
                                          try clear c21
                                          try clear c21b0
                                          try clear c22
                                          try clear c23
                                          try clear c23b0
                                          try clear c24
                                          try clear c24b0
                                          try clear c25
                                          try clear c25b0
                                          try clear c25b1
                                          try clear c26
                                          try clear c27
                                          try clear hx10_0
                                          try clear hx10_1
                                          try clear hx11_0
                                          try clear hx11_1
                                          try clear hx130_0
                                          try clear hx131_0
                                          try clear hx131_1
                                          try clear hx132_0
                                          try clear hx133_0
                                          try clear hx133_1
                                          try clear hx134_0
                                          try clear hx134_1
                                          try clear p1
                                          try clear p10
                                          try clear p13
                                          try clear p130
                                          try clear p131
                                          try clear p132
                                          try clear p133
                                          try clear p134
                                          try clear p2
                                          try clear p6
                                          try clear q1
                                          try clear q10
                                          try clear q13
                                          try clear q130
                                          try clear q131
                                          try clear q132
                                          try clear q133
                                          try clear q134
                                          obtain ⟨x12_5, x85_5, rfl, rfl, HA, HK5, HO_3, HO_6, HB⟩ := hrel
                                          cases gk with
                                          | zero => exact absurd HA.out (by simp [heap_outcomes.l4])
                                          | succ k5 =>
                                            have H := HA.out
                                            clear HA
                                            simp only [heap_outcomes.l4] at H
                                            by_cases c29 : x85_5 < ((rd_L2 l0 x41_3).length : Int)
                                            · rw [if_pos c29] at H
                                              have c29b0 : decide (x85_5 < ((rd_L2 l0 x41_3).length : Int)) = true := decide_eq_true c29
                                              (try rw [hl130_0] at c29b0); (try rw [hl145_0] at c29b0); (try rw [hl3_1] at c29b0); (try rw [hl3_2] at c29b0); (try rw [hl3_4] at c29b0)
                                              clear c29
                                              by_cases c30 : 0 ≤ x85_5
                                              · rw [if_pos c30] at H
                                                have c30b0 : decide (0 ≤ x85_5) = true := decide_eq_true c30
                                                clear c30
                                                by_cases c31 : x85_5 < ((rd_L2 l0 x41_3).length : Int)
                                                · rw [if_pos c31] at H
                                                  have c31b0 : decide (x85_5 < ((rd_L2 l0 x41_3).length : Int)) = true := decide_eq_true c31
                                                  (try rw [hl130_0] at c31b0); (try rw [hl145_0] at c31b0); (try rw [hl3_1] at c31b0); (try rw [hl3_2] at c31b0); (try rw [hl3_4] at c31b0)
                                                  clear c31
                                                  by_cases c32 : 0 ≤ (rd (rd_L2 l0 x41_3) x85_5)
                                                  · rw [if_pos c32] at H
                                                    have c32b0 : decide (0 ≤ (rd (rd_L2 l0 x41_3) x85_5)) = true := decide_eq_true c32
                                                    clear c32
                                                    by_cases c33 : (rd (rd_L2 l0 x41_3) x85_5) < (x3_2.length : Int)
                                                    · rw [if_pos c33] at H
                                                      have c33b0 : decide ((rd (rd_L2 l0 x41_3) x85_5) < (x3_2.length : Int)) = true := decide_eq_true c33
                                                      (try rw [hl130_0] at c33b0); (try rw [hl145_0] at c33b0); (try rw [hl3_1] at c33b0); (try rw [hl3_2] at c33b0); (try rw [hl3_4] at c33b0)
                                                      clear c33
                                                      by_cases c34 : ((rd_T71 x3_2 (rd (rd_L2 l0 x41_3) x85_5)).f0) = 1
                                                      · rw [if_pos c34] at H
                                                        have c34b0 : (((rd_T71 x3_2 (rd (rd_L2 l0 x41_3) x85_5)).f0) == 1) = true := beq_iff_eq.mpr c34
                                                        have c34b1 : (((rd_T71 x3_2 (rd (rd_L2 l0 x41_3) x85_5)).f0) != 1) = false := bne_eq_false_iff_eq.mpr c34
                                                        clear c34
                                                        obtain ⟨ji35, hji35⟩ : ∃ j_ : Int, (mx x12_5 ((rd_T71 x3_2 (rd (rd_L2 l0 x41_3) x85_5)).f1)) = j_ := ⟨_, rfl⟩
                                                        replace H : (heap_outcomes.l4 k5 l0 x3_2 x5_2 x6_3 x41_3 ji35 l0 (l0.length : Int) x41_3 (rd_L2 l0 x41_3) ((rd_L2 l0 x41_3).length : Int) (wrap64 (x85_5 + 1))) = some r := by first | (rw [hji35] at H; exact H) | (simp only [hji35] at H ⊢; exact H)
                                                        have hji35_ : (if x12_5 < ((rd_T71 x3_2 (rd (rd_L2 l0 x41_3) x85_5)).f1) then ((rd_T71 x3_2 (rd (rd_L2 l0 x41_3) x85_5)).f1) else x12_5) = ji35 := hji35
                                                        have H' := Aside0.mk H
                                                        clear H
                                                        have p138 : 0 ≤ (x85_5 : Int) := of_decide_eq_true (by first | (with_reducible assumption) | assumption)
                                                        have q138 : x85_5 < ((rd_L2 l0 x41_3).length : Int) := of_decide_eq_true (by first | (with_reducible assumption) | assumption)
                                                        obtain ⟨ad138, e138, hx138_0⟩ := Kd.at_int HR130_0.out x85_5 p138 q138
                                                        cases e138
                                                        replace hx138_0 := (HB.out.cell (World.block_lt_of_cell? w _ hx138_0)).trans hx138_0
                                                        replace p138 := eq_true p138
                                                        replace q138 := eq_true q138
                                                        have p139 : 0 ≤ ((rd (rd_L2 l0 x41_3) x85_5) : Int) := of_decide_eq_true (by first | (with_reducible assumption) | assumption)
                                                        have q139 : (rd (rd_L2 l0 x41_3) x85_5) < (x3_2.length : Int) := of_decide_eq_true (by first | (with_reducible assumption) | assumption)
                                                        obtain ⟨ad139, e139, hx139_0, hx139_1⟩ := at_T71 (Kd.R_reads' HO_3.out).2.2 (rd (rd_L2 l0 x41_3) x85_5) p139 q139
                                                        obtain rfl : ad131 = ad139 := (by injection e139)
                                                        replace p139 := eq_true p139
                                                        replace q139 := eq_true q139
                                                        have p140 : 0 ≤ ((rd (rd_L2 l0 x41_3) x85_5) : Int) := of_decide_eq_true (by first | (with_reducible assumption) | assumption)
                                                        have q140 : (rd (rd_L2 l0 x41_3) x85_5) < (x3_2.length : Int) := of_decide_eq_true (by first | (with_reducible assumption) | assumption)
                                                        obtain ⟨ad140, e140, hx140_0, hx140_1⟩ := at_T71 (Kd.R_reads' HO_3.out).2.2 (rd (rd_L2 l0 x41_3) x85_5) p140 q140
                                                        obtain rfl : ad131 = ad140 := (by injection e140)
                                                        replace p140 := eq_true p140
                                                        replace q140 := eq_true q140
                                                        go_wp2
                                                        (try rw [Exit.noGoto_ret]); (try (rw [Exit.noGoto_normal]; try go_wp2)); (try (rw [Exit.noGoto_exit]; try go_wp2))
                                                        go_roundg k5
                                                        case measure => have := HK1.out; have := HK2.out; have := HK3.out; have := HK4.out; have := HK5.out; omega
                                                        case rel => exact ⟨(ji35), (wrap64 (x85_5 + 1)), (by first | rfl | (simp; done) | (simp only [← hji35] <;> (first | rfl | simp)) | (simp [*]; done)), (by first | rfl | (simp; done) | (simp [*]; done)), H', ⟨by have := HK1.out; have := HK2.out; have := HK3.out; have := HK4.out; have := HK5.out; omega⟩, ⟨by (try simp only [hl3_1]); (try simp only [hl3_2]); (with_reducible repeat (first | apply Kd.R_alloc | apply Kd.R_drewN | apply Kd.R_drew)); exact HO_3.out⟩, ⟨by (try simp only [hl3_1]); (try simp only [hl3_2]); (with_reducible repeat (first | apply Kd.R_alloc | apply Kd.R_drewN | apply Kd.R_drew)); exact HO_6.out⟩, ⟨by repeat (first | (with_reducible first | exact HB.out | apply below_alloc | apply pw_below_drewN | apply below_drew1) | exact HB.out)⟩⟩
                                                      · rw [if_neg c34] at H
                                                        have c34b0 : (((rd_T71 x3_2 (rd (rd_L2 l0 x41_3) x85_5)).f0) == 1) = false := beq_eq_false_iff_ne.mpr c34
                                                        have c34b1 : (((rd_T71 x3_2 (rd (rd_L2 l0 x41_3) x85_5)).f0) != 1) = true := bne_iff_ne.mpr c34
                                                        have H' := Aside0.mk H
                                                        clear H
                                                        have p138 : 0 ≤ (x85_5 : Int) := of_decide_eq_true (by first | (with_reducible assumption) | assumption)
                                                        have q138 : x85_5 < ((rd_L2 l0 x41_3).length : Int) := of_decide_eq_true (by first | (with_reducible assumption) | assumption)
                                                        obtain ⟨ad138, e138, hx138_0⟩ := Kd.at_int HR130_0.out x85_5 p138 q138
                                                        cases e138
                                                        replace hx138_0 := (HB.out.cell (World.block_lt_of_cell? w _ hx138_0)).trans hx138_0
                                                        replace p138 := eq_true p138
                                                        replace q138 := eq_true q138
                                                        have p139 : 0 ≤ ((rd (rd_L2 l0 x41_3) x85_5) : Int) := of_decide_eq_true (by first | (with_reducible assumption) | assumption)
                                                        have q139 : (rd (rd_L2 l0 x41_3) x85_5) < (x3_2.length : Int) := of_decide_eq_true (by first | (with_reducible assumption) | assumption)
                                                        obtain ⟨ad139, e139, hx139_0, hx139_1⟩ := at_T71 (Kd.R_reads' HO_3.out).2.2 (rd (rd_L2 l0 x41_3) x85_5) p139 q139
                                                        obtain rfl : ad131 = ad139 := (by injection e139)
                                                        replace p139 := eq_true p139
                                                        replace q139 := eq_true q139
                                                        go_wp2
                                                        (try rw [Exit.noGoto_ret]); (try (rw [Exit.noGoto_normal]; try go_wp2)); (try (rw [Exit.noGoto_exit]; try go_wp2))
                                                        go_roundg k5
                                                        case measure => have := HK1.out; have := HK2.out; have := HK3.out; have := HK4.out; have := HK5.out; omega
                                                        case rel => exact ⟨(x6_3), (wrap64 (x41_3 + 1)), (by first | rfl | (simp; done) | (simp [*]; done)), H', ⟨by have := HK1.out; have := HK2.out; have := HK3.out; have := HK4.out; have := HK5.out; omega⟩, ⟨by (try simp only [hl3_1]); (try simp only [hl3_2]); (with_reducible repeat (first | apply Kd.R_alloc | apply Kd.R_drewN | apply Kd.R_drew)); exact HO_3.out⟩, ⟨by (try simp only [hl3_1]); (try simp only [hl3_2]); (with_reducible repeat (first | apply Kd.R_alloc | apply Kd.R_drewN | apply Kd.R_drew)); exact HO_6.out⟩, ⟨by repeat (first | (with_reducible first | exact HB.out | apply below_alloc | apply pw_below_drewN | apply below_drew1) | exact HB.out)⟩⟩
                                                    · rw [if_neg c33] at H
                                                      exact absurd H (by simp)
                                                  · rw [if_neg c32] at H
                                                    exact absurd H (by simp)
                                                · rw [if_neg c31] at H
                                                  exact absurd H (by simp)
                                              · rw [if_neg c30] at H
                                                exact absurd H (by simp)
                                            · rw [if_neg c29] at H
                                              have c29b0 : decide (x85_5 < ((rd_L2 l0 x41_3).length : Int)) = false := decide_eq_false c29
                                              (try rw [hl130_0] at c29b0); (try rw [hl145_0] at c29b0); (try rw [hl3_1] at c29b0); (try rw [hl3_2] at c29b0); (try rw [hl3_4] at c29b0)
                                              clear c29
                                              by_cases c36 : x12_5 = (wrap64 (x5_2 - 1))
                                              · rw [if_pos c36] at H
                                                have c36b0 : (x12_5 == (wrap64 (x5_2 - 1))) = true := beq_iff_eq.mpr c36
                                                have c36b1 : (x12_5 != (wrap64 (x5_2 - 1))) = false := bne_eq_false_iff_eq.mpr c36
                                                clear c36
                                                by_cases c37 : x6_3.length < 17592186044416
                                                · rw [if_pos c37] at H
                                                  have LMc37 := Aside0.mk c37
                                                  clear c37
                                                  obtain ⟨y141, hy141⟩ : ∃ y_ : List Int, y_ = (x6_3 ++ [x41_3]) := ⟨_, rfl⟩
                                                  replace H : (heap_outcomes.l2 k5 l0 x3_2 x5_2 y141 l0 (l0.length : Int) (wrap64 (x41_3 + 1))) = some r := by first | (rw [hy141]; with_reducible exact H) | (have H2_ := (Option.bind_some _ _).symm.trans H; rw [hy141]; with_reducible exact H2_) | (have H2_ := (Option.bind_some _ _).symm.trans H; with_reducible exact H2_) | with_reducible exact H | (rw [hy141]; exact H) | exact H
                                                  have Ny141 := Aside0.mk hy141
                                                  clear hy141
                                                  have H' := Aside0.mk H
                                                  clear H
                                                  go_wp2_with (first | ((with_reducible refine gate_builtin (b := .append) (xs := #[.tmp 107, .tmp 109]) rfl ?_); at_builtin; refine Kd.R_append (Kd.int .i64) (w0 := w) w.heap.size rfl (.tmp 107) (.tmp 109) 22 3 (.int .i64 0) 8 rfl Tryd.underlying22 info3 rfl (by decide) (by omega) u6 x6_3 x41_3 [.int .i64 x41_3] (fun _ => True) (fun _ => False) rfl rfl ?aP (fun _ hk => hk.elim) ?aF ?aO ?aB ?aS ?aL ?_; (case aP => exact rfl); (case aB => exact (by repeat (first | (with_reducible first | exact HB.out | apply below_alloc | apply pw_below_drewN | apply below_drew1) | exact HB.out))); (case aF => exact (fun _ _ => trivial)); (case aO => exact (by (with_reducible repeat (first | apply Kd.R_alloc | apply Kd.R_drewN | apply Kd.R_drew)); exact HO_6.out)); (case aS => exact (below_size (by repeat (first | (with_reducible first | exact HB.out | apply below_alloc | apply pw_below_drewN | apply below_drew1) | exact HB.out)))); (case aL => have := LMc37.out; omega); intro v142 w38 ho hb hg hat; rw [← Ny141.out] at ho; have n0_ := Aside0.mk (Kd.R_over' (by (with_reducible repeat (first | apply Kd.R_alloc | apply Kd.R_drewN | apply Kd.R_drew)); exact HO_3.out) (Kd.R_typed (by (with_reducible repeat (first | apply Kd.R_alloc | apply Kd.R_drewN | apply Kd.R_drew)); exact HO_6.out)) (by decide) hg); have n1_ := Aside0.mk (hb); have n2_ := Aside0.mk (ho); clear HO_3; clear HB; clear HO_6; have HO_3 := n0_; have HB := n1_; have HO143 := n2_; clear n0_ n1_ n2_; clear ho hb hg hat))
                                                  (try rw [Exit.noGoto_ret]); (try (rw [Exit.noGoto_normal]; try go_wp2)); (try (rw [Exit.noGoto_exit]; try go_wp2))
                                                  go_roundg k5
                                                  case measure => have := HK1.out; have := HK2.out; have := HK3.out; have := HK4.out; have := HK5.out; omega
                                                  case rel => exact ⟨(y141), (wrap64 (x41_3 + 1)), (by first | rfl | (simp; done) | (simp [*]; done)), H', ⟨by have := HK1.out; have := HK2.out; have := HK3.out; have := HK4.out; have := HK5.out; omega⟩, ⟨by (try simp only [hl3_1]); (try simp only [hl3_2]); (with_reducible repeat (first | apply Kd.R_alloc | apply Kd.R_drewN | apply Kd.R_drew)); exact HO_3.out⟩, ⟨by (try simp only [hl3_1]); (try simp only [hl3_2]); (with_reducible repeat (first | apply Kd.R_alloc | apply Kd.R_drewN | apply Kd.R_drew)); exact HO143.out⟩, ⟨by repeat (first | (with_reducible first | exact HB.out | apply below_alloc | apply pw_below_drewN | apply below_drew1) | exact HB.out)⟩⟩
                                                · rw [if_neg c37] at H
                                                  exact absurd H (by simp)
                                              · rw [if_neg c36] at H
                                                have c36b0 : (x12_5 == (wrap64 (x5_2 - 1))) = false := beq_eq_false_iff_ne.mpr c36
                                                have c36b1 : (x12_5 != (wrap64 (x5_2 - 1))) = true := bne_iff_ne.mpr c36
                                                have H' := Aside0.mk H
                                                clear H
                                                go_wp2
                                                (try rw [Exit.noGoto_ret]); (try (rw [Exit.noGoto_normal]; try go_wp2)); (try (rw [Exit.noGoto_exit]; try go_wp2))
                                                go_roundg k5
                                                case measure => have := HK1.out; have := HK2.out; have := HK3.out; have := HK4.out; have := HK5.out; omega
                                                case rel => exact ⟨(x6_3), (wrap64 (x41_3 + 1)), (by first | rfl | (simp; done) | (simp [*]; done)), H', ⟨by have := HK1.out; have := HK2.out; have := HK3.out; have := HK4.out; have := HK5.out; omega⟩, ⟨by (try simp only [hl3_1]); (try simp only [hl3_2]); (with_reducible repeat (first | apply Kd.R_alloc | apply Kd.R_drewN | apply Kd.R_drew)); exact HO_3.out⟩, ⟨by (try simp only [hl3_1]); (try simp only [hl3_2]); (with_reducible repeat (first | apply Kd.R_alloc | apply Kd.R_drewN | apply Kd.R_drew)); exact HO_6.out⟩, ⟨by repeat (first | (with_reducible first | exact HB.out | apply below_alloc | apply pw_below_drewN | apply below_drew1) | exact HB.out)⟩⟩
                              · rw [if_neg c18] at H
                                have c18b0 : (((rd_T71 x3_2 x41_3).f0) == 2) = false := beq_eq_false_iff_ne.mpr c18
                                have c18b1 : (((rd_T71 x3_2 x41_3).f0) != 2) = true := bne_iff_ne.mpr c18
                                have H' := Aside0.mk H
                                clear H
                                have p130 : 0 ≤ (x41_3 : Int) := of_decide_eq_true (by first | (with_reducible assumption) | assumption)
                                have q130 : x41_3 < (l0.length : Int) := of_decide_eq_true (by first | (with_reducible assumption) | assumption)
                                obtain ⟨ad130, A130_0, c130_0, e130, hx130_0, hl130_0, hi130_0⟩ := at_L2 HR0.out x41_3 p130 q130
                                cases e130
                                replace hx130_0 := (HB.out.cell (World.block_lt_of_cell? w _ hx130_0)).trans hx130_0
                                have HR130_0 := Aside0.mk hi130_0
                                have HC130_0 := Aside0.mk hl130_0
                                clear hi130_0 hl130_0
                                replace p130 := eq_true p130
                                replace q130 := eq_true q130
                                have p131 : 0 ≤ (x41_3 : Int) := of_decide_eq_true (by first | (with_reducible assumption) | assumption)
                                have q131 : x41_3 < (x3_2.length : Int) := of_decide_eq_true (by first | (with_reducible assumption) | assumption)
                                obtain ⟨ad131, e131, hx131_0, hx131_1⟩ := at_T71 (Kd.R_reads' HO_3.out).2.2 x41_3 p131 q131
                                cases e131
                                replace p131 := eq_true p131
                                replace q131 := eq_true q131
                                go_wp2
                                (try rw [Exit.noGoto_ret]); (try (rw [Exit.noGoto_normal]; try go_wp2)); (try (rw [Exit.noGoto_exit]; try go_wp2))
                                go_roundg k3
                                case measure => have := HK1.out; have := HK2.out; have := HK3.out; omega
                                case rel => exact ⟨(x6_3), (wrap64 (x41_3 + 1)), (by first | rfl | (simp; done) | (simp [*]; done)), H', ⟨by have := HK1.out; have := HK2.out; have := HK3.out; omega⟩, ⟨by (try simp only [hl3_1]); (try simp only [hl3_2]); (with_reducible repeat (first | apply Kd.R_alloc | apply Kd.R_drewN | apply Kd.R_drew)); exact HO_3.out⟩, ⟨by (try simp only [hl3_1]); (try simp only [hl3_2]); (with_reducible repeat (first | apply Kd.R_alloc | apply Kd.R_drewN | apply Kd.R_drew)); exact HO_6.out⟩, ⟨by repeat (first | (with_reducible first | exact HB.out | apply below_alloc | apply pw_below_drewN | apply below_drew1) | exact HB.out)⟩⟩
                            · rw [if_neg c17] at H
                              exact absurd H (by simp)
                          · rw [if_neg c16] at H
                            exact absurd H (by simp)
                        · rw [if_neg c15] at H
                          exact absurd H (by simp)
                      · rw [if_neg c14] at H
                        have c14b0 : decide (x41_3 < (l0.length : Int)) = false := decide_eq_false c14
                        (try rw [hl130_0] at c14b0); (try rw [hl145_0] at c14b0); (try rw [hl3_1] at c14b0); (try rw [hl3_2] at c14b0); (try rw [hl3_4] at c14b0)
                        clear c14
                        have H' := Aside0.mk H
                        clear H
                        obtain ⟨Ao39, co39, eo39⟩ := Kd.R_slice HO_6.out
                        subst eo39
                        go_wp2
                        (try go_step3); (try go_wp2); (try go_step3); (try go_wp2)
                        go_loopg [114] k3 (fun kq v114 w' => ∃ (x3_4 : List (S71)) (x114_4 : Int), v114 = .int .i64 x114_4 ∧ Aside0 (heap_outcomes.l5 kq l0 x3_4 x5_2 x6_3 (x6_3.length : Int) x114_4 = some r) ∧ Aside0 (kq ≤ k3) ∧ Aside0 (Kd.R k71 71 w' w.heap.size (fun _ => True) (.slice Ao6 x3_2.length co6) x3_4) ∧ Aside0 (Kd.R (Kd.int .i64) 3 w' w.heap.size (fun _ => True) (.slice Ao39 x6_3.length co39) x6_3) ∧ Aside0 (Below w.heap.size w w'))
                        case atStart => exact ⟨(x3_2), (0), (by first | rfl | (simp; done) | (simp [*]; done)), H', ⟨Nat.le_refl _⟩, ⟨by (try simp only [hl3_1]); (try simp only [hl3_2]); (with_reducible repeat (first | apply Kd.R_alloc | apply Kd.R_drewN | apply Kd.R_drew)); exact HO_3.out⟩, ⟨by (try simp only [hl3_1]); (try simp only [hl3_2]); (with_reducible repeat (first | apply Kd.R_alloc | apply Kd.R_drewN | apply Kd.R_drew)); exact HO_6.out⟩, ⟨by repeat (first | (with_reducible first | exact HB.out | apply below_alloc | apply pw_below_drewN | apply below_drew1) | exact HB.out)⟩⟩
                        case round =>
                          clear H'
                          try clear c1
                          try clear p1
                          try clear q1
                          try clear hx1
                          try clear hf1
                          try clear c2
                          try clear c2b0
                          try clear c2b1
                          try clear p2
                          try clear c3
                          try clear c3b0
                          try clear c3b1
                          try clear c4
                          try clear p6
                          try clear c7
                          try clear c7b0
                          try clear c8
                          try clear c8b0
                          try clear c9
                          try clear c9b0
                          try clear c10
                          try clear p10
                          try clear q10
                          try clear hx10
                          try clear hf10
                          try clear c11
                          try clear hx11
                          try clear hf11
                          try clear c13
                          try clear c13b0
                          try clear p13
                          try clear q13
                          try clear hx13
                          try clear c14
                          try clear c14b0
                          try clear p14
                          try clear q14
                          try clear hx14
                          try clear c15
                          try clear c15b0
                          try clear c16
                          try clear c16b0
                          try clear c17
                          try clear c17b0
                          try clear c18
                          try clear c18b0
                          try clear c18b1
                          try clear c19
                          try clear c19b0
                          try clear c20
                          try clear c20b0
                          try clear c21
                          try clear c21b0
                          try clear c22
                          try clear c23
                          try clear c23b0
                          try clear c24
                          try clear c24b0
                          try clear c25
                          try clear c25b0
                          try clear c25b1
                          try clear c26
                          try clear c27
                          try clear c29
                          try clear c29b0
                          try clear c30
                          try clear c30b0
                          try clear c31
                          try clear c31b0
                          try clear c32
                          try clear c32b0
                          try clear c33
                          try clear c33b0
                          try clear c34
                          try clear c34b0
                          try clear c34b1
                          try clear c36
                          try clear c36b0
                          try clear c36b1
                          try clear c37
                          try clear hx10_0
                          try clear hx10_1
                          try clear hx11_0
                          try clear hx11_1
                          try clear hx130_0
                          try clear hx131_0
                          try clear hx131_1
                          try clear hx132_0
                          try clear hx133_0
                          try clear hx133_1
                          try clear hx134_0
                          try clear hx134_1
                          try clear hx138_0
                          try clear hx139_0
                          try clear hx139_1
                          try clear hx140_0
                          try clear hx140_1
                          try clear p1
                          try clear p10
                          try clear p13
                          try clear p130
                          try clear p131
                          try clear p132
                          try clear p133
                          try clear p134
                          try clear p138
                          try clear p139
                          try clear p140
                          try clear p2
                          try clear p6
                          try clear q1
                          try clear q10
                          try clear q13
                          try clear q130
                          try clear q131
                          try clear q132
                          try clear q133
                          try clear q134
                          try clear q138
                          try clear q139
                          try clear q140
                          obtain ⟨x3_4, x114_4, rfl, HA, HK4, HO_3, HO_112, HB⟩ := hrel
                          have hl3_4 := (Kd.R_reads' HO_3.out).1
                          rw [hl3_4] at HO_3
                          (try simp only [hl3_4])
                          (try simp only [hl3_4] at HO_112)
                          cases gk with
                          | zero => exact absurd HA.out (by simp [heap_outcomes.l5])
                          | succ k4 =>
                            have H := HA.out
                            clear HA
                            simp only [heap_outcomes.l5] at H
                            by_cases c40 : x114_4 < (x6_3.length : Int)
                            · rw [if_pos c40] at H
                              have c40b0 : decide (x114_4 < (x6_3.length : Int)) = true := decide_eq_true c40
                              (try rw [hl130_0] at c40b0); (try rw [hl145_0] at c40b0); (try rw [hl3_1] at c40b0); (try rw [hl3_2] at c40b0); (try rw [hl3_4] at c40b0)
                              clear c40
                              by_cases c41 : 0 ≤ x114_4
                              · rw [if_pos c41] at H
                                have c41b0 : decide (0 ≤ x114_4) = true := decide_eq_true c41
                                clear c41
                                by_cases c42 : x114_4 < (x6_3.length : Int)
                                · rw [if_pos c42] at H
                                  have c42b0 : decide (x114_4 < (x6_3.length : Int)) = true := decide_eq_true c42
                                  (try rw [hl130_0] at c42b0); (try rw [hl145_0] at c42b0); (try rw [hl3_1] at c42b0); (try rw [hl3_2] at c42b0); (try rw [hl3_4] at c42b0)
                                  clear c42
                                  by_cases c43 : 0 ≤ (rd x6_3 x114_4)
                                  · rw [if_pos c43] at H
                                    have c43b0 : decide (0 ≤ (rd x6_3 x114_4)) = true := decide_eq_true c43
                                    clear c43
                                    by_cases c44 : (rd x6_3 x114_4) < (l0.length : Int)
                                    · rw [if_pos c44] at H
                                      have c44b0 : decide ((rd x6_3 x114_4) < (l0.length : Int)) = true := decide_eq_true c44
                                      (try rw [hl130_0] at c44b0); (try rw [hl145_0] at c44b0); (try rw [hl3_1] at c44b0); (try rw [hl3_2] at c44b0); (try rw [hl3_4] at c44b0)
                                      clear c44
                                      have H' := Aside0.mk H
                                      clear H
                                      have p144 : 0 ≤ (x114_4 : Int) := of_decide_eq_true (by first | (with_reducible assumption) | assumption)
                                      have q144 : x114_4 < (x6_3.length : Int) := of_decide_eq_true (by first | (with_reducible assumption) | assumption)
                                      obtain ⟨ad144, e144, hx144_0⟩ := Kd.at_int (Kd.R_reads' HO_112.out).2.2 x114_4 p144 q144
                                      cases e144
                                      replace p144 := eq_true p144
                                      replace q144 := eq_true q144
                                      have p145 : 0 ≤ ((rd x6_3 x114_4) : Int) := of_decide_eq_true (by first | (with_reducible assumption) | assumption)
                                      have q145 : (rd x6_3 x114_4) < (l0.length : Int) := of_decide_eq_true (by first | (with_reducible assumption) | assumption)
                                      obtain ⟨ad145, A145_0, c145_0, e145, hx145_0, hl145_0, hi145_0⟩ := at_L2 HR0.out (rd x6_3 x114_4) p145 q145
                                      cases e145
                                      replace hx145_0 := (HB.out.cell (World.block_lt_of_cell? w _ hx145_0)).trans hx145_0
                                      have HR145_0 := Aside0.mk hi145_0
                                      have HC145_0 := Aside0.mk hl145_0
                                      clear hi145_0 hl145_0
                                      replace p145 := eq_true p145
                                      replace q145 := eq_true q145
                                      go_wp2
                                      (try go_step3); (try go_wp2); (try go_step3); (try go_wp2)
                                      go_loopg [17, 123] k4 (fun kq v17 v123 w' => ∃ (x17_5 : Int) (x123_5 : Int), v17 = .int .i64 x17_5 ∧ v123 = .int .i64 x123_5 ∧ Aside0 (heap_outcomes.l6 kq l0 x3_4 x5_2 (rd x6_3 x114_4) x17_5 x6_3 (x6_3.length : Int) x114_4 (rd_L2 l0 (rd x6_3 x114_4)) ((rd_L2 l0 (rd x6_3 x114_4)).length : Int) x123_5 = some r) ∧ Aside0 (kq ≤ k4) ∧ Aside0 (Kd.R k71 71 w' w.heap.size (fun _ => True) (.slice Ao6 x3_4.length co6) x3_4) ∧ Aside0 (Kd.R (Kd.int .i64) 3 w' w.heap.size (fun _ => True) (.slice (some ad144) x6_3.length co39) x6_3) ∧ Aside0 (Below w.heap.size w w'))
                                      case atStart => exact ⟨(0), (0), (by first | rfl | (simp; done) | (simp [*]; done)), (by first | rfl | (simp; done) | (simp [*]; done)), H', ⟨Nat.le_refl _⟩, ⟨by (try simp only [hl3_1]); (try simp only [hl3_2]); (try simp only [hl3_4]); (with_reducible repeat (first | apply Kd.R_alloc | apply Kd.R_drewN | apply Kd.R_drew)); exact HO_3.out⟩, ⟨by (try simp only [hl3_1]); (try simp only [hl3_2]); (try simp only [hl3_4]); (with_reducible repeat (first | apply Kd.R_alloc | apply Kd.R_drewN | apply Kd.R_drew)); exact HO_112.out⟩, ⟨by repeat (first | (with_reducible first | exact HB.out | apply below_alloc | apply pw_below_drewN | apply below_drew1) | exact HB.out)⟩⟩
                                      case round =>
                                        clear H'
                                        try clear c1
                                        try clear p1
                                        try clear q1
                                        try clear hx1
                                        try clear hf1
                                        try clear c2
                                        try clear c2b0
                                        try clear c2b1
                                        try clear p2
                                        try clear c3
                                        try clear c3b0
                                        try clear c3b1
                                        try clear c4
                                        try clear p6
                                        try clear c7
                                        try clear c7b0
                                        try clear c8
                                        try clear c8b0
                                        try clear c9
                                        try clear c9b0
                                        try clear c10
                                        try clear p10
                                        try clear q10
                                        try clear hx10
                                        try clear hf10
                                        try clear c11
                                        try clear hx11
                                        try clear hf11
                                        try clear c13
                                        try clear c13b0
                                        try clear p13
                                        try clear q13
                                        try clear hx13
                                        try clear c14
                                        try clear c14b0
                                        try clear p14
                                        try clear q14
                                        try clear hx14
                                        try clear c15
                                        try clear c15b0
                                        try clear c16
                                        try clear c16b0
                                        try clear c17
                                        try clear c17b0
                                        try clear c18
                                        try clear c18b0
                                        try clear c18b1
                                        try clear c19
                                        try clear c19b0
                                        try clear c20
                                        try clear c20b0
                                        try clear c21
                                        try clear c21b0
                                        try clear c22
                                        try clear c23
                                        try clear c23b0
                                        try clear c24
                                        try clear c24b0
                                        try clear c25
                                        try clear c25b0
                                        try clear c25b1
                                        try clear c26
                                        try clear c27
                                        try clear c29
                                        try clear c29b0
                                        try clear c30
                                        try clear c30b0
                                        try clear c31
                                        try clear c31b0
                                        try clear c32
                                        try clear c32b0
                                        try clear c33
                                        try clear c33b0
                                        try clear c34
                                        try clear c34b0
                                        try clear c34b1
                                        try clear c36
                                        try clear c36b0
                                        try clear c36b1
                                        try clear c37
                                        try clear c40
                                        try clear c40b0
                                        try clear c41
                                        try clear c41b0
                                        try clear c42
                                        try clear c42b0
                                        try clear c43
                                        try clear c43b0
                                        try clear c44
                                        try clear c44b0
                                        try clear hx10_0
                                        try clear hx10_1
                                        try clear hx11_0
                                        try clear hx11_1
                                        try clear hx130_0
                                        try clear hx131_0
                                        try clear hx131_1
                                        try clear hx132_0
                                        try clear hx133_0
                                        try clear hx133_1
                                        try clear hx134_0
                                        try clear hx134_1
                                        try clear hx138_0
                                        try clear hx139_0
                                        try clear hx139_1
                                        try clear hx140_0
                                        try clear hx140_1
                                        try clear hx144_0
                                        try clear hx145_0
                                        try clear p1
                                        try clear p10
                                        try clear p13
                                        try clear p130
                                        try clear p131
                                        try clear p132
                                        try clear p133
                                        try clear p134
                                        try clear p138
                                        try clear p139
                                        try clear p14
                                        try clear p140
                                        try clear p144
                                        try clear p145
                                        try clear p2
                                        try clear p6
                                        try clear q1
                                        try clear q10
                                        try clear q13
                                        try clear q130
                                        try clear q131
                                        try clear q132
                                        try clear q133
                                        try clear q134
                                        try clear q138
                                        try clear q139
                                        try clear q14
                                        try clear q140
                                        try clear q144
                                        try clear q145
                                        obtain ⟨x17_5, x123_5, rfl, rfl, HA, HK5, HO_3, HO_112, HB⟩ := hrel
                                        cases gk with
                                        | zero => exact absurd HA.out (by simp [heap_outcomes.l6])
                                        | succ k5 =>
                                          have H := HA.out
                                          clear HA
                                          simp only [heap_outcomes.l6] at H
                                          by_cases c45 : x123_5 < ((rd_L2 l0 (rd x6_3 x114_4)).length : Int)
                                          · rw [if_pos c45] at H
                                            have c45b0 : decide (x123_5 < ((rd_L2 l0 (rd x6_3 x114_4)).length : Int)) = true := decide_eq_true c45
                                            (try rw [hl130_0] at c45b0); (try rw [hl145_0] at c45b0); (try rw [hl3_1] at c45b0); (try rw [hl3_2] at c45b0); (try rw [hl3_4] at c45b0)
                                            clear c45
                                            by_cases c46 : 0 ≤ x123_5
                                            · rw [if_pos c46] at H
                                              have c46b0 : decide (0 ≤ x123_5) = true := decide_eq_true c46
                                              clear c46
                                              by_cases c47 : x123_5 < ((rd_L2 l0 (rd x6_3 x114_4)).length : Int)
                                              · rw [if_pos c47] at H
                                                have c47b0 : decide (x123_5 < ((rd_L2 l0 (rd x6_3 x114_4)).length : Int)) = true := decide_eq_true c47
                                                (try rw [hl130_0] at c47b0); (try rw [hl145_0] at c47b0); (try rw [hl3_1] at c47b0); (try rw [hl3_2] at c47b0); (try rw [hl3_4] at c47b0)
                                                clear c47
                                                by_cases c48 : 0 ≤ (rd (rd_L2 l0 (rd x6_3 x114_4)) x123_5)
                                                · rw [if_pos c48] at H
                                                  have c48b0 : decide (0 ≤ (rd (rd_L2 l0 (rd x6_3 x114_4)) x123_5)) = true := decide_eq_true c48
                                                  clear c48
                                                  by_cases c49 : (rd (rd_L2 l0 (rd x6_3 x114_4)) x123_5) < (x3_4.length : Int)
                                                  · rw [if_pos c49] at H
                                                    have c49b0 : decide ((rd (rd_L2 l0 (rd x6_3 x114_4)) x123_5) < (x3_4.length : Int)) = true := decide_eq_true c49
                                                    (try rw [hl130_0] at c49b0); (try rw [hl145_0] at c49b0); (try rw [hl3_1] at c49b0); (try rw [hl3_2] at c49b0); (try rw [hl3_4] at c49b0)
                                                    clear c49
                                                    by_cases c50 : (((rd_T71 x3_4 (rd (rd_L2 l0 (rd x6_3 x114_4)) x123_5)).f0) == 0 && (((rd_T71 x3_4 (rd (rd_L2 l0 (rd x6_3 x114_4)) x123_5)).f1) == (wrap64 (x5_2 - 1)))) = true
                                                    · rw [if_pos c50] at H
                                                      have c50b0 : (((rd_T71 x3_4 (rd (rd_L2 l0 (rd x6_3 x114_4)) x123_5)).f0) == 0 && (((rd_T71 x3_4 (rd (rd_L2 l0 (rd x6_3 x114_4)) x123_5)).f1) == (wrap64 (x5_2 - 1)))) = true := c50
                                                      (try (have c50b1 : decide (((rd_T71 x3_4 (rd (rd_L2 l0 (rd x6_3 x114_4)) x123_5)).f0) = 0 && (((rd_T71 x3_4 (rd (rd_L2 l0 (rd x6_3 x114_4)) x123_5)).f1) == (wrap64 (x5_2 - 1)))) = true := by simpa using c50))
                                                      (try (have c50b2 : (((rd_T71 x3_4 (rd (rd_L2 l0 (rd x6_3 x114_4)) x123_5)).f0) == 0 && (((rd_T71 x3_4 (rd (rd_L2 l0 (rd x6_3 x114_4)) x123_5)).f1) == (wrap64 (x5_2 - 1)))) = true := by simpa using c50))
                                                      clear c50
                                                      have H' := Aside0.mk H
                                                      clear H
                                                      have p146 : 0 ≤ (x123_5 : Int) := of_decide_eq_true (by first | (with_reducible assumption) | assumption)
                                                      have q146 : x123_5 < ((rd_L2 l0 (rd x6_3 x114_4)).length : Int) := of_decide_eq_true (by first | (with_reducible assumption) | assumption)
                                                      obtain ⟨ad146, e146, hx146_0⟩ := Kd.at_int HR145_0.out x123_5 p146 q146
                                                      cases e146
                                                      replace hx146_0 := (HB.out.cell (World.block_lt_of_cell? w _ hx146_0)).trans hx146_0
                                                      replace p146 := eq_true p146
                                                      replace q146 := eq_true q146
                                                      have p147 : 0 ≤ ((rd (rd_L2 l0 (rd x6_3 x114_4)) x123_5) : Int) := of_decide_eq_true (by first | (with_reducible assumption) | assumption)
                                                      have q147 : (rd (rd_L2 l0 (rd x6_3 x114_4)) x123_5) < (x3_4.length : Int) := of_decide_eq_true (by first | (with_reducible assumption) | assumption)
                                                      obtain ⟨ad147, e147, hx147_0, hx147_1⟩ := at_T71 (Kd.R_reads' HO_3.out).2.2 (rd (rd_L2 l0 (rd x6_3 x114_4)) x123_5) p147 q147
                                                      cases e147
                                                      replace p147 := eq_true p147
                                                      replace q147 := eq_true q147
                                                      go_wp2
                                                      (try rw [Exit.noGoto_ret]); (try (rw [Exit.noGoto_normal]; try go_wp2)); (try (rw [Exit.noGoto_exit]; try go_wp2))
                                                      go_roundg k5
                                                      case measure => have := HK1.out; have := HK2.out; have := HK3.out; have := HK4.out; have := HK5.out; omega
                                                      case rel => exact ⟨(1), (wrap64 (x123_5 + 1)), (by first | rfl | (simp; done) | (simp [*]; done)), (by first | rfl | (simp; done) | (simp [*]; done)), H', ⟨by have := HK1.out; have := HK2.out; have := HK3.out; have := HK4.out; have := HK5.out; omega⟩, ⟨by (try simp only [hl3_1]); (try simp only [hl3_2]); (try simp only [hl3_4]); (with_reducible repeat (first | apply Kd.R_alloc | apply Kd.R_drewN | apply Kd.R_drew)); exact HO_3.out⟩, ⟨by (try simp only [hl3_1]); (try simp only [hl3_2]); (try simp only [hl3_4]); (with_reducible repeat (first | apply Kd.R_alloc | apply Kd.R_drewN | apply Kd.R_drew)); exact HO_112.out⟩, ⟨by repeat (first | (with_reducible first | exact HB.out | apply below_alloc | apply pw_below_drewN | apply below_drew1) | exact HB.out)⟩⟩
                                                    · rw [if_neg c50] at H
                                                      have c50b0 : (((rd_T71 x3_4 (rd (rd_L2 l0 (rd x6_3 x114_4)) x123_5)).f0) == 0 && (((rd_T71 x3_4 (rd (rd_L2 l0 (rd x6_3 x114_4)) x123_5)).f1) == (wrap64 (x5_2 - 1)))) = false := by simpa using c50
                                                      (try (have c50b1 : decide (((rd_T71 x3_4 (rd (rd_L2 l0 (rd x6_3 x114_4)) x123_5)).f0) = 0 && (((rd_T71 x3_4 (rd (rd_L2 l0 (rd x6_3 x114_4)) x123_5)).f1) == (wrap64 (x5_2 - 1)))) = false := by simpa using c50))
                                                      (try (have c50b2 : (((rd_T71 x3_4 (rd (rd_L2 l0 (rd x6_3 x114_4)) x123_5)).f0) == 0 && (((rd_T71 x3_4 (rd (rd_L2 l0 (rd x6_3 x114_4)) x123_5)).f1) == (wrap64 (x5_2 - 1)))) = false := by simpa using c50))
                                                      (try (have c50b3 : ¬ (((rd_T71 x3_4 (rd (rd_L2 l0 (rd x6_3 x114_4)) x123_5)).f0) = 0 && (((rd_T71 x3_4 (rd (rd_L2 l0 (rd x6_3 x114_4)) x123_5)).f1) == (wrap64 (x5_2 - 1)))) := by simpa using c50))
                                                      clear c50
                                                      have H' := Aside0.mk H
                                                      clear H
                                                      have p146 : 0 ≤ (x123_5 : Int) := of_decide_eq_true (by first | (with_reducible assumption) | assumption)
                                                      have q146 : x123_5 < ((rd_L2 l0 (rd x6_3 x114_4)).length : Int) := of_decide_eq_true (by first | (with_reducible assumption) | assumption)
                                                      obtain ⟨ad146, e146, hx146_0⟩ := Kd.at_int HR145_0.out x123_5 p146 q146
                                                      cases e146
                                                      replace hx146_0 := (HB.out.cell (World.block_lt_of_cell? w _ hx146_0)).trans hx146_0
                                                      replace p146 := eq_true p146
                                                      replace q146 := eq_true q146
                                                      have p147 : 0 ≤ ((rd (rd_L2 l0 (rd x6_3 x114_4)) x123_5) : Int) := of_decide_eq_true (by first | (with_reducible assumption) | assumption)
                                                      have q147 : (rd (rd_L2 l0 (rd x6_3 x114_4)) x123_5) < (x3_4.length : Int) := of_decide_eq_true (by first | (with_reducible assumption) | assumption)
                                                      obtain ⟨ad147, e147, hx147_0, hx147_1⟩ := at_T71 (Kd.R_reads' HO_3.out).2.2 (rd (rd_L2 l0 (rd x6_3 x114_4)) x123_5) p147 q147
                                                      cases e147
                                                      replace p147 := eq_true p147
                                                      replace q147 := eq_true q147
                                                      go_wp2
                                                      (try rw [Exit.noGoto_ret]); (try (rw [Exit.noGoto_normal]; try go_wp2)); (try (rw [Exit.noGoto_exit]; try go_wp2))
                                                      go_roundg k5
                                                      case measure => have := HK1.out; have := HK2.out; have := HK3.out; have := HK4.out; have := HK5.out; omega
                                                      case rel => exact ⟨(x17_5), (wrap64 (x123_5 + 1)), (by first | rfl | (simp; done) | (simp [*]; done)), (by first | rfl | (simp; done) | (simp [*]; done)), H', ⟨by have := HK1.out; have := HK2.out; have := HK3.out; have := HK4.out; have := HK5.out; omega⟩, ⟨by (try simp only [hl3_1]); (try simp only [hl3_2]); (try simp only [hl3_4]); (with_reducible repeat (first | apply Kd.R_alloc | apply Kd.R_drewN | apply Kd.R_drew)); exact HO_3.out⟩, ⟨by (try simp only [hl3_1]); (try simp only [hl3_2]); (try simp only [hl3_4]); (with_reducible repeat (first | apply Kd.R_alloc | apply Kd.R_drewN | apply Kd.R_drew)); exact HO_112.out⟩, ⟨by repeat (first | (with_reducible first | exact HB.out | apply below_alloc | apply pw_below_drewN | apply below_drew1) | exact HB.out)⟩⟩
                                                  · rw [if_neg c49] at H
                                                    exact absurd H (by simp)
                                                · rw [if_neg c48] at H
                                                  exact absurd H (by simp)
                                              · rw [if_neg c47] at H
                                                exact absurd H (by simp)
                                            · rw [if_neg c46] at H
                                              exact absurd H (by simp)
                                          · rw [if_neg c45] at H
                                            have c45b0 : decide (x123_5 < ((rd_L2 l0 (rd x6_3 x114_4)).length : Int)) = false := decide_eq_false c45
                                            (try rw [hl130_0] at c45b0); (try rw [hl145_0] at c45b0); (try rw [hl3_1] at c45b0); (try rw [hl3_2] at c45b0); (try rw [hl3_4] at c45b0)
                                            clear c45
                                            by_cases c51 : 0 ≤ (rd x6_3 x114_4)
                                            · rw [if_pos c51] at H
                                              have c51b0 : decide (0 ≤ (rd x6_3 x114_4)) = true := decide_eq_true c51
                                              clear c51
                                              by_cases c52 : (rd x6_3 x114_4) < (x3_4.length : Int)
                                              · rw [if_pos c52] at H
                                                have c52b0 : decide ((rd x6_3 x114_4) < (x3_4.length : Int)) = true := decide_eq_true c52
                                                (try rw [hl130_0] at c52b0); (try rw [hl145_0] at c52b0); (try rw [hl3_1] at c52b0); (try rw [hl3_2] at c52b0); (try rw [hl3_4] at c52b0)
                                                clear c52
                                                obtain ⟨y148, hy148⟩ : ∃ y_ : List (S71), y_ = (x3_4.set ((rd x6_3 x114_4) : Int).toNat (⟨x17_5, x5_2⟩ : S71)) := ⟨_, rfl⟩
                                                replace H : (heap_outcomes.l5 k5 l0 y148 x5_2 x6_3 (x6_3.length : Int) (wrap64 (x114_4 + 1))) = some r := by first | (rw [hy148]; with_reducible exact H) | (have H2_ := (Option.bind_some _ _).symm.trans H; rw [hy148]; with_reducible exact H2_) | (have H2_ := (Option.bind_some _ _).symm.trans H; with_reducible exact H2_) | with_reducible exact H | (rw [hy148]; exact H) | exact H
                                                have Ny148 := Aside0.mk hy148
                                                clear hy148
                                                have H' := Aside0.mk H
                                                clear H
                                                have p53 : 0 ≤ ((rd x6_3 x114_4) : Int) := of_decide_eq_true (by first | (with_reducible assumption) | assumption)
                                                have q53 : ((rd x6_3 x114_4) : Int) < ((x3_4.length : Int) : Int) := of_decide_eq_true (by first | (with_reducible assumption) | assumption)
                                                obtain ⟨go53, co53, eo53, gb53, gl53, cl53, HG53⟩ := Kd.R_form HO_3.out (by omega)
                                                (first | cases eo53 | (injection eo53 with ea_ en_ ec_; (first | subst ea_ | (injection ea_ with ea_; subst ea_)); subst ec_; clear en_))
                                                have GB53 := Aside0.mk gb53
                                                have GG53 := Aside0.mk HG53
                                                clear gb53 gl53 HG53
                                                obtain ⟨ce53, hcl53, hM53, hcc53, hfr53⟩ := Kd.R_elem HO_3.out z71 ((rd x6_3 x114_4) : Int) p53 q53
                                                obtain rfl := k71_openM hM53
                                                have hx53_0 : wr.cell? ⟨go53, ((rd x6_3 x114_4) : Int).toNat * 2, none⟩ = some (.int .i64 ((rd_T71 x3_4 (rd x6_3 x114_4)).f0)) := hcc53 0 _ rfl
                                                have hx53_1 : wr.cell? ⟨go53, ((rd x6_3 x114_4) : Int).toNat * 2 + 1, none⟩ = some (.int .i64 ((rd_T71 x3_4 (rd x6_3 x114_4)).f1)) := hcc53 1 _ rfl
                                                have hf53_0 : wr.frozen? ⟨go53, ((rd x6_3 x114_4) : Int).toNat * 2, none⟩ = false := hfr53 0
                                                have hf53_1 : wr.frozen? ⟨go53, ((rd x6_3 x114_4) : Int).toNat * 2 + 1, none⟩ = false := hfr53 1
                                                clear hcl53 hcc53 hfr53 hM53
                                                replace p53 := eq_true p53
                                                replace q53 := eq_true q53
                                                have HX54 := Aside0.mk (show Kd.R k71 71 wr w.heap.size (fun _ => True) (.slice (some ⟨go53, 0, none⟩) x3_4.length co6) x3_4 from (by (with_reducible repeat (first | apply Kd.R_alloc | apply Kd.R_drewN | apply Kd.R_drew)); exact HO_3.out))
                                                obtain ⟨ce54, hcl54, hM54, hcc54, hfr54⟩ := Kd.R_elem HX54.out z71 ((rd x6_3 x114_4) : Int) (of_decide_eq_true (by first | (with_reducible assumption) | assumption)) (by have h_ : ((rd x6_3 x114_4) : Int) < ((x3_4.length : Int) : Int) := of_decide_eq_true (by first | (with_reducible assumption) | assumption); first | exact h_ | (have e_ := (Kd.R_reads' HO_3.out).1; omega) | simpa using h_)
                                                obtain rfl := k71_openM hM54
                                                have HP54 := Kd.R_seg HX54.out ((rd x6_3 x114_4) : Int) (of_decide_eq_true (by first | (with_reducible assumption) | assumption)) (by have h_ : ((rd x6_3 x114_4) : Int) < ((x3_4.length : Int) : Int) := of_decide_eq_true (by first | (with_reducible assumption) | assumption); first | exact h_ | (have e_ := (Kd.R_reads' HO_3.out).1; omega) | simpa using h_) (seg := [.int .i64 x17_5, .int .i64 x5_2]) (j := 0) hcl54 hcc54 (show 2 ≤ 2 from by decide) (x' := (⟨x17_5, x5_2⟩ : S71)) (k71_mkM _ _ _ (⟨x17_5, x5_2⟩ : S71) ) (fun _ hk => hk)
                                                have hx54_0 := hcc54 0 _ rfl
                                                (try simp only [show (k71).sz = 2 from rfl, Nat.mul_one, Nat.add_zero] at hx54_0)
                                                have hf54_0 := hfr54 0
                                                (try simp only [show (k71).sz = 2 from rfl, Nat.mul_one, Nat.add_zero] at hf54_0)
                                                have hx54_1 := hcc54 1 _ rfl
                                                (try simp only [show (k71).sz = 2 from rfl, Nat.mul_one, Nat.add_zero] at hx54_1)
                                                have hf54_1 := hfr54 1
                                                (try simp only [show (k71).sz = 2 from rfl, Nat.mul_one, Nat.add_zero] at hf54_1)
                                                clear hcl54 hcc54 hfr54 hM54
                                                go_wp2_with (first | ((with_reducible refine gate_store (t := 71) (p := 141) rfl ?_); refine store_event (t := 71) (p := 141) (v := ?vo_w55) (w1 := ((wr.setCell ⟨go53, ((rd x6_3 x114_4) : Int).toNat * 2, none⟩ (.int .i64 x17_5)).setCell ⟨go53, ((rd x6_3 x114_4) : Int).toNat * 2 + 1, none⟩ (.int .i64 x5_2))) ?hg ?ho ?hn ?hr ?_; (case ho => rfl); (case hg => rfl); (case hn => rfl); (case hr => first | (go_simp; done) | (go_simp; rfl)); intro w55 hw; have hg : wr.grownBy w55 (some go53) := (by rw [hw]; exact HP54.2); have hp_ : Kd.R k71 71 w55 w.heap.size (fun _ => True) (.slice (some ⟨go53, 0, none⟩) x3_4.length co6) y148 := (by rw [hw, Ny148.out]; exact HP54.1); clear HP54; have n0_ := Aside0.mk (hp_); have n1_ := Aside0.mk (Kd.R_over' (v := (.slice (some ⟨go53, 0, none⟩) x3_4.length co6)) (by (with_reducible repeat (first | apply Kd.R_alloc | apply Kd.R_drewN | apply Kd.R_drew)); exact HO_112.out) (Kd.R_typed HO_3.out) (by decide) hg); have n2_ := Aside0.mk ((by rw [hw]; exact below_set (below_set (HB.out) GB53.out) GB53.out : Below w.heap.size w w55)); clear HO_3; clear HO_112; clear HB; have HO_3 := n0_; have HO_112 := n1_; have HB := n2_; clear n0_ n1_ n2_; clear hg hw hp_))
                                                (try simp only [← hl3_4])
                                                (try rw [Exit.noGoto_ret]); (try (rw [Exit.noGoto_normal]; try go_wp2)); (try (rw [Exit.noGoto_exit]; try go_wp2))
                                                go_roundg k5
                                                case measure => have := HK1.out; have := HK2.out; have := HK3.out; have := HK4.out; have := HK5.out; omega
                                                case rel => exact ⟨(y148), (wrap64 (x114_4 + 1)), (by first | rfl | (simp; done) | (simp [*]; done)), H', ⟨by have := HK1.out; have := HK2.out; have := HK3.out; have := HK4.out; have := HK5.out; omega⟩, ⟨by (try simp only [hl3_1]); (try simp only [hl3_2]); (try simp only [hl3_4]); (with_reducible repeat (first | apply Kd.R_alloc | apply Kd.R_drewN | apply Kd.R_drew)); exact HO_3.out⟩, ⟨by (try simp only [hl3_1]); (try simp only [hl3_2]); (try simp only [hl3_4]); (with_reducible repeat (first | apply Kd.R_alloc | apply Kd.R_drewN | apply Kd.R_drew)); exact HO_112.out⟩, ⟨by repeat (first | (with_reducible first | exact HB.out | apply below_alloc | apply pw_below_drewN | apply below_drew1) | exact HB.out)⟩⟩
                                              · rw [if_neg c52] at H
                                                exact absurd H (by simp)
                                            · rw [if_neg c51] at H
                                              exact absurd H (by simp)
                                    · rw [if_neg c44] at H
                                      exact absurd H (by simp)
                                  · rw [if_neg c43] at H
                                    exact absurd H (by simp)
                                · rw [if_neg c42] at H
                                  exact absurd H (by simp)
                              · rw [if_neg c41] at H
                                exact absurd H (by simp)
                            · rw [if_neg c40] at H
                              have c40b0 : decide (x114_4 < (x6_3.length : Int)) = false := decide_eq_false c40
                              (try rw [hl130_0] at c40b0); (try rw [hl145_0] at c40b0); (try rw [hl3_1] at c40b0); (try rw [hl3_2] at c40b0); (try rw [hl3_4] at c40b0)
                              clear c40
                              have H' := Aside0.mk H
                              clear H
                              go_wp2
                              (try simp only [← hl3_2, ← hl3_4])
                              (try rw [Exit.noGoto_ret]); (try (rw [Exit.noGoto_normal]; try go_wp2)); (try (rw [Exit.noGoto_exit]; try go_wp2))
                              go_roundg k4
                              case measure => have := HK1.out; have := HK2.out; have := HK3.out; have := HK4.out; omega
                              case rel => exact ⟨(x3_4), (wrap64 (x5_2 + 1)), (by first | rfl | (simp; done) | (simp [*]; done)), H', ⟨by have := HK1.out; have := HK2.out; have := HK3.out; have := HK4.out; omega⟩, ⟨by (try simp only [hl3_1]); (try simp only [hl3_2]); (try simp only [hl3_4]); (with_reducible repeat (first | apply Kd.R_alloc | apply Kd.R_drewN | apply Kd.R_drew)); exact HO_3.out⟩, ⟨by repeat (first | (with_reducible first | exact HB.out | apply below_alloc | apply pw_below_drewN | apply below_drew1) | exact HB.out)⟩⟩
                · rw [if_neg c13] at H
                  have c13b0 : decide (x5_2 ≤ (l0.length : Int)) = false := decide_eq_false c13
                  (try rw [hl130_0] at c13b0); (try rw [hl145_0] at c13b0); (try rw [hl3_1] at c13b0); (try rw [hl3_2] at c13b0); (try rw [hl3_4] at c13b0)
                  clear c13
                  obtain rfl := Option.some.inj H
                  go_wp2
                  (try rw [Exit.noGoto_ret]); (try (rw [Exit.noGoto_normal]; try go_wp2)); (try (rw [Exit.noGoto_exit]; try go_wp2)); (try go_simp)
                  go_ret
                  exact ⟨_, by first | rfl | (simp [errW_none, errW_some] <;> rfl) | (simp [*, errW_none, errW_some] <;> rfl), by (with_reducible repeat (first | apply Kd.R_alloc | apply Kd.R_drewN | apply Kd.R_drew)); exact HO_3.out, by repeat (first | (with_reducible first | exact HB.out | apply below_alloc | apply pw_below_drewN | apply below_drew1) | exact HB.out)⟩
    · rw [if_neg c3] at H
      exact absurd H (by simp)
  · rw [if_neg c2] at H
    exact absurd H (by simp)

end Go.Proofs.YtkfbdhlfajdpgaaDoor.PHeapWins
