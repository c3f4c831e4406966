-- printed by wip/pp.py (my patched run of the kit's printer)
import Derived.Test.YtkfbdhlfajdpgaaDoorPHeapWinsx0
namespace Go.Proofs.YtkfbdhlfajdpgaaDoor.PHeapWins
open Go.RowKit Go.Proofs.YtkfbdhlfajdpgaaDoorW.PrintWords Go.Proofs.YtkfbdhlfajdpgaaDoorW.PrintLast Go.Proofs.YtkfbdhlfajdpgaaDoorW.PrintMore
attribute [local go_sem] max2_int min2_int max_two min_two max_three min_three max_four min_four   -- for this text's walks alone
set_option linter.unusedVariables false
set_option linter.unusedSimpArgs false

/-! ### heap_CheckGraph: function 40 -/
mutual
def heap_CheckGraph.j0 : Nat → List (List Int) → Bool → Option (Int)
  | 0, _, _ => none
  | k + 1, x0, x15 => if x15 = true then (some 61) else (heap_CheckGraph.l0 k x0 x0 (x0.length : Int) 0)
def heap_CheckGraph.l0 : Nat → List (List Int) → List (List Int) → Int → Int → Option (Int)
  | 0, _, _, _, _ => none
  | k + 1, x0, x16, x17, x18 => if x18 < x17 then (if 0 ≤ x18 then (if x18 < (x16.length : Int) then (heap_CheckGraph.l1 k x0 (-1) x16 x17 x18 (rd_L2 x16 x18) ((rd_L2 x16 x18).length : Int) 0) else (none)) else (none)) else (some 0)
def heap_CheckGraph.l1 : Nat → List (List Int) → Int → List (List Int) → Int → Int → List Int → Int → Int → Option (Int)
  | 0, _, _, _, _, _, _, _, _ => none
  | k + 1, x0, x5, x16, x17, x18, x22, x23, x24 => if x24 < x23 then (if 0 ≤ x24 then (if x24 < (x22.length : Int) then (if (rd x22 x24) ≤ x5 then (some 61) else (if (rd x22 x24) ≥ (x0.length : Int) then (some 61) else (heap_CheckGraph.l1 k x0 (rd x22 x24) x16 x17 x18 x22 x23 (wrap64 (x24 + 1))))) else (none)) else (none)) else (heap_CheckGraph.l0 k x0 x16 x17 (wrap64 (x18 + 1)))
end
def heap_CheckGraph.f (k : Nat) (l0 : List (List Int)) : Option (Int) := if (l0.length : Int) < 1 then (heap_CheckGraph.j0 k l0 true) else (heap_CheckGraph.j0 k l0 (decide ((l0.length : Int) > 200)))
theorem heap_CheckGraph.mono_l : ∀ k, (∀ y0 y1, LeO (heap_CheckGraph.j0 k y0 y1) (heap_CheckGraph.j0 (k + 1) y0 y1)) ∧ (∀ y0 y1 y2 y3, LeO (heap_CheckGraph.l0 k y0 y1 y2 y3) (heap_CheckGraph.l0 (k + 1) y0 y1 y2 y3)) ∧ (∀ y0 y1 y2 y3 y4 y5 y6 y7, LeO (heap_CheckGraph.l1 k y0 y1 y2 y3 y4 y5 y6 y7) (heap_CheckGraph.l1 (k + 1) y0 y1 y2 y3 y4 y5 y6 y7))
  | 0 => ⟨fun _ _ r h => by simp [heap_CheckGraph.j0] at h, fun _ _ _ _ r h => by simp [heap_CheckGraph.l0] at h, fun _ _ _ _ _ _ _ _ r h => by simp [heap_CheckGraph.l1] at h⟩
  | k + 1 => by
    obtain ⟨ih0, ih1, ih2⟩ := heap_CheckGraph.mono_l k
    refine ⟨?_, ?_, ?_⟩
    · intro y0 y1
      unfold heap_CheckGraph.j0
      repeat' first
      | (with_reducible exact ih0 _ _)
      | (with_reducible exact ih1 _ _ _ _)
      | (with_reducible exact ih2 _ _ _ _ _ _ _ _)
      | (with_reducible exact LeO.refl _)
      | (with_reducible exact LeO.none _)
      | (with_reducible refine LeO.ite ?_ ?_)
      | (with_reducible refine LeO.bind ?_ (fun _ => ?_))
      | exact ih0 _ _
      | exact ih1 _ _ _ _
      | exact ih2 _ _ _ _ _ _ _ _
      | exact LeO.none _
      | refine LeO.ite ?_ ?_
      | refine LeO.bind ?_ (fun _ => ?_)
    · intro y0 y1 y2 y3
      unfold heap_CheckGraph.l0
      repeat' first
      | (with_reducible exact ih0 _ _)
      | (with_reducible exact ih1 _ _ _ _)
      | (with_reducible exact ih2 _ _ _ _ _ _ _ _)
      | (with_reducible exact LeO.refl _)
      | (with_reducible exact LeO.none _)
      | (with_reducible refine LeO.ite ?_ ?_)
      | (with_reducible refine LeO.bind ?_ (fun _ => ?_))
      | exact ih0 _ _
      | exact ih1 _ _ _ _
      | exact ih2 _ _ _ _ _ _ _ _
      | exact LeO.none _
      | refine LeO.ite ?_ ?_
      | refine LeO.bind ?_ (fun _ => ?_)
    · intro y0 y1 y2 y3 y4 y5 y6 y7
      unfold heap_CheckGraph.l1
      repeat' first
      | (with_reducible exact ih0 _ _)
      | (with_reducible exact ih1 _ _ _ _)
      | (with_reducible exact ih2 _ _ _ _ _ _ _ _)
      | (with_reducible exact LeO.refl _)
      | (with_reducible exact LeO.none _)
      | (with_reducible refine LeO.ite ?_ ?_)
      | (with_reducible refine LeO.bind ?_ (fun _ => ?_))
      | exact ih0 _ _
      | exact ih1 _ _ _ _
      | exact ih2 _ _ _ _ _ _ _ _
      | exact LeO.none _
      | refine LeO.ite ?_ ?_
      | refine LeO.bind ?_ (fun _ => ?_)
theorem heap_CheckGraph.mono : ∀ a0 k, LeO (heap_CheckGraph.f k a0) (heap_CheckGraph.f (k + 1) a0) := by
  intro a0 k
  obtain ⟨ih0, ih1, ih2⟩ := heap_CheckGraph.mono_l k
  unfold heap_CheckGraph.f
  repeat' first
      | (with_reducible exact ih0 _ _)
      | (with_reducible exact ih1 _ _ _ _)
      | (with_reducible exact ih2 _ _ _ _ _ _ _ _)
      | (with_reducible exact LeO.refl _)
      | (with_reducible exact LeO.none _)
      | (with_reducible refine LeO.ite ?_ ?_)
      | (with_reducible refine LeO.bind ?_ (fun _ => ?_))
      | exact ih0 _ _
      | exact ih1 _ _ _ _
      | exact ih2 _ _ _ _ _ _ _ _
      | exact LeO.none _
      | refine LeO.ite ?_ ?_
      | refine LeO.bind ?_ (fun _ => ?_)
set_option maxHeartbeats 8000000 in
set_option maxRecDepth 100000 in
theorem heap_CheckGraph.calls (k : Nat) (A0 : Option Addr) (c0 : Nat) (l0 : List (List Int)) (r : Int) (w : World) (hr0 : Kd.C (Kd.slice 3 (Kd.int .i64)) w A0 l0.length l0) (hc0 : l0.length ≤ c0) (h : heap_CheckGraph.f k l0 = some r) :
    Calls Tryd.prog 40 #[.slice A0 l0.length c0] w fun e w' => e = .returned (.int .i64 r) ∧ Drawn0 w w' := by
  have HR0 := Aside0.mk hr0
  have HC0 := Aside0.mk hc0
  clear hr0 hc0
  have H : (if (l0.length : Int) < 1 then (heap_CheckGraph.j0 k l0 true) else (heap_CheckGraph.j0 k l0 (decide ((l0.length : Int) > 200)))) = some r := h
  clear h
  have HC2 := Aside0.mk H
  clear H
  go_enter Tryd.func40, Tryd.ntmps40
  go_upto_region 1 with (fail)
  go_cut [15] (fun v15 wc => ∃ (kq : Nat) (x15_1 : Bool), v15 = .bool x15_1 ∧ Aside0 (heap_CheckGraph.j0 kq l0 x15_1 = some r) ∧ Aside0 (kq ≤ k) ∧ Drawn0 w wc)
  case first =>
    have H := HC2.out
    clear HC2
    by_cases c3 : (l0.length : Int) < 1
    · rw [if_pos c3] at H
      have c3b0 : decide ((l0.length : Int) < 1) = true := decide_eq_true c3
      have c3b1 : decide (l0.length < 1) = true := decide_eq_true (by omega)
      clear c3
      (first | rw [c3b0] | (simp only [i64_w, i32_w]; rw [c3b0]) | skip)
      have H' := Aside0.mk H
      clear H
      go_wp2
      go_meet
      case rel => exact ⟨_, (true), (by first | rfl | (simp; done) | (simp [*]; done)), H', ⟨by first | omega | exact Nat.le_refl _⟩, by repeat (first | exact Drawn0.refl _ | apply Drawn0.step)⟩
    · rw [if_neg c3] at H
      have c3b0 : decide ((l0.length : Int) < 1) = false := decide_eq_false c3
      have c3b1 : decide (l0.length < 1) = false := decide_eq_false (by omega)
      clear c3
      (first | rw [c3b0] | (simp only [i64_w, i32_w]; rw [c3b0]) | skip)
      have H' := Aside0.mk H
      clear H
      go_wp2
      go_meet
      case rel => exact ⟨_, (decide ((l0.length : Int) > 200)), (by first | rfl | (simp; done) | (simp [*]; done)), H', ⟨by first | omega | exact Nat.le_refl _⟩, by repeat (first | exact Drawn0.refl _ | apply Drawn0.step)⟩
  case rest =>
    clear HC2
    try clear p2
    try clear c3
    try clear c3b0
    try clear c3b1
    obtain ⟨kq, x15_1, rfl, HA, HJ1, ⟨mc1, rfl⟩⟩ := hcut
    cases kq with
    | zero => exact absurd HA.out (by simp [heap_CheckGraph.j0])
    | succ kj1 =>
      have H := HA.out
      clear HA
      simp only [heap_CheckGraph.j0] at H
      by_cases c4 : x15_1 = true
      · subst c4
        have H1 : (some 61) = some r := by rw [if_pos rfl] at H; exact H
        clear H
        have H := H1
        clear H1
        obtain rfl := Option.some.inj H
        go_wp2
        go_ret
        exact ⟨by first | rfl | (simp; done) | (simp [*]; done), by repeat (first | exact Drawn0.refl _ | apply Drawn0.step)⟩
      · replace c4 := Bool.eq_false_iff.mpr c4
        subst c4
        have H1 : (heap_CheckGraph.l0 kj1 l0 l0 (l0.length : Int) 0) = some r := by rw [if_neg (show ¬ (false = true) by decide)] at H; exact H
        clear H
        have H := H1
        clear H1
        have H' := Aside0.mk H
        clear H
        go_wp2
        go_loopg [18] kj1 (fun kq v18 w' => ∃ (x18_2 : Int), v18 = .int .i64 x18_2 ∧ Aside0 (heap_CheckGraph.l0 kq l0 l0 (l0.length : Int) x18_2 = some r) ∧ Aside0 (kq ≤ kj1) ∧ Drawn0 w w')
        case atStart => exact ⟨(0), (by first | rfl | (simp; done) | (simp [*]; done)), H', ⟨Nat.le_refl _⟩, by repeat (first | exact Drawn0.refl _ | apply Drawn0.step)⟩
        case round =>
          clear H'
          try clear c1
          try clear p2
          try clear c3
          try clear c3b0
          try clear c3b1
          try clear c4
          try clear p2
          obtain ⟨x18_2, rfl, HA, HK2, ⟨m2, rfl⟩⟩ := hrel
          cases gk with
          | zero => exact absurd HA.out (by simp [heap_CheckGraph.l0])
          | succ k2 =>
            have H := HA.out
            clear HA
            simp only [heap_CheckGraph.l0] at H
            by_cases c5 : x18_2 < (l0.length : Int)
            · rw [if_pos c5] at H
              have c5b0 : decide (x18_2 < (l0.length : Int)) = true := decide_eq_true c5
              clear c5
              by_cases c6 : 0 ≤ x18_2
              · rw [if_pos c6] at H
                have c6b0 : decide (0 ≤ x18_2) = true := decide_eq_true c6
                clear c6
                by_cases c7 : x18_2 < (l0.length : Int)
                · rw [if_pos c7] at H
                  have c7b0 : decide (x18_2 < (l0.length : Int)) = true := decide_eq_true c7
                  clear c7
                  have H' := Aside0.mk H
                  clear H
                  have p124 : 0 ≤ (x18_2 : Int) := of_decide_eq_true (by first | (with_reducible assumption) | assumption)
                  have q124 : x18_2 < (l0.length : Int) := of_decide_eq_true (by first | (with_reducible assumption) | assumption)
                  obtain ⟨ad124, A124_0, c124_0, e124, hx124_0, hl124_0, hi124_0⟩ := at_L2 HR0.out x18_2 p124 q124
                  cases e124
                  have HR124_0 := Aside0.mk hi124_0
                  have HC124_0 := Aside0.mk hl124_0
                  clear hi124_0 hl124_0
                  replace p124 := eq_true p124
                  replace q124 := eq_true q124
                  go_wp2
                  go_loopg [5, 24] k2 (fun kq v5 v24 w' => ∃ (x5_3 : Int) (x24_3 : Int), v5 = .int .i64 x5_3 ∧ v24 = .int .i64 x24_3 ∧ Aside0 (heap_CheckGraph.l1 kq l0 x5_3 l0 (l0.length : Int) x18_2 (rd_L2 l0 x18_2) ((rd_L2 l0 x18_2).length : Int) x24_3 = some r) ∧ Aside0 (kq ≤ k2) ∧ Drawn0 w w')
                  case atStart => exact ⟨((-1)), (0), (by first | rfl | (simp; done) | (simp [*]; done)), (by first | rfl | (simp; done) | (simp [*]; done)), H', ⟨Nat.le_refl _⟩, by repeat (first | exact Drawn0.refl _ | apply Drawn0.step)⟩
                  case round =>
                    clear H'
                    try clear c1
                    try clear p1
                    try clear q1
                    try clear hx1
                    try clear p2
                    try clear c3
                    try clear c3b0
                    try clear c3b1
                    try clear c4
                    try clear c5
                    try clear c5b0
                    try clear c6
                    try clear c6b0
                    try clear c7
                    try clear c7b0
                    try clear hx124_0
                    try clear p124
                    try clear p2
                    try clear q124
                    obtain ⟨x5_3, x24_3, rfl, rfl, HA, HK3, ⟨m3, rfl⟩⟩ := hrel
                    cases gk with
                    | zero => exact absurd HA.out (by simp [heap_CheckGraph.l1])
                    | succ k3 =>
                      have H := HA.out
                      clear HA
                      simp only [heap_CheckGraph.l1] at H
                      by_cases c8 : x24_3 < ((rd_L2 l0 x18_2).length : Int)
                      · rw [if_pos c8] at H
                        have c8b0 : decide (x24_3 < ((rd_L2 l0 x18_2).length : Int)) = true := decide_eq_true c8
                        clear c8
                        by_cases c9 : 0 ≤ x24_3
                        · rw [if_pos c9] at H
                          have c9b0 : decide (0 ≤ x24_3) = true := decide_eq_true c9
                          clear c9
                          by_cases c10 : x24_3 < ((rd_L2 l0 x18_2).length : Int)
                          · rw [if_pos c10] at H
                            have c10b0 : decide (x24_3 < ((rd_L2 l0 x18_2).length : Int)) = true := decide_eq_true c10
                            clear c10
                            by_cases c11 : (rd (rd_L2 l0 x18_2) x24_3) ≤ x5_3
                            · rw [if_pos c11] at H
                              have c11b0 : decide ((rd (rd_L2 l0 x18_2) x24_3) ≤ x5_3) = true := decide_eq_true c11
                              clear c11
                              obtain rfl := Option.some.inj H
                              have p125 : 0 ≤ (x24_3 : Int) := of_decide_eq_true (by first | (with_reducible assumption) | assumption)
                              have q125 : x24_3 < ((rd_L2 l0 x18_2).length : Int) := of_decide_eq_true (by first | (with_reducible assumption) | assumption)
                              obtain ⟨ad125, e125, hx125_0⟩ := Kd.at_int HR124_0.out x24_3 p125 q125
                              cases e125
                              replace p125 := eq_true p125
                              replace q125 := eq_true q125
                              go_wp2
                              go_ret
                              exact ⟨by first | rfl | (simp; done) | (simp [*]; done), by repeat (first | exact Drawn0.refl _ | apply Drawn0.step)⟩
                            · rw [if_neg c11] at H
                              have c11b0 : decide ((rd (rd_L2 l0 x18_2) x24_3) ≤ x5_3) = false := decide_eq_false c11
                              clear c11
                              by_cases c12 : (rd (rd_L2 l0 x18_2) x24_3) ≥ (l0.length : Int)
                              · rw [if_pos c12] at H
                                have c12b0 : decide ((l0.length : Int) ≤ (rd (rd_L2 l0 x18_2) x24_3)) = true := decide_eq_true c12
                                clear c12
                                obtain rfl := Option.some.inj H
                                have p125 : 0 ≤ (x24_3 : Int) := of_decide_eq_true (by first | (with_reducible assumption) | assumption)
                                have q125 : x24_3 < ((rd_L2 l0 x18_2).length : Int) := of_decide_eq_true (by first | (with_reducible assumption) | assumption)
                                obtain ⟨ad125, e125, hx125_0⟩ := Kd.at_int HR124_0.out x24_3 p125 q125
                                cases e125
                                replace p125 := eq_true p125
                                replace q125 := eq_true q125
                                go_wp2
                                go_ret
                                exact ⟨by first | rfl | (simp; done) | (simp [*]; done), by repeat (first | exact Drawn0.refl _ | apply Drawn0.step)⟩
                              · rw [if_neg c12] at H
                                have c12b0 : decide ((l0.length : Int) ≤ (rd (rd_L2 l0 x18_2) x24_3)) = false := decide_eq_false c12
                                clear c12
                                have H' := Aside0.mk H
                                clear H
                                have p125 : 0 ≤ (x24_3 : Int) := of_decide_eq_true (by first | (with_reducible assumption) | assumption)
                                have q125 : x24_3 < ((rd_L2 l0 x18_2).length : Int) := of_decide_eq_true (by first | (with_reducible assumption) | assumption)
                                obtain ⟨ad125, e125, hx125_0⟩ := Kd.at_int HR124_0.out x24_3 p125 q125
                                cases e125
                                replace p125 := eq_true p125
                                replace q125 := eq_true q125
                                go_wp2
                                go_roundg k3
                                case measure => have := HJ1.out; have := HK2.out; have := HK3.out; omega
                                case rel => exact ⟨(rd (rd_L2 l0 x18_2) x24_3), (wrap64 (x24_3 + 1)), (by first | rfl | (simp; done) | (simp [*]; done)), (by first | rfl | (simp; done) | (simp [*]; done)), H', ⟨by have := HJ1.out; have := HK2.out; have := HK3.out; omega⟩, by repeat (first | exact Drawn0.refl _ | apply Drawn0.step)⟩
                          · rw [if_neg c10] at H
                            exact absurd H (by simp)
                        · rw [if_neg c9] at H
                          exact absurd H (by simp)
                      · rw [if_neg c8] at H
                        have c8b0 : decide (x24_3 < ((rd_L2 l0 x18_2).length : Int)) = false := decide_eq_false c8
                        clear c8
                        have H' := Aside0.mk H
                        clear H
                        go_wp2
                        go_roundg k3
                        case measure => have := HJ1.out; have := HK2.out; have := HK3.out; omega
                        case rel => exact ⟨(wrap64 (x18_2 + 1)), (by first | rfl | (simp; done) | (simp [*]; done)), H', ⟨by have := HJ1.out; have := HK2.out; have := HK3.out; omega⟩, by repeat (first | exact Drawn0.refl _ | apply Drawn0.step)⟩
                · rw [if_neg c7] at H
                  exact absurd H (by simp)
              · rw [if_neg c6] at H
                exact absurd H (by simp)
            · rw [if_neg c5] at H
              have c5b0 : decide (x18_2 < (l0.length : Int)) = false := decide_eq_false c5
              clear c5
              obtain rfl := Option.some.inj H
              go_wp2
              go_ret
              exact ⟨by first | rfl | (simp; done) | (simp [*]; done), by repeat (first | exact Drawn0.refl _ | apply Drawn0.step)⟩

end Go.Proofs.YtkfbdhlfajdpgaaDoor.PHeapWins
