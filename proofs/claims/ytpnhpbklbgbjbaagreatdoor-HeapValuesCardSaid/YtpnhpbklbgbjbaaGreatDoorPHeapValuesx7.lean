-- printed by wip/pp.py (my patched run of the kit's printer)
import Derived.Test.YtpnhpbklbgbjbaaGreatDoorPHeapValuesx0
namespace Go.Proofs.YtpnhpbklbgbjbaaGreatDoor.PHeapValues
open Go.RowKit Go.Proofs.YtpnhpbklbgbjbaaGreatDoorW.PrintWords Go.Proofs.YtpnhpbklbgbjbaaGreatDoorW.PrintLast Go.Proofs.YtpnhpbklbgbjbaaGreatDoorW.PrintMore
attribute [local go_sem] max2_int min2_int max_two min_two max_three min_three max_four min_four   -- for this text's walks alone
set_option linter.unusedVariables false
set_option linter.unusedSimpArgs false

/-! ### staddaref06_after: function 33 -/
theorem dgt1 (b : Int) : (b - 48) % 256 % 2 = (b - 48) % 2 := Int.emod_emod_of_dvd _ (by decide)
theorem dgt2 (b : Int) : Int.tmod (wrap64 (Int.tdiv ((b - 48) % 256) 2)) 2 = (b - 48) % 256 / 2 % 2 := by
  have h1 := Int.emod_nonneg (b - 48) (by decide : (256 : Int) ≠ 0)
  have h2 := Int.emod_lt_of_pos (b - 48) (by decide : (0 : Int) < 256)
  rw [Int.tdiv_eq_ediv_of_nonneg h1]
  generalize (b - 48) % 256 = e at *
  rw [show wrap64 (e / 2) = e / 2 from by unfold wrap64; omega, Int.tmod_eq_emod_of_nonneg (by omega)]
theorem dgt4 (b : Int) : wrap64 (Int.tdiv ((b - 48) % 256) 4) = (b - 48) % 256 / 4 := by
  have h1 := Int.emod_nonneg (b - 48) (by decide : (256 : Int) ≠ 0)
  have h2 := Int.emod_lt_of_pos (b - 48) (by decide : (0 : Int) < 256)
  rw [Int.tdiv_eq_ediv_of_nonneg h1]
  generalize (b - 48) % 256 = e at *
  unfold wrap64; omega
mutual
def staddaref06_after.l0 : Nat → ByteArray → Int → List (List Int) → Int → Option ((List (List Int)))
  | 0, _, _, _, _ => none
  | k + 1, x0, x1, x5, x6 => if x6 ≤ (wrap64 ((x0.size : Int) - 2)) then (staddaref06_after.j1 k x0 x1 x5 x6 (decide (x6 ≤ x1))) else (staddaref06_after.j1 k x0 x1 x5 x6 false)
def staddaref06_after.j1 : Nat → ByteArray → Int → List (List Int) → Int → Bool → Option ((List (List Int)))
  | 0, _, _, _, _, _ => none
  | k + 1, x0, x1, x5, x6, x19 => if x19 = true then (if 0 ≤ (wrap64 (x6 + 1)) then (if (wrap64 (x6 + 1)) < (x0.size : Int) then (if ((((bt x0 (wrap64 (x6 + 1))) - 48) % 256) % 2) = 1 then (staddaref06_after.j2 k x0 x1 x5 x6 (((bt x0 (wrap64 (x6 + 1))) - 48) % 256) (wrap64 (x1 - x6)) ((wrap64 (x1 - x6)) == 0)) else (staddaref06_after.j2 k x0 x1 x5 x6 (((bt x0 (wrap64 (x6 + 1))) - 48) % 256) (wrap64 (x1 - x6)) false)) else (none)) else (none)) else (some x5)
def staddaref06_after.j2 : Nat → ByteArray → Int → List (List Int) → Int → Int → Int → Bool → Option ((List (List Int)))
  | 0, _, _, _, _, _, _, _ => none
  | k + 1, x0, x1, x5, x6, x7, x8, x37 => if x37 = true then (if x5.length < 5864062014805 then (staddaref06_after.j3 k x0 x1 (x5 ++ [[]]) x6 x7 x8) else (none)) else (staddaref06_after.j3 k x0 x1 x5 x6 x7 x8)
def staddaref06_after.j3 : Nat → ByteArray → Int → List (List Int) → Int → Int → Int → Option ((List (List Int)))
  | 0, _, _, _, _, _, _ => none
  | k + 1, x0, x1, x5, x6, x7, x8 => if (Int.tmod (wrap64 (Int.tdiv x7 2)) 2) = 1 then (staddaref06_after.j4 k x0 x1 x5 x6 x7 x8 (decide (x8 > 0))) else (staddaref06_after.j4 k x0 x1 x5 x6 x7 x8 false)
def staddaref06_after.j4 : Nat → ByteArray → Int → List (List Int) → Int → Int → Int → Bool → Option ((List (List Int)))
  | 0, _, _, _, _, _, _, _ => none
  | k + 1, x0, x1, x5, x6, x7, x8, x48 => if x48 = true then (if x5.length < 5864062014805 then (staddaref06_after.j5 k x0 x1 (x5 ++ [(([x8] : List Int))]) x6 x7 x8) else (none)) else (staddaref06_after.j5 k x0 x1 x5 x6 x7 x8)
def staddaref06_after.j5 : Nat → ByteArray → Int → List (List Int) → Int → Int → Int → Option ((List (List Int)))
  | 0, _, _, _, _, _, _ => none
  | k + 1, x0, x1, x5, x6, x7, x8 => if (wrap64 (Int.tdiv x7 4)) = 1 then (staddaref06_after.l1 k x0 x1 x5 x6 x8 1) else (staddaref06_after.l0 k x0 x1 x5 (wrap64 (x6 + 1)))
def staddaref06_after.l1 : Nat → ByteArray → Int → List (List Int) → Int → Int → Int → Option ((List (List Int)))
  | 0, _, _, _, _, _, _ => none
  | k + 1, x0, x1, x5, x6, x8, x9 => if (wrap64 (x9 + x9)) ≤ x8 then (if x5.length < 5864062014805 then (staddaref06_after.l1 k x0 x1 (x5 ++ [(([x9, wrap64 (x8 - x9)] : List Int))]) x6 x8 (wrap64 (x9 + 1))) else (none)) else (staddaref06_after.l0 k x0 x1 x5 (wrap64 (x6 + 1)))
end
def staddaref06_after.f (k : Nat) (a0 : ByteArray) (a1 : Int) : Option ((List (List Int))) := staddaref06_after.l0 k a0 a1 ([] : List (List Int)) 1
theorem staddaref06_after.mono_l : ∀ k, (∀ y0 y1 y2 y3, LeO (staddaref06_after.l0 k y0 y1 y2 y3) (staddaref06_after.l0 (k + 1) y0 y1 y2 y3)) ∧ (∀ y0 y1 y2 y3 y4, LeO (staddaref06_after.j1 k y0 y1 y2 y3 y4) (staddaref06_after.j1 (k + 1) y0 y1 y2 y3 y4)) ∧ (∀ y0 y1 y2 y3 y4 y5 y6, LeO (staddaref06_after.j2 k y0 y1 y2 y3 y4 y5 y6) (staddaref06_after.j2 (k + 1) y0 y1 y2 y3 y4 y5 y6)) ∧ (∀ y0 y1 y2 y3 y4 y5, LeO (staddaref06_after.j3 k y0 y1 y2 y3 y4 y5) (staddaref06_after.j3 (k + 1) y0 y1 y2 y3 y4 y5)) ∧ (∀ y0 y1 y2 y3 y4 y5 y6, LeO (staddaref06_after.j4 k y0 y1 y2 y3 y4 y5 y6) (staddaref06_after.j4 (k + 1) y0 y1 y2 y3 y4 y5 y6)) ∧ (∀ y0 y1 y2 y3 y4 y5, LeO (staddaref06_after.j5 k y0 y1 y2 y3 y4 y5) (staddaref06_after.j5 (k + 1) y0 y1 y2 y3 y4 y5)) ∧ (∀ y0 y1 y2 y3 y4 y5, LeO (staddaref06_after.l1 k y0 y1 y2 y3 y4 y5) (staddaref06_after.l1 (k + 1) y0 y1 y2 y3 y4 y5))
  | 0 => ⟨fun _ _ _ _ r h => by simp [staddaref06_after.l0] at h, fun _ _ _ _ _ r h => by simp [staddaref06_after.j1] at h, fun _ _ _ _ _ _ _ r h => by simp [staddaref06_after.j2] at h, fun _ _ _ _ _ _ r h => by simp [staddaref06_after.j3] at h, fun _ _ _ _ _ _ _ r h => by simp [staddaref06_after.j4] at h, fun _ _ _ _ _ _ r h => by simp [staddaref06_after.j5] at h, fun _ _ _ _ _ _ r h => by simp [staddaref06_after.l1] at h⟩
  | k + 1 => by
    obtain ⟨ih0, ih1, ih2, ih3, ih4, ih5, ih6⟩ := staddaref06_after.mono_l k
    refine ⟨?_, ?_, ?_, ?_, ?_, ?_, ?_⟩
    · intro y0 y1 y2 y3
      unfold staddaref06_after.l0
      repeat' first
      | (with_reducible exact ih0 _ _ _ _)
      | (with_reducible exact ih1 _ _ _ _ _)
      | (with_reducible exact ih2 _ _ _ _ _ _ _)
      | (with_reducible exact ih3 _ _ _ _ _ _)
      | (with_reducible exact ih4 _ _ _ _ _ _ _)
      | (with_reducible exact ih5 _ _ _ _ _ _)
      | (with_reducible exact ih6 _ _ _ _ _ _)
      | (with_reducible exact LeO.refl _)
      | (with_reducible exact LeO.none _)
      | (with_reducible refine LeO.ite ?_ ?_)
      | (with_reducible refine LeO.bind ?_ (fun _ => ?_))
      | exact ih0 _ _ _ _
      | exact ih1 _ _ _ _ _
      | exact ih2 _ _ _ _ _ _ _
      | exact ih3 _ _ _ _ _ _
      | exact ih4 _ _ _ _ _ _ _
      | exact ih5 _ _ _ _ _ _
      | exact ih6 _ _ _ _ _ _
      | exact LeO.none _
      | refine LeO.ite ?_ ?_
      | refine LeO.bind ?_ (fun _ => ?_)
    · intro y0 y1 y2 y3 y4
      unfold staddaref06_after.j1
      repeat' first
      | (with_reducible exact ih0 _ _ _ _)
      | (with_reducible exact ih1 _ _ _ _ _)
      | (with_reducible exact ih2 _ _ _ _ _ _ _)
      | (with_reducible exact ih3 _ _ _ _ _ _)
      | (with_reducible exact ih4 _ _ _ _ _ _ _)
      | (with_reducible exact ih5 _ _ _ _ _ _)
      | (with_reducible exact ih6 _ _ _ _ _ _)
      | (with_reducible exact LeO.refl _)
      | (with_reducible exact LeO.none _)
      | (with_reducible refine LeO.ite ?_ ?_)
      | (with_reducible refine LeO.bind ?_ (fun _ => ?_))
      | exact ih0 _ _ _ _
      | exact ih1 _ _ _ _ _
      | exact ih2 _ _ _ _ _ _ _
      | exact ih3 _ _ _ _ _ _
      | exact ih4 _ _ _ _ _ _ _
      | exact ih5 _ _ _ _ _ _
      | exact ih6 _ _ _ _ _ _
      | exact LeO.none _
      | refine LeO.ite ?_ ?_
      | refine LeO.bind ?_ (fun _ => ?_)
    · intro y0 y1 y2 y3 y4 y5 y6
      unfold staddaref06_after.j2
      repeat' first
      | (with_reducible exact ih0 _ _ _ _)
      | (with_reducible exact ih1 _ _ _ _ _)
      | (with_reducible exact ih2 _ _ _ _ _ _ _)
      | (with_reducible exact ih3 _ _ _ _ _ _)
      | (with_reducible exact ih4 _ _ _ _ _ _ _)
      | (with_reducible exact ih5 _ _ _ _ _ _)
      | (with_reducible exact ih6 _ _ _ _ _ _)
      | (with_reducible exact LeO.refl _)
      | (with_reducible exact LeO.none _)
      | (with_reducible refine LeO.ite ?_ ?_)
      | (with_reducible refine LeO.bind ?_ (fun _ => ?_))
      | exact ih0 _ _ _ _
      | exact ih1 _ _ _ _ _
      | exact ih2 _ _ _ _ _ _ _
      | exact ih3 _ _ _ _ _ _
      | exact ih4 _ _ _ _ _ _ _
      | exact ih5 _ _ _ _ _ _
      | exact ih6 _ _ _ _ _ _
      | exact LeO.none _
      | refine LeO.ite ?_ ?_
      | refine LeO.bind ?_ (fun _ => ?_)
    · intro y0 y1 y2 y3 y4 y5
      unfold staddaref06_after.j3
      repeat' first
      | (with_reducible exact ih0 _ _ _ _)
      | (with_reducible exact ih1 _ _ _ _ _)
      | (with_reducible exact ih2 _ _ _ _ _ _ _)
      | (with_reducible exact ih3 _ _ _ _ _ _)
      | (with_reducible exact ih4 _ _ _ _ _ _ _)
      | (with_reducible exact ih5 _ _ _ _ _ _)
      | (with_reducible exact ih6 _ _ _ _ _ _)
      | (with_reducible exact LeO.refl _)
      | (with_reducible exact LeO.none _)
      | (with_reducible refine LeO.ite ?_ ?_)
      | (with_reducible refine LeO.bind ?_ (fun _ => ?_))
      | exact ih0 _ _ _ _
      | exact ih1 _ _ _ _ _
      | exact ih2 _ _ _ _ _ _ _
      | exact ih3 _ _ _ _ _ _
      | exact ih4 _ _ _ _ _ _ _
      | exact ih5 _ _ _ _ _ _
      | exact ih6 _ _ _ _ _ _
      | exact LeO.none _
      | refine LeO.ite ?_ ?_
      | refine LeO.bind ?_ (fun _ => ?_)
    · intro y0 y1 y2 y3 y4 y5 y6
      unfold staddaref06_after.j4
      repeat' first
      | (with_reducible exact ih0 _ _ _ _)
      | (with_reducible exact ih1 _ _ _ _ _)
      | (with_reducible exact ih2 _ _ _ _ _ _ _)
      | (with_reducible exact ih3 _ _ _ _ _ _)
      | (with_reducible exact ih4 _ _ _ _ _ _ _)
      | (with_reducible exact ih5 _ _ _ _ _ _)
      | (with_reducible exact ih6 _ _ _ _ _ _)
      | (with_reducible exact LeO.refl _)
      | (with_reducible exact LeO.none _)
      | (with_reducible refine LeO.ite ?_ ?_)
      | (with_reducible refine LeO.bind ?_ (fun _ => ?_))
      | exact ih0 _ _ _ _
      | exact ih1 _ _ _ _ _
      | exact ih2 _ _ _ _ _ _ _
      | exact ih3 _ _ _ _ _ _
      | exact ih4 _ _ _ _ _ _ _
      | exact ih5 _ _ _ _ _ _
      | exact ih6 _ _ _ _ _ _
      | exact LeO.none _
      | refine LeO.ite ?_ ?_
      | refine LeO.bind ?_ (fun _ => ?_)
    · intro y0 y1 y2 y3 y4 y5
      unfold staddaref06_after.j5
      repeat' first
      | (with_reducible exact ih0 _ _ _ _)
      | (with_reducible exact ih1 _ _ _ _ _)
      | (with_reducible exact ih2 _ _ _ _ _ _ _)
      | (with_reducible exact ih3 _ _ _ _ _ _)
      | (with_reducible exact ih4 _ _ _ _ _ _ _)
      | (with_reducible exact ih5 _ _ _ _ _ _)
      | (with_reducible exact ih6 _ _ _ _ _ _)
      | (with_reducible exact LeO.refl _)
      | (with_reducible exact LeO.none _)
      | (with_reducible refine LeO.ite ?_ ?_)
      | (with_reducible refine LeO.bind ?_ (fun _ => ?_))
      | exact ih0 _ _ _ _
      | exact ih1 _ _ _ _ _
      | exact ih2 _ _ _ _ _ _ _
      | exact ih3 _ _ _ _ _ _
      | exact ih4 _ _ _ _ _ _ _
      | exact ih5 _ _ _ _ _ _
      | exact ih6 _ _ _ _ _ _
      | exact LeO.none _
      | refine LeO.ite ?_ ?_
      | refine LeO.bind ?_ (fun _ => ?_)
    · intro y0 y1 y2 y3 y4 y5
      unfold staddaref06_after.l1
      repeat' first
      | (with_reducible exact ih0 _ _ _ _)
      | (with_reducible exact ih1 _ _ _ _ _)
      | (with_reducible exact ih2 _ _ _ _ _ _ _)
      | (with_reducible exact ih3 _ _ _ _ _ _)
      | (with_reducible exact ih4 _ _ _ _ _ _ _)
      | (with_reducible exact ih5 _ _ _ _ _ _)
      | (with_reducible exact ih6 _ _ _ _ _ _)
      | (with_reducible exact LeO.refl _)
      | (with_reducible exact LeO.none _)
      | (with_reducible refine LeO.ite ?_ ?_)
      | (with_reducible refine LeO.bind ?_ (fun _ => ?_))
      | exact ih0 _ _ _ _
      | exact ih1 _ _ _ _ _
      | exact ih2 _ _ _ _ _ _ _
      | exact ih3 _ _ _ _ _ _
      | exact ih4 _ _ _ _ _ _ _
      | exact ih5 _ _ _ _ _ _
      | exact ih6 _ _ _ _ _ _
      | exact LeO.none _
      | refine LeO.ite ?_ ?_
      | refine LeO.bind ?_ (fun _ => ?_)
theorem staddaref06_after.mono : ∀ a0 a1 k, LeO (staddaref06_after.f k a0 a1) (staddaref06_after.f (k + 1) a0 a1) := by
  intro a0 a1 k
  obtain ⟨ih0, ih1, ih2, ih3, ih4, ih5, ih6⟩ := staddaref06_after.mono_l k
  unfold staddaref06_after.f
  repeat' first
      | (with_reducible exact ih0 _ _ _ _)
      | (with_reducible exact ih1 _ _ _ _ _)
      | (with_reducible exact ih2 _ _ _ _ _ _ _)
      | (with_reducible exact ih3 _ _ _ _ _ _)
      | (with_reducible exact ih4 _ _ _ _ _ _ _)
      | (with_reducible exact ih5 _ _ _ _ _ _)
      | (with_reducible exact ih6 _ _ _ _ _ _)
      | (with_reducible exact LeO.refl _)
      | (with_reducible exact LeO.none _)
      | (with_reducible refine LeO.ite ?_ ?_)
      | (with_reducible refine LeO.bind ?_ (fun _ => ?_))
      | exact ih0 _ _ _ _
      | exact ih1 _ _ _ _ _
      | exact ih2 _ _ _ _ _ _ _
      | exact ih3 _ _ _ _ _ _
      | exact ih4 _ _ _ _ _ _ _
      | exact ih5 _ _ _ _ _ _
      | exact ih6 _ _ _ _ _ _
      | exact LeO.none _
      | refine LeO.ite ?_ ?_
      | refine LeO.bind ?_ (fun _ => ?_)
set_option maxHeartbeats 8000000 in
set_option maxRecDepth 100000 in
theorem staddaref06_after.calls (k : Nat) (a0 : ByteArray) (a1 : Int) (r : List (List Int)) (w : World) (h : staddaref06_after.f k a0 a1 = some r) :
    Calls Tryz.prog 33 #[.string a0, .int .i64 a1] w fun e w' => ∃ v0_ : Value, e = .returned (v0_) ∧ Kd.S (Kd.slice 3 (Kd.int .i64)) 22 w' w.heap.size (fun _ => True) v0_ r ∧ Below w.heap.size w w' := by
  have HB := Aside0.mk (Below.refl w.heap.size w)
  have H : (staddaref06_after.l0 k a0 a1 ([] : List (List Int)) 1) = some r := h
  clear h
  have H' := Aside0.mk H
  clear H
  go_enter Tryz.func33, Tryz.ntmps33
  go_wp2
  go_loopg [5, 6] k (fun kq v5 v6 w' => ∃ (x5_1 : List (List Int)) (x6_1 : Int), v6 = .int .i64 x6_1 ∧ Aside0 (staddaref06_after.l0 kq a0 a1 x5_1 x6_1 = some r) ∧ Aside0 (kq ≤ k) ∧ Aside0 (Kd.S (Kd.slice 3 (Kd.int .i64)) 22 w' w.heap.size (fun _ => True) v5 x5_1) ∧ Aside0 (Below w.heap.size w w'))
  case atStart => exact ⟨(([] : List (List Int))), (1), (by first | rfl | (simp; done) | (simp [*]; done)), H', ⟨Nat.le_refl _⟩, ⟨by first | exact Kd.S_nil _ _ _ _ _ | exact Kd.N_nil _ _ _ _ _ | exact Kd.V_nil _ _ _ _ _ | exact Kd.Q_nil _ _ _ _ _ | exact Kd.R_nil _ _ _ _ _⟩, ⟨by repeat (first | (with_reducible first | exact HB.out | apply below_alloc | apply pw_below_drewN | apply below_drew1) | exact HB.out)⟩⟩
  case round =>
    clear H'
    try clear p2
    obtain ⟨x5_1, x6_1, rfl, HA, HK1, HO_5, HB⟩ := hrel
    cases gk with
    | zero => exact absurd HA.out (by simp [staddaref06_after.l0])
    | succ k1 =>
      have H := HA.out
      clear HA
      simp only [staddaref06_after.l0] at H
      have HC3 := Aside0.mk H
      clear H
      go_upto_region 3 with (fail)
      go_cut [19] (fun v19 wc => ∃ (kq : Nat) (x19_2 : Bool), v19 = .bool x19_2 ∧ Aside0 (staddaref06_after.j1 kq a0 a1 x5_1 x6_1 x19_2 = some r) ∧ Aside0 (kq ≤ k1) ∧ Aside0 (Kd.S (Kd.slice 3 (Kd.int .i64)) 22 wc w.heap.size (fun _ => True) u5 x5_1) ∧ Aside0 (Below w.heap.size w wc))
      case first =>
        have H := HC3.out
        clear HC3
        by_cases c4 : x6_1 ≤ (wrap64 ((a0.size : Int) - 2))
        · rw [if_pos c4] at H
          have c4b0 : decide (x6_1 ≤ (wrap64 ((a0.size : Int) - 2))) = true := decide_eq_true c4
          clear c4
          (first | rw [c4b0] | (simp only [i64_w, i32_w]; rw [c4b0]) | skip)
          have H' := Aside0.mk H
          clear H
          go_wp2
          go_meet
          case rel => exact ⟨_, (decide (x6_1 ≤ a1)), (by first | rfl | (simp; done) | (simp [*]; done)), H', ⟨by have := HK1.out; first | omega | exact Nat.le_refl _⟩, ⟨by (with_reducible repeat (first | apply Kd.S_alloc | apply Kd.S_drewN | apply Kd.S_drew)); exact HO_5.out⟩, ⟨by repeat (first | (with_reducible first | exact HB.out | apply below_alloc | apply pw_below_drewN | apply below_drew1) | exact HB.out)⟩⟩
        · rw [if_neg c4] at H
          have c4b0 : decide (x6_1 ≤ (wrap64 ((a0.size : Int) - 2))) = false := decide_eq_false c4
          clear c4
          (first | rw [c4b0] | (simp only [i64_w, i32_w]; rw [c4b0]) | skip)
          have H' := Aside0.mk H
          clear H
          go_wp2
          go_meet
          case rel => exact ⟨_, (false), (by first | rfl | (simp; done) | (simp [*]; done)), H', ⟨by have := HK1.out; first | omega | exact Nat.le_refl _⟩, ⟨by (with_reducible repeat (first | apply Kd.S_alloc | apply Kd.S_drewN | apply Kd.S_drew)); exact HO_5.out⟩, ⟨by repeat (first | (with_reducible first | exact HB.out | apply below_alloc | apply pw_below_drewN | apply below_drew1) | exact HB.out)⟩⟩
      case rest =>
        clear HC3
        try clear p2
        try clear c3
        try clear c4
        try clear c4b0
        try clear p2
        obtain ⟨kq, x19_2, rfl, HA, HJ2, HO_5, HB⟩ := hcut
        cases kq with
        | zero => exact absurd HA.out (by simp [staddaref06_after.j1])
        | succ kj2 =>
          have H := HA.out
          clear HA
          simp only [staddaref06_after.j1] at H
          by_cases c5 : x19_2 = true
          · subst c5
            have H1 : (if 0 ≤ (wrap64 (x6_1 + 1)) then (if (wrap64 (x6_1 + 1)) < (a0.size : Int) then (if ((((bt a0 (wrap64 (x6_1 + 1))) - 48) % 256) % 2) = 1 then (staddaref06_after.j2 kj2 a0 a1 x5_1 x6_1 (((bt a0 (wrap64 (x6_1 + 1))) - 48) % 256) (wrap64 (a1 - x6_1)) ((wrap64 (a1 - x6_1)) == 0)) else (staddaref06_after.j2 kj2 a0 a1 x5_1 x6_1 (((bt a0 (wrap64 (x6_1 + 1))) - 48) % 256) (wrap64 (a1 - x6_1)) false)) else (none)) else (none)) = some r := by rw [if_pos rfl] at H; exact H
            clear H
            have H := H1
            clear H1
            obtain ⟨ji6, hji6⟩ : ∃ j_ : Int, (wrap64 (x6_1 + 1)) = j_ := ⟨_, rfl⟩
            replace H : (if 0 ≤ (ji6) then (if (ji6) < (a0.size : Int) then (if ((((bt a0 (ji6)) - 48) % 256) % 2) = 1 then (staddaref06_after.j2 kj2 a0 a1 x5_1 x6_1 (((bt a0 (ji6)) - 48) % 256) (wrap64 (a1 - x6_1)) ((wrap64 (a1 - x6_1)) == 0)) else (staddaref06_after.j2 kj2 a0 a1 x5_1 x6_1 (((bt a0 (ji6)) - 48) % 256) (wrap64 (a1 - x6_1)) false)) else (none)) else (none)) = some r := by first | (rw [hji6] at H; exact H) | (simp only [hji6] at H ⊢; exact H)
            have hji6w : (IntKind.i64.wrap (x6_1 + 1)) = ji6 := (i64_w _).trans hji6
            by_cases c7 : 0 ≤ (ji6)
            · rw [if_pos c7] at H
              have c7b0 : decide (0 ≤ (ji6)) = true := decide_eq_true c7
              clear c7
              by_cases c8 : (ji6) < (a0.size : Int)
              · rw [if_pos c8] at H
                have c8b0 : decide ((ji6) < (a0.size : Int)) = true := decide_eq_true c8
                clear c8
                have HC10 := Aside0.mk H
                clear H
                have p9 : 0 ≤ ((ji6) : Int) := of_decide_eq_true (by first | (with_reducible assumption) | assumption)
                have q9 : (ji6) < (a0.size : Int) := of_decide_eq_true (by first | (with_reducible assumption) | assumption)
                have hx9 := bt_at a0 (ji6)
                replace p9 := eq_true p9
                replace q9 := eq_true q9
                go_upto_region 7 with (fail)
                go_cut [37] (fun v37 wc => ∃ (kq : Nat) (x37_9 : Bool), v37 = .bool x37_9 ∧ Aside0 (staddaref06_after.j2 kq a0 a1 x5_1 x6_1 (((bt a0 (ji6)) - 48) % 256) (wrap64 (a1 - x6_1)) x37_9 = some r) ∧ Aside0 (kq ≤ kj2) ∧ Aside0 (Kd.S (Kd.slice 3 (Kd.int .i64)) 22 wc w.heap.size (fun _ => True) u5 x5_1) ∧ Aside0 (Below w.heap.size w wc))
                case first =>
                  have H := HC10.out
                  clear HC10
                  by_cases c11 : ((((bt a0 (ji6)) - 48) % 256) % 2) = 1
                  · rw [if_pos c11] at H
                    have c11b0 : (((((bt a0 (ji6)) - 48) % 256) % 2) == 1) = true := beq_iff_eq.mpr c11
                    have c11b0x := c11b0
                    (try simp only [dgt1, dgt2, dgt4] at c11b0x)
                    have c11b1 : (((((bt a0 (ji6)) - 48) % 256) % 2) != 1) = false := bne_eq_false_iff_eq.mpr c11
                    clear c11
                    (first | rw [c11b0] | (simp only [i64_w, i32_w]; rw [c11b0]) | skip)
                    have H' := Aside0.mk H
                    clear H
                    go_wp2
                    go_meet
                    case rel => exact ⟨_, (((wrap64 (a1 - x6_1)) == 0)), (by first | rfl | (simp; done) | (simp [*]; done)), H', ⟨by have := HK1.out; have := HJ2.out; first | omega | exact Nat.le_refl _⟩, ⟨by (with_reducible repeat (first | apply Kd.S_alloc | apply Kd.S_drewN | apply Kd.S_drew)); exact HO_5.out⟩, ⟨by repeat (first | (with_reducible first | exact HB.out | apply below_alloc | apply pw_below_drewN | apply below_drew1) | exact HB.out)⟩⟩
                  · rw [if_neg c11] at H
                    have c11b0 : (((((bt a0 (ji6)) - 48) % 256) % 2) == 1) = false := beq_eq_false_iff_ne.mpr c11
                    have c11b0x := c11b0
                    (try simp only [dgt1, dgt2, dgt4] at c11b0x)
                    have c11b1 : (((((bt a0 (ji6)) - 48) % 256) % 2) != 1) = true := bne_iff_ne.mpr c11
                    (first | rw [c11b0] | (simp only [i64_w, i32_w]; rw [c11b0]) | skip)
                    have H' := Aside0.mk H
                    clear H
                    go_wp2
                    go_meet
                    case rel => exact ⟨_, (false), (by first | rfl | (simp; done) | (simp [*]; done)), H', ⟨by have := HK1.out; have := HJ2.out; first | omega | exact Nat.le_refl _⟩, ⟨by (with_reducible repeat (first | apply Kd.S_alloc | apply Kd.S_drewN | apply Kd.S_drew)); exact HO_5.out⟩, ⟨by repeat (first | (with_reducible first | exact HB.out | apply below_alloc | apply pw_below_drewN | apply below_drew1) | exact HB.out)⟩⟩
                case rest =>
                  clear HC10
                  try clear c1
                  try clear p2
                  try clear c3
                  try clear c4
                  try clear c4b0
                  try clear c5
                  try clear p6
                  try clear c7
                  try clear c7b0
                  try clear c8
                  try clear c8b0
                  try clear p9
                  try clear q9
                  try clear hx9
                  try clear c11
                  try clear c11b0
                  try clear c11b1
                  try clear p2
                  try clear p9
                  try clear q9
                  obtain ⟨kq, x37_9, rfl, HA, HJ9, HO_5, HB⟩ := hcut
                  cases kq with
                  | zero => exact absurd HA.out (by simp [staddaref06_after.j2])
                  | succ kj9 =>
                    have H := HA.out
                    clear HA
                    simp only [staddaref06_after.j2] at H
                    have HC12 := Aside0.mk H
                    clear H
                    go_upto_if 37 with (fail)
                    go_cut [5] (fun v5 wc => ∃ (kq : Nat) (x5_11 : List (List Int)), Aside0 (staddaref06_after.j3 kq a0 a1 x5_11 x6_1 (((bt a0 (ji6)) - 48) % 256) (wrap64 (a1 - x6_1)) = some r) ∧ Aside0 (kq ≤ kj9) ∧ Aside0 (Kd.S (Kd.slice 3 (Kd.int .i64)) 22 wc w.heap.size (fun _ => True) v5 x5_11) ∧ Aside0 (Below w.heap.size w wc))
                    case first =>
                      have H := HC12.out
                      clear HC12
                      by_cases c13 : x37_9 = true
                      · subst c13
                        have H1 : (if x5_1.length < 5864062014805 then (staddaref06_after.j3 kj9 a0 a1 (x5_1 ++ [[]]) x6_1 (((bt a0 (ji6)) - 48) % 256) (wrap64 (a1 - x6_1))) else (none)) = some r := by rw [if_pos rfl] at H; exact H
                        clear H
                        have H := H1
                        clear H1
                        by_cases c14 : x5_1.length < 5864062014805
                        · rw [if_pos c14] at H
                          have LMc14 := Aside0.mk c14
                          clear c14
                          obtain ⟨y201, hy201⟩ : ∃ y_ : List (List Int), y_ = (x5_1 ++ [[]]) := ⟨_, rfl⟩
                          replace H : (staddaref06_after.j3 kj9 a0 a1 y201 x6_1 (((bt a0 (ji6)) - 48) % 256) (wrap64 (a1 - x6_1))) = some r := by first | (rw [hy201]; with_reducible exact H) | (have H2_ := (Option.bind_some _ _).symm.trans H; rw [hy201]; with_reducible exact H2_) | (have H2_ := (Option.bind_some _ _).symm.trans H; with_reducible exact H2_) | with_reducible exact H | (rw [hy201]; exact H) | exact H
                          have Ny201 := Aside0.mk hy201
                          clear hy201
                          have H' := Aside0.mk H
                          clear H
                          go_wp2_with (first | ((with_reducible refine gate_builtin (b := .append) (xs := #[.tmp 38, .tmp 39]) rfl ?_); at_builtin; refine Kd.S_append (Kd.slice 3 (Kd.int .i64)) (w0 := w) w.heap.size rfl (.tmp 38) (.tmp 39) 24 22 (.slice none 0 0) 24 rfl Tryz.underlying24 info22 rfl (by decide) (by omega) u5 x5_1 [] [.slice none 0 0] (fun _ => True) (fun _ => False) rfl rfl ?aP (fun _ hk => hk.elim) ?aF ?aO ?aB ?aS ?aL ?_; (case aP => exact ⟨.slice none 0 0, rfl, Kd.R_nil _ _ _ _ _⟩); (case aB => exact (by repeat (first | (with_reducible first | exact HB.out | apply below_alloc | apply pw_below_drewN | apply below_drew1) | exact HB.out))); (case aF => exact (fun _ _ => trivial)); (case aO => exact (by (with_reducible repeat (first | apply Kd.S_alloc | apply Kd.S_drewN | apply Kd.S_drew)); exact Kd.S_mono HO_5.out (fun k_ hk => ⟨trivial, fun e_ => e_⟩))); (case aS => exact (below_size (by repeat (first | (with_reducible first | exact HB.out | apply below_alloc | apply pw_below_drewN | apply below_drew1) | exact HB.out)))); (case aL => have := LMc14.out; omega); intro v202 w15 ho hb hg hat; rw [← Ny201.out] at ho; have n0_ := Aside0.mk (hb); have n1_ := Aside0.mk (ho); clear HB; clear HO_5; have HB := n0_; have HO203 := n1_; clear n0_ n1_; clear ho hb hg hat))
                          go_meet
                          case rel => exact ⟨_, (y201), H', ⟨by have := HK1.out; have := HJ2.out; have := HJ9.out; first | omega | exact Nat.le_refl _⟩, ⟨by (with_reducible repeat (first | apply Kd.S_alloc | apply Kd.S_drewN | apply Kd.S_drew)); exact HO203.out⟩, ⟨by repeat (first | (with_reducible first | exact HB.out | apply below_alloc | apply pw_below_drewN | apply below_drew1) | exact HB.out)⟩⟩
                        · rw [if_neg c14] at H
                          exact absurd H (by simp)
                      · replace c13 := Bool.eq_false_iff.mpr c13
                        subst c13
                        have H1 : (staddaref06_after.j3 kj9 a0 a1 x5_1 x6_1 (((bt a0 (ji6)) - 48) % 256) (wrap64 (a1 - x6_1))) = some r := by rw [if_neg (show ¬ (false = true) by decide)] at H; exact H
                        clear H
                        have H := H1
                        clear H1
                        have H' := Aside0.mk H
                        clear H
                        go_wp2
                        go_meet
                        case rel => exact ⟨_, (x5_1), H', ⟨by have := HK1.out; have := HJ2.out; have := HJ9.out; first | omega | exact Nat.le_refl _⟩, ⟨by (with_reducible repeat (first | apply Kd.S_alloc | apply Kd.S_drewN | apply Kd.S_drew)); exact HO_5.out⟩, ⟨by repeat (first | (with_reducible first | exact HB.out | apply below_alloc | apply pw_below_drewN | apply below_drew1) | exact HB.out)⟩⟩
                    case rest =>
                      clear HC12
                      try clear c1
                      try clear p2
                      try clear c3
                      try clear c4
                      try clear c4b0
                      try clear c5
                      try clear p6
                      try clear c7
                      try clear c7b0
                      try clear c8
                      try clear c8b0
                      try clear p9
                      try clear q9
                      try clear hx9
                      try clear c11
                      try clear c11b0
                      try clear c11b1
                      try clear c13
                      try clear c14
                      try clear p2
                      try clear p6
                      try clear p9
                      try clear q9
                      obtain ⟨kq, x5_11, HA, HJ11, HO_5, HB⟩ := hcut
                      cases kq with
                      | zero => exact absurd HA.out (by simp [staddaref06_after.j3])
                      | succ kj11 =>
                        have H := HA.out
                        clear HA
                        simp only [staddaref06_after.j3] at H
                        have HC16 := Aside0.mk H
                        clear H
                        go_upto_region 9 with (fail)
                        go_cut [48] (fun v48 wc => ∃ (kq : Nat) (x48_15 : Bool), v48 = .bool x48_15 ∧ Aside0 (staddaref06_after.j4 kq a0 a1 x5_11 x6_1 (((bt a0 (ji6)) - 48) % 256) (wrap64 (a1 - x6_1)) x48_15 = some r) ∧ Aside0 (kq ≤ kj11) ∧ Aside0 (Kd.S (Kd.slice 3 (Kd.int .i64)) 22 wc w.heap.size (fun _ => True) u5 x5_11) ∧ Aside0 (Below w.heap.size w wc))
                        case first =>
                          have H := HC16.out
                          clear HC16
                          by_cases c17 : (Int.tmod (wrap64 (Int.tdiv (((bt a0 (ji6)) - 48) % 256) 2)) 2) = 1
                          · rw [if_pos c17] at H
                            have c17b0 : ((Int.tmod (wrap64 (Int.tdiv (((bt a0 (ji6)) - 48) % 256) 2)) 2) == 1) = true := beq_iff_eq.mpr c17
                            have c17b0x := c17b0
                            (try simp only [dgt1, dgt2, dgt4] at c17b0x)
                            have c17b1 : ((Int.tmod (wrap64 (Int.tdiv (((bt a0 (ji6)) - 48) % 256) 2)) 2) != 1) = false := bne_eq_false_iff_eq.mpr c17
                            clear c17
                            (first | rw [c17b0] | (simp only [i64_w, i32_w]; rw [c17b0]) | skip)
                            have H' := Aside0.mk H
                            clear H
                            go_wp2
                            go_meet
                            case rel => exact ⟨_, (decide ((wrap64 (a1 - x6_1)) > 0)), (by first | rfl | (simp; done) | (simp [*]; done)), H', ⟨by have := HK1.out; have := HJ2.out; have := HJ9.out; have := HJ11.out; first | omega | exact Nat.le_refl _⟩, ⟨by (with_reducible repeat (first | apply Kd.S_alloc | apply Kd.S_drewN | apply Kd.S_drew)); exact HO_5.out⟩, ⟨by repeat (first | (with_reducible first | exact HB.out | apply below_alloc | apply pw_below_drewN | apply below_drew1) | exact HB.out)⟩⟩
                          · rw [if_neg c17] at H
                            have c17b0 : ((Int.tmod (wrap64 (Int.tdiv (((bt a0 (ji6)) - 48) % 256) 2)) 2) == 1) = false := beq_eq_false_iff_ne.mpr c17
                            have c17b0x := c17b0
                            (try simp only [dgt1, dgt2, dgt4] at c17b0x)
                            have c17b1 : ((Int.tmod (wrap64 (Int.tdiv (((bt a0 (ji6)) - 48) % 256) 2)) 2) != 1) = true := bne_iff_ne.mpr c17
                            (first | rw [c17b0] | (simp only [i64_w, i32_w]; rw [c17b0]) | skip)
                            have H' := Aside0.mk H
                            clear H
                            go_wp2
                            go_meet
                            case rel => exact ⟨_, (false), (by first | rfl | (simp; done) | (simp [*]; done)), H', ⟨by have := HK1.out; have := HJ2.out; have := HJ9.out; have := HJ11.out; first | omega | exact Nat.le_refl _⟩, ⟨by (with_reducible repeat (first | apply Kd.S_alloc | apply Kd.S_drewN | apply Kd.S_drew)); exact HO_5.out⟩, ⟨by repeat (first | (with_reducible first | exact HB.out | apply below_alloc | apply pw_below_drewN | apply below_drew1) | exact HB.out)⟩⟩
                        case rest =>
                          clear HC16
                          try clear c1
                          try clear p2
                          try clear c3
                          try clear c4
                          try clear c4b0
                          try clear c5
                          try clear p6
                          try clear c7
                          try clear c7b0
                          try clear c8
                          try clear c8b0
                          try clear p9
                          try clear q9
                          try clear hx9
                          try clear c11
                          try clear c11b0
                          try clear c11b1
                          try clear c13
                          try clear c14
                          try clear c17
                          try clear c17b0
                          try clear c17b1
                          try clear p2
                          try clear p6
                          try clear p9
                          try clear q9
                          obtain ⟨kq, x48_15, rfl, HA, HJ15, HO_5, HB⟩ := hcut
                          cases kq with
                          | zero => exact absurd HA.out (by simp [staddaref06_after.j4])
                          | succ kj15 =>
                            have H := HA.out
                            clear HA
                            simp only [staddaref06_after.j4] at H
                            have HC18 := Aside0.mk H
                            clear H
                            go_upto_if 48 with (fail)
                            go_cut [5] (fun v5 wc => ∃ (kq : Nat) (x5_17 : List (List Int)), Aside0 (staddaref06_after.j5 kq a0 a1 x5_17 x6_1 (((bt a0 (ji6)) - 48) % 256) (wrap64 (a1 - x6_1)) = some r) ∧ Aside0 (kq ≤ kj15) ∧ Aside0 (Kd.S (Kd.slice 3 (Kd.int .i64)) 22 wc w.heap.size (fun _ => True) v5 x5_17) ∧ Aside0 (Below w.heap.size w wc))
                            case first =>
                              have H := HC18.out
                              clear HC18
                              by_cases c19 : x48_15 = true
                              · subst c19
                                have H1 : (if x5_11.length < 5864062014805 then (staddaref06_after.j5 kj15 a0 a1 (x5_11 ++ [(([(wrap64 (a1 - x6_1))] : List Int))]) x6_1 (((bt a0 (ji6)) - 48) % 256) (wrap64 (a1 - x6_1))) else (none)) = some r := by rw [if_pos rfl] at H; exact H
                                clear H
                                have H := H1
                                clear H1
                                obtain ⟨y204, hy204⟩ : ∃ y_ : List Int, y_ = (([(wrap64 (a1 - x6_1))] : List Int)) := ⟨_, rfl⟩
                                replace H : (if x5_11.length < 5864062014805 then (staddaref06_after.j5 kj15 a0 a1 (x5_11 ++ [y204]) x6_1 (((bt a0 (ji6)) - 48) % 256) (wrap64 (a1 - x6_1))) else (none)) = some r := by first | (rw [hy204]; with_reducible exact H) | (have H2_ := (Option.bind_some _ _).symm.trans H; rw [hy204]; with_reducible exact H2_) | (have H2_ := (Option.bind_some _ _).symm.trans H; with_reducible exact H2_) | with_reducible exact H | (rw [hy204]; exact H) | exact H
                                have Ny204 := Aside0.mk hy204
                                clear hy204
                                by_cases c20 : x5_11.length < 5864062014805
                                · rw [if_pos c20] at H
                                  have LMc20 := Aside0.mk c20
                                  clear c20
                                  obtain ⟨y207, hy207⟩ : ∃ y_ : List (List Int), y_ = (x5_11 ++ [y204]) := ⟨_, rfl⟩
                                  replace H : (staddaref06_after.j5 kj15 a0 a1 y207 x6_1 (((bt a0 (ji6)) - 48) % 256) (wrap64 (a1 - x6_1))) = some r := by first | (rw [hy207]; with_reducible exact H) | (have H2_ := (Option.bind_some _ _).symm.trans H; rw [hy207]; with_reducible exact H2_) | (have H2_ := (Option.bind_some _ _).symm.trans H; with_reducible exact H2_) | with_reducible exact H | (rw [hy207]; exact H) | exact H
                                  have Ny207 := Aside0.mk hy207
                                  clear hy207
                                  have H' := Aside0.mk H
                                  clear H
                                  go_wp2_with (first | ((with_reducible refine gate_dst (N := 51) rfl ?_); refine Kd.R_lit (Kd.int .i64) _ 3 ?hg (N := 51) ?hd (xs := ([(wrap64 (a1 - x6_1))] : List Int)) (inner := [.int .i64 (wrap64 (a1 - x6_1))]) (ok := fun _ => True) (okp := fun _ => True) ?hr ?hp (fun _ hk => hk) trivial (Below.refl _ _) (Nat.le_refl _) (by simp) ?_; (case hd => rfl); (case hg => rfl); (case hr => first | (go_simp; done) | (go_simp; rfl)); (case hp => exact (Reps.one (show Kd.M (Kd.int .i64) _ _ _ (wrap64 (a1 - x6_1)) [.int .i64 (wrap64 (a1 - x6_1))] from rfl) (Reps.none _ _))); intro v205 w21 ho22 hb hg_ hnew_; clear hg_ hnew_; (first | rw [← Ny204.out] at ho22 | (simp only [Int.reduceToNat] at ho22; rw [← Ny204.out] at ho22)); have n0_ := Aside0.mk (Kd.S_elder' (by (with_reducible repeat (first | apply Kd.S_alloc | apply Kd.S_drewN | apply Kd.S_drew)); exact HO_5.out) (Kd.R_base ho22) hb); have n1_ := Aside0.mk (Kd.R_lower ho22 (below_size (by repeat (first | (with_reducible first | exact HB.out | apply below_alloc | apply pw_below_drewN | apply below_drew1) | exact HB.out)))); have n2_ := Aside0.mk (below_step (by repeat (first | (with_reducible first | exact HB.out | apply below_alloc | apply pw_below_drewN | apply below_drew1) | exact HB.out)) hb); clear HO_5; clear HB; have HO_5 := n0_; have HO206 := n1_; have HB := n2_; clear n0_ n1_ n2_; clear hb ho22; obtain ⟨Ao24, co24, eo24⟩ := Kd.R_slice HO206.out; subst eo24) | ((with_reducible refine gate_builtin (b := .append) (xs := #[.tmp 49, .tmp 52]) rfl ?_); at_builtin; refine Kd.S_append (Kd.slice 3 (Kd.int .i64)) (w0 := w) w.heap.size rfl (.tmp 49) (.tmp 52) 24 22 (.slice none 0 0) 24 rfl Tryz.underlying24 info22 rfl (by decide) (by omega) u5 x5_11 y204 [.slice Ao24 y204.length co24] (fun _ => True) (fun k_ => some k_ = (.slice Ao24 y204.length co24 : Value).ownBlock) rfl rfl ?aP (fun k_ hk_ => ((Kd.R_mono (ok' := fun k_ => ((fun _ => True)) k_ ∧ some k_ ≠ (u5 : Value).ownBlock) (Kd.R_apart' (HO206.out) (Kd.S_typed HO_5.out) (by decide)) (fun k_ hk => ⟨trivial, hk.2⟩))).1 k_ hk_.symm) ?aF ?aO ?aB ?aS ?aL ?_; (case aP => exact Kd.M_row (Kd.R_mono (Kd.R_tight rfl (Kd.R_mono (ok' := fun k_ => ((fun _ => True)) k_ ∧ some k_ ≠ (u5 : Value).ownBlock) (Kd.R_apart' (HO206.out) (Kd.S_typed HO_5.out) (by decide)) (fun k_ hk => ⟨trivial, hk.2⟩))) (fun _ h_ => h_))); (case aB => exact (by repeat (first | (with_reducible first | exact HB.out | apply below_alloc | apply pw_below_drewN | apply below_drew1) | exact HB.out))); (case aF => exact (fun _ _ => trivial)); (case aO => exact (by (with_reducible repeat (first | apply Kd.S_alloc | apply Kd.S_drewN | apply Kd.S_drew)); exact Kd.S_mono HO_5.out (fun k_ hk => ⟨trivial, fun e_ => hk.2 e_⟩))); (case aS => exact (below_size (by repeat (first | (with_reducible first | exact HB.out | apply below_alloc | apply pw_below_drewN | apply below_drew1) | exact HB.out)))); (case aL => have := LMc20.out; omega); intro v208 w23 ho hb hg hat; rw [← Ny207.out] at ho; have n0_ := Aside0.mk (hb); have n1_ := Aside0.mk (ho); clear HB; clear HO_5; clear HO206; have HB := n0_; have HO209 := n1_; clear n0_ n1_; clear ho hb hg hat))
                                  go_meet
                                  case rel => exact ⟨_, (y207), H', ⟨by have := HK1.out; have := HJ2.out; have := HJ9.out; have := HJ11.out; have := HJ15.out; first | omega | exact Nat.le_refl _⟩, ⟨by (with_reducible repeat (first | apply Kd.S_alloc | apply Kd.S_drewN | apply Kd.S_drew)); exact HO209.out⟩, ⟨by repeat (first | (with_reducible first | exact HB.out | apply below_alloc | apply pw_below_drewN | apply below_drew1) | exact HB.out)⟩⟩
                                · rw [if_neg c20] at H
                                  exact absurd H (by simp)
                              · replace c19 := Bool.eq_false_iff.mpr c19
                                subst c19
                                have H1 : (staddaref06_after.j5 kj15 a0 a1 x5_11 x6_1 (((bt a0 (ji6)) - 48) % 256) (wrap64 (a1 - x6_1))) = some r := by rw [if_neg (show ¬ (false = true) by decide)] at H; exact H
                                clear H
                                have H := H1
                                clear H1
                                have H' := Aside0.mk H
                                clear H
                                go_wp2
                                go_meet
                                case rel => exact ⟨_, (x5_11), H', ⟨by have := HK1.out; have := HJ2.out; have := HJ9.out; have := HJ11.out; have := HJ15.out; first | omega | exact Nat.le_refl _⟩, ⟨by (with_reducible repeat (first | apply Kd.S_alloc | apply Kd.S_drewN | apply Kd.S_drew)); exact HO_5.out⟩, ⟨by repeat (first | (with_reducible first | exact HB.out | apply below_alloc | apply pw_below_drewN | apply below_drew1) | exact HB.out)⟩⟩
                            case rest =>
                              clear HC18
                              try clear c1
                              try clear c2
                              try clear p2
                              try clear c3
                              try clear c4
                              try clear c4b0
                              try clear c5
                              try clear p6
                              try clear c7
                              try clear c7b0
                              try clear c8
                              try clear c8b0
                              try clear p9
                              try clear q9
                              try clear hx9
                              try clear c11
                              try clear c11b0
                              try clear c11b1
                              try clear c13
                              try clear c14
                              try clear c17
                              try clear c17b0
                              try clear c17b1
                              try clear c19
                              try clear c20
                              try clear p2
                              try clear p6
                              try clear p9
                              try clear q9
                              obtain ⟨kq, x5_17, HA, HJ17, HO_5, HB⟩ := hcut
                              cases kq with
                              | zero => exact absurd HA.out (by simp [staddaref06_after.j5])
                              | succ kj17 =>
                                have H := HA.out
                                clear HA
                                simp only [staddaref06_after.j5] at H
                                by_cases c25 : (wrap64 (Int.tdiv (((bt a0 (ji6)) - 48) % 256) 4)) = 1
                                · rw [if_pos c25] at H
                                  have c25b0 : ((wrap64 (Int.tdiv (((bt a0 (ji6)) - 48) % 256) 4)) == 1) = true := beq_iff_eq.mpr c25
                                  have c25b0x := c25b0
                                  (try simp only [dgt1, dgt2, dgt4] at c25b0x)
                                  have c25b1 : ((wrap64 (Int.tdiv (((bt a0 (ji6)) - 48) % 256) 4)) != 1) = false := bne_eq_false_iff_eq.mpr c25
                                  clear c25
                                  have H' := Aside0.mk H
                                  clear H
                                  go_wp2
                                  go_loopg [5, 9] kj17 (fun kq v5 v9 w' => ∃ (x5_7 : List (List Int)) (x9_7 : Int), v9 = .int .i64 x9_7 ∧ Aside0 (staddaref06_after.l1 kq a0 a1 x5_7 x6_1 (wrap64 (a1 - x6_1)) x9_7 = some r) ∧ Aside0 (kq ≤ kj17) ∧ Aside0 (Kd.S (Kd.slice 3 (Kd.int .i64)) 22 w' w.heap.size (fun _ => True) v5 x5_7) ∧ Aside0 (Below w.heap.size w w'))
                                  case atStart => exact ⟨(x5_17), (1), (by first | rfl | (simp; done) | (simp [*]; done)), H', ⟨Nat.le_refl _⟩, ⟨by (with_reducible repeat (first | apply Kd.S_alloc | apply Kd.S_drewN | apply Kd.S_drew)); exact HO_5.out⟩, ⟨by repeat (first | (with_reducible first | exact HB.out | apply below_alloc | apply pw_below_drewN | apply below_drew1) | exact HB.out)⟩⟩
                                  case round =>
                                    clear H'
                                    try clear c1
                                    try clear c2
                                    try clear p2
                                    try clear c3
                                    try clear c4
                                    try clear c4b0
                                    try clear c5
                                    try clear p6
                                    try clear c7
                                    try clear c7b0
                                    try clear c8
                                    try clear c8b0
                                    try clear p9
                                    try clear q9
                                    try clear hx9
                                    try clear c11
                                    try clear c11b0
                                    try clear c11b1
                                    try clear c13
                                    try clear c14
                                    try clear c17
                                    try clear c17b0
                                    try clear c17b1
                                    try clear c19
                                    try clear c20
                                    try clear c25
                                    try clear c25b0
                                    try clear c25b1
                                    try clear p2
                                    try clear p6
                                    try clear p9
                                    try clear q9
                                    obtain ⟨x5_7, x9_7, rfl, HA, HK7, HO_5, HB⟩ := hrel
                                    cases gk with
                                    | zero => exact absurd HA.out (by simp [staddaref06_after.l1])
                                    | succ k7 =>
                                      have H := HA.out
                                      clear HA
                                      simp only [staddaref06_after.l1] at H
                                      by_cases c26 : (wrap64 (x9_7 + x9_7)) ≤ (wrap64 (a1 - x6_1))
                                      · rw [if_pos c26] at H
                                        have c26b0 : decide ((wrap64 (x9_7 + x9_7)) ≤ (wrap64 (a1 - x6_1))) = true := decide_eq_true c26
                                        clear c26
                                        obtain ⟨y210, hy210⟩ : ∃ y_ : List Int, y_ = (([x9_7, wrap64 ((wrap64 (a1 - x6_1)) - x9_7)] : List Int)) := ⟨_, rfl⟩
                                        replace H : (if x5_7.length < 5864062014805 then (staddaref06_after.l1 k7 a0 a1 (x5_7 ++ [y210]) x6_1 (wrap64 (a1 - x6_1)) (wrap64 (x9_7 + 1))) else (none)) = some r := by first | (rw [hy210]; with_reducible exact H) | (have H2_ := (Option.bind_some _ _).symm.trans H; rw [hy210]; with_reducible exact H2_) | (have H2_ := (Option.bind_some _ _).symm.trans H; with_reducible exact H2_) | with_reducible exact H | (rw [hy210]; exact H) | exact H
                                        have Ny210 := Aside0.mk hy210
                                        clear hy210
                                        by_cases c27 : x5_7.length < 5864062014805
                                        · rw [if_pos c27] at H
                                          have LMc27 := Aside0.mk c27
                                          clear c27
                                          obtain ⟨y213, hy213⟩ : ∃ y_ : List (List Int), y_ = (x5_7 ++ [y210]) := ⟨_, rfl⟩
                                          replace H : (staddaref06_after.l1 k7 a0 a1 y213 x6_1 (wrap64 (a1 - x6_1)) (wrap64 (x9_7 + 1))) = some r := by first | (rw [hy213]; with_reducible exact H) | (have H2_ := (Option.bind_some _ _).symm.trans H; rw [hy213]; with_reducible exact H2_) | (have H2_ := (Option.bind_some _ _).symm.trans H; with_reducible exact H2_) | with_reducible exact H | (rw [hy213]; exact H) | exact H
                                          have Ny213 := Aside0.mk hy213
                                          clear hy213
                                          have H' := Aside0.mk H
                                          clear H
                                          go_wp2_with (first | ((with_reducible refine gate_dst (N := 69) rfl ?_); refine Kd.R_lit (Kd.int .i64) _ 3 ?hg (N := 69) ?hd (xs := ([x9_7, wrap64 ((wrap64 (a1 - x6_1)) - x9_7)] : List Int)) (inner := [.int .i64 x9_7, .int .i64 (wrap64 ((wrap64 (a1 - x6_1)) - x9_7))]) (ok := fun _ => True) (okp := fun _ => True) ?hr ?hp (fun _ hk => hk) trivial (Below.refl _ _) (Nat.le_refl _) (by simp) ?_; (case hd => rfl); (case hg => rfl); (case hr => first | (go_simp; done) | (go_simp; rfl)); (case hp => exact (Reps.one (show Kd.M (Kd.int .i64) _ _ _ x9_7 [.int .i64 x9_7] from rfl) (Reps.one (show Kd.M (Kd.int .i64) _ _ _ (wrap64 ((wrap64 (a1 - x6_1)) - x9_7)) [.int .i64 (wrap64 ((wrap64 (a1 - x6_1)) - x9_7))] from rfl) (Reps.none _ _)))); intro v211 w28 ho29 hb hg_ hnew_; clear hg_ hnew_; (first | rw [← Ny210.out] at ho29 | (simp only [Int.reduceToNat] at ho29; rw [← Ny210.out] at ho29)); have n0_ := Aside0.mk (Kd.S_elder' (by (with_reducible repeat (first | apply Kd.S_alloc | apply Kd.S_drewN | apply Kd.S_drew)); exact HO_5.out) (Kd.R_base ho29) hb); have n1_ := Aside0.mk (Kd.R_lower ho29 (below_size (by repeat (first | (with_reducible first | exact HB.out | apply below_alloc | apply pw_below_drewN | apply below_drew1) | exact HB.out)))); have n2_ := Aside0.mk (below_step (by repeat (first | (with_reducible first | exact HB.out | apply below_alloc | apply pw_below_drewN | apply below_drew1) | exact HB.out)) hb); clear HO_5; clear HB; have HO_5 := n0_; have HO212 := n1_; have HB := n2_; clear n0_ n1_ n2_; clear hb ho29; obtain ⟨Ao31, co31, eo31⟩ := Kd.R_slice HO212.out; subst eo31) | ((with_reducible refine gate_builtin (b := .append) (xs := #[.tmp 64, .tmp 70]) rfl ?_); at_builtin; refine Kd.S_append (Kd.slice 3 (Kd.int .i64)) (w0 := w) w.heap.size rfl (.tmp 64) (.tmp 70) 24 22 (.slice none 0 0) 24 rfl Tryz.underlying24 info22 rfl (by decide) (by omega) u5 x5_7 y210 [.slice Ao31 y210.length co31] (fun _ => True) (fun k_ => some k_ = (.slice Ao31 y210.length co31 : Value).ownBlock) rfl rfl ?aP (fun k_ hk_ => ((Kd.R_mono (ok' := fun k_ => ((fun _ => True)) k_ ∧ some k_ ≠ (u5 : Value).ownBlock) (Kd.R_apart' (HO212.out) (Kd.S_typed HO_5.out) (by decide)) (fun k_ hk => ⟨trivial, hk.2⟩))).1 k_ hk_.symm) ?aF ?aO ?aB ?aS ?aL ?_; (case aP => exact Kd.M_row (Kd.R_mono (Kd.R_tight rfl (Kd.R_mono (ok' := fun k_ => ((fun _ => True)) k_ ∧ some k_ ≠ (u5 : Value).ownBlock) (Kd.R_apart' (HO212.out) (Kd.S_typed HO_5.out) (by decide)) (fun k_ hk => ⟨trivial, hk.2⟩))) (fun _ h_ => h_))); (case aB => exact (by repeat (first | (with_reducible first | exact HB.out | apply below_alloc | apply pw_below_drewN | apply below_drew1) | exact HB.out))); (case aF => exact (fun _ _ => trivial)); (case aO => exact (by (with_reducible repeat (first | apply Kd.S_alloc | apply Kd.S_drewN | apply Kd.S_drew)); exact Kd.S_mono HO_5.out (fun k_ hk => ⟨trivial, fun e_ => hk.2 e_⟩))); (case aS => exact (below_size (by repeat (first | (with_reducible first | exact HB.out | apply below_alloc | apply pw_below_drewN | apply below_drew1) | exact HB.out)))); (case aL => have := LMc27.out; omega); intro v214 w30 ho hb hg hat; rw [← Ny213.out] at ho; have n0_ := Aside0.mk (hb); have n1_ := Aside0.mk (ho); clear HB; clear HO_5; clear HO212; have HB := n0_; have HO215 := n1_; clear n0_ n1_; clear ho hb hg hat))
                                          go_roundg k7
                                          case measure => have := HK1.out; have := HJ2.out; have := HJ9.out; have := HJ11.out; have := HJ15.out; have := HJ17.out; have := HK7.out; omega
                                          case rel => exact ⟨(y213), (wrap64 (x9_7 + 1)), (by first | rfl | (simp; done) | (simp [*]; done)), H', ⟨by have := HK1.out; have := HJ2.out; have := HJ9.out; have := HJ11.out; have := HJ15.out; have := HJ17.out; have := HK7.out; omega⟩, ⟨by (with_reducible repeat (first | apply Kd.S_alloc | apply Kd.S_drewN | apply Kd.S_drew)); exact HO215.out⟩, ⟨by repeat (first | (with_reducible first | exact HB.out | apply below_alloc | apply pw_below_drewN | apply below_drew1) | exact HB.out)⟩⟩
                                        · rw [if_neg c27] at H
                                          exact absurd H (by simp)
                                      · rw [if_neg c26] at H
                                        have c26b0 : decide ((wrap64 (x9_7 + x9_7)) ≤ (wrap64 (a1 - x6_1))) = false := decide_eq_false c26
                                        clear c26
                                        have H' := Aside0.mk H
                                        clear H
                                        go_wp2
                                        go_roundg k7
                                        case measure => have := HK1.out; have := HJ2.out; have := HJ9.out; have := HJ11.out; have := HJ15.out; have := HJ17.out; have := HK7.out; omega
                                        case rel => exact ⟨(x5_7), (wrap64 (x6_1 + 1)), (by first | rfl | (simp; done) | (simp [*]; done)), H', ⟨by have := HK1.out; have := HJ2.out; have := HJ9.out; have := HJ11.out; have := HJ15.out; have := HJ17.out; have := HK7.out; omega⟩, ⟨by (with_reducible repeat (first | apply Kd.S_alloc | apply Kd.S_drewN | apply Kd.S_drew)); exact HO_5.out⟩, ⟨by repeat (first | (with_reducible first | exact HB.out | apply below_alloc | apply pw_below_drewN | apply below_drew1) | exact HB.out)⟩⟩
                                · rw [if_neg c25] at H
                                  have c25b0 : ((wrap64 (Int.tdiv (((bt a0 (ji6)) - 48) % 256) 4)) == 1) = false := beq_eq_false_iff_ne.mpr c25
                                  have c25b0x := c25b0
                                  (try simp only [dgt1, dgt2, dgt4] at c25b0x)
                                  have c25b1 : ((wrap64 (Int.tdiv (((bt a0 (ji6)) - 48) % 256) 4)) != 1) = true := bne_iff_ne.mpr c25
                                  have H' := Aside0.mk H
                                  clear H
                                  go_wp2
                                  go_roundg kj17
                                  case measure => have := HK1.out; have := HJ2.out; have := HJ9.out; have := HJ11.out; have := HJ15.out; have := HJ17.out; omega
                                  case rel => exact ⟨(x5_17), (wrap64 (x6_1 + 1)), (by first | rfl | (simp; done) | (simp [*]; done)), H', ⟨by have := HK1.out; have := HJ2.out; have := HJ9.out; have := HJ11.out; have := HJ15.out; have := HJ17.out; omega⟩, ⟨by (with_reducible repeat (first | apply Kd.S_alloc | apply Kd.S_drewN | apply Kd.S_drew)); exact HO_5.out⟩, ⟨by repeat (first | (with_reducible first | exact HB.out | apply below_alloc | apply pw_below_drewN | apply below_drew1) | exact HB.out)⟩⟩
              · rw [if_neg c8] at H
                exact absurd H (by simp)
            · rw [if_neg c7] at H
              exact absurd H (by simp)
          · replace c5 := Bool.eq_false_iff.mpr c5
            subst c5
            have H1 : (some x5_1) = some r := by rw [if_neg (show ¬ (false = true) by decide)] at H; exact H
            clear H
            have H := H1
            clear H1
            obtain rfl := Option.some.inj H
            go_wp2
            go_ret
            exact ⟨_, by first | rfl | (simp [errW_none, errW_some] <;> rfl) | (simp [*, errW_none, errW_some] <;> rfl), by (with_reducible repeat (first | apply Kd.S_alloc | apply Kd.S_drewN | apply Kd.S_drew)); exact HO_5.out, by repeat (first | (with_reducible first | exact HB.out | apply below_alloc | apply pw_below_drewN | apply below_drew1) | exact HB.out)⟩

end Go.Proofs.YtpnhpbklbgbjbaaGreatDoor.PHeapValues
