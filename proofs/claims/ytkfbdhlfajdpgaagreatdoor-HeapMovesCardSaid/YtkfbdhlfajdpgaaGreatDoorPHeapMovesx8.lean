-- printed by wip/pp.py (my patched run of the kit's printer); merged
import Derived.Test.YtkfbdhlfajdpgaaGreatDoorPHeapMovesx0
import Derived.WalkMore
namespace Go.Proofs.YtkfbdhlfajdpgaaGreatDoor.PHeapMoves
open Go.RowKit Go.Proofs.YtkfbdhlfajdpgaaGreatDoorW.PrintWords Go.Proofs.YtkfbdhlfajdpgaaGreatDoorW.PrintLast Go.Proofs.YtkfbdhlfajdpgaaGreatDoorW.PrintMore
attribute [local go_sem] max2_int min2_int max_two min_two max_three min_three max_four min_four   -- for this text's walks alone
set_option linter.unusedVariables false
set_option linter.unusedSimpArgs false

/-! ### staddalaw06_same: function 7 -/
def staddalaw06_same.l0 : Nat → List Int → List Int → Int → Option (Bool)
  | 0, _, _, _ => none
  | k + 1, x0, x1, x5 => if x5 < (x0.length : Int) then (if 0 ≤ x5 then (if x5 < (x1.length : Int) then (if (rd x0 x5) = (rd x1 x5) then (staddalaw06_same.l0 k x0 x1 (wrap64 (x5 + 1))) else (some false)) else (none)) else (none)) else (some true)
def staddalaw06_same.f (k : Nat) (l0 : List Int) (l1 : List Int) : Option (Bool) := if (l0.length : Int) = (l1.length : Int) then (staddalaw06_same.l0 k l0 l1 0) else (some false)
theorem staddalaw06_same.mono_l : ∀ k, (∀ y0 y1 y2, LeO (staddalaw06_same.l0 k y0 y1 y2) (staddalaw06_same.l0 (k + 1) y0 y1 y2))
  | 0 => fun _ _ _ r h => by simp [staddalaw06_same.l0] at h
  | k + 1 => by
    have ih0 := staddalaw06_same.mono_l k
    · intro y0 y1 y2
      unfold staddalaw06_same.l0
      repeat' first
      | (with_reducible exact ih0 _ _ _)
      | (with_reducible exact LeO.refl _)
      | (with_reducible exact LeO.none _)
      | (with_reducible refine LeO.ite ?_ ?_)
      | (with_reducible refine LeO.bind ?_ (fun _ => ?_))
      | exact ih0 _ _ _
      | exact LeO.none _
      | refine LeO.ite ?_ ?_
      | refine LeO.bind ?_ (fun _ => ?_)
theorem staddalaw06_same.mono : ∀ a0 a1 k, LeO (staddalaw06_same.f k a0 a1) (staddalaw06_same.f (k + 1) a0 a1) := by
  intro a0 a1 k
  have ih0 := staddalaw06_same.mono_l k
  unfold staddalaw06_same.f
  repeat' first
      | (with_reducible exact ih0 _ _ _)
      | (with_reducible exact LeO.refl _)
      | (with_reducible exact LeO.none _)
      | (with_reducible refine LeO.ite ?_ ?_)
      | (with_reducible refine LeO.bind ?_ (fun _ => ?_))
      | exact ih0 _ _ _
      | exact LeO.none _
      | refine LeO.ite ?_ ?_
      | refine LeO.bind ?_ (fun _ => ?_)
set_option maxHeartbeats 8000000 in
set_option maxRecDepth 100000 in
theorem staddalaw06_same.calls (k : Nat) (A0 : Option Addr) (c0 : Nat) (l0 : List Int) (A1 : Option Addr) (c1 : Nat) (l1 : List Int) (r : Bool) (w : World) (hr0 : Kd.C (Kd.int .i64) w A0 l0.length l0) (hc0 : l0.length ≤ c0) (hr1 : Kd.C (Kd.int .i64) w A1 l1.length l1) (hc1 : l1.length ≤ c1) (h : staddalaw06_same.f k l0 l1 = some r) :
    Calls Tryz.prog 7 #[.slice A0 l0.length c0, .slice A1 l1.length c1] w fun e w' => e = .returned (.bool r) ∧ Drawn0 w w' := by
  have HR0 := Aside0.mk hr0
  have HC0 := Aside0.mk hc0
  clear hr0 hc0
  have HR1 := Aside0.mk hr1
  have HC1 := Aside0.mk hc1
  clear hr1 hc1
  have H : (if (l0.length : Int) = (l1.length : Int) then (staddalaw06_same.l0 k l0 l1 0) else (some false)) = some r := h
  clear h
  by_cases c3 : (l0.length : Int) = (l1.length : Int)
  · rw [if_pos c3] at H
    have c3b0 : ((l0.length : Int) == (l1.length : Int)) = true := beq_iff_eq.mpr c3
    have c3b1 : ((l0.length : Int) != (l1.length : Int)) = false := bne_eq_false_iff_eq.mpr c3
    have c3b2 : (l0.length == l1.length) = true := by first | simpa using c3 | (simp at c3 ⊢; omega)
    clear c3
    have H' := Aside0.mk H
    clear H
    go_enter Tryz.func7, Tryz.ntmps7
    go_wp2
    repeat (go_quiet (fail); try go_wp2)
    go_loopg [5] k (fun kq v5 w' => ∃ (x5_1 : Int), v5 = .int .i64 x5_1 ∧ Aside0 (staddalaw06_same.l0 kq l0 l1 x5_1 = some r) ∧ Aside0 (kq ≤ k) ∧ Drawn0 w w')
    case atStart => exact ⟨(0), (by first | rfl | (simp; done) | (simp [*]; done)), H', ⟨Nat.le_refl _⟩, by repeat (first | exact Drawn0.refl _ | apply Drawn0.step)⟩
    case round =>
      clear H'
      try clear c1
      try clear p2
      try clear c3
      try clear c3b0
      try clear c3b1
      try clear c3b2
      obtain ⟨x5_1, rfl, HA, HK1, ⟨m1, rfl⟩⟩ := hrel
      cases gk with
      | zero => exact absurd HA.out (by simp [staddalaw06_same.l0])
      | succ k1 =>
        have H := HA.out
        clear HA
        simp only [staddalaw06_same.l0] at H
        by_cases c4 : x5_1 < (l0.length : Int)
        · rw [if_pos c4] at H
          have c4b0 : decide (x5_1 < (l0.length : Int)) = true := decide_eq_true c4
          clear c4
          by_cases c5 : 0 ≤ x5_1
          · rw [if_pos c5] at H
            have c5b0 : decide (0 ≤ x5_1) = true := decide_eq_true c5
            clear c5
            by_cases c6 : x5_1 < (l1.length : Int)
            · rw [if_pos c6] at H
              have c6b0 : decide (x5_1 < (l1.length : Int)) = true := decide_eq_true c6
              clear c6
              by_cases c7 : (rd l0 x5_1) = (rd l1 x5_1)
              · rw [if_pos c7] at H
                have c7b0 : ((rd l0 x5_1) == (rd l1 x5_1)) = true := beq_iff_eq.mpr c7
                have c7b1 : ((rd l0 x5_1) != (rd l1 x5_1)) = false := bne_eq_false_iff_eq.mpr c7
                clear c7
                have H' := Aside0.mk H
                clear H
                have p244 : 0 ≤ (x5_1 : Int) := of_decide_eq_true (by first | (with_reducible assumption) | assumption)
                have q244 : x5_1 < (l0.length : Int) := of_decide_eq_true (by first | (with_reducible assumption) | assumption)
                obtain ⟨ad244, e244, hx244_0⟩ := Kd.at_int HR0.out x5_1 p244 q244
                cases e244
                replace p244 := eq_true p244
                replace q244 := eq_true q244
                have p245 : 0 ≤ (x5_1 : Int) := of_decide_eq_true (by first | (with_reducible assumption) | assumption)
                have q245 : x5_1 < (l1.length : Int) := of_decide_eq_true (by first | (with_reducible assumption) | assumption)
                obtain ⟨ad245, e245, hx245_0⟩ := Kd.at_int HR1.out x5_1 p245 q245
                cases e245
                replace p245 := eq_true p245
                replace q245 := eq_true q245
                go_wp2
                repeat (go_quiet (fail); try go_wp2)
                go_roundg k1
                case measure => have := HK1.out; omega
                case rel => exact ⟨(wrap64 (x5_1 + 1)), (by first | rfl | (simp; done) | (simp [*]; done)), H', ⟨by have := HK1.out; omega⟩, by repeat (first | exact Drawn0.refl _ | apply Drawn0.step)⟩
              · rw [if_neg c7] at H
                have c7b0 : ((rd l0 x5_1) == (rd l1 x5_1)) = false := beq_eq_false_iff_ne.mpr c7
                have c7b1 : ((rd l0 x5_1) != (rd l1 x5_1)) = true := bne_iff_ne.mpr c7
                obtain rfl := Option.some.inj H
                have p244 : 0 ≤ (x5_1 : Int) := of_decide_eq_true (by first | (with_reducible assumption) | assumption)
                have q244 : x5_1 < (l0.length : Int) := of_decide_eq_true (by first | (with_reducible assumption) | assumption)
                obtain ⟨ad244, e244, hx244_0⟩ := Kd.at_int HR0.out x5_1 p244 q244
                cases e244
                replace p244 := eq_true p244
                replace q244 := eq_true q244
                have p245 : 0 ≤ (x5_1 : Int) := of_decide_eq_true (by first | (with_reducible assumption) | assumption)
                have q245 : x5_1 < (l1.length : Int) := of_decide_eq_true (by first | (with_reducible assumption) | assumption)
                obtain ⟨ad245, e245, hx245_0⟩ := Kd.at_int HR1.out x5_1 p245 q245
                cases e245
                replace p245 := eq_true p245
                replace q245 := eq_true q245
                go_wp2
                repeat (go_quiet (fail); try go_wp2)
                go_ret
                exact ⟨by first | rfl | (simp; done) | (simp [*]; done), by repeat (first | exact Drawn0.refl _ | apply Drawn0.step)⟩
            · rw [if_neg c6] at H
              exact absurd H (by simp)
          · rw [if_neg c5] at H
            exact absurd H (by simp)
        · rw [if_neg c4] at H
          have c4b0 : decide (x5_1 < (l0.length : Int)) = false := decide_eq_false c4
          clear c4
          obtain rfl := Option.some.inj H
          go_wp2
          repeat (go_quiet (fail); try go_wp2)
          go_ret
          exact ⟨by first | rfl | (simp; done) | (simp [*]; done), by repeat (first | exact Drawn0.refl _ | apply Drawn0.step)⟩
  · rw [if_neg c3] at H
    have c3b0 : ((l0.length : Int) == (l1.length : Int)) = false := beq_eq_false_iff_ne.mpr c3
    have c3b1 : ((l0.length : Int) != (l1.length : Int)) = true := bne_iff_ne.mpr c3
    have c3b2 : (l0.length == l1.length) = false := by first | simpa using c3 | (simp at c3 ⊢; omega)
    obtain rfl := Option.some.inj H
    go_enter Tryz.func7, Tryz.ntmps7
    go_wp2
    repeat (go_quiet (fail); try go_wp2)
    go_ret
    exact ⟨by first | rfl | (simp; done) | (simp [*]; done), by repeat (first | exact Drawn0.refl _ | apply Drawn0.step)⟩

/-! ### heap_Values: function 29 -/
def heap_Values.f (a0 : ByteArray) (a1 : Int) : Option (List Int × Int) := (heap_Check.f a0).bind fun t246 => (if t246 = 0 then (if a1 < 0 then (some (([] : List Int), 1)) else (if a1 > 2000 then (some (([] : List Int), 1)) else ((heap_list.f a0 a1).bind fun t247 => (some (t247, 0))))) else (some (([] : List Int), t246)))
set_option maxHeartbeats 8000000 in
set_option maxRecDepth 100000 in
theorem heap_Values.calls (a0 : ByteArray) (a1 : Int) (r1 : List Int) (r2 : Int) (w : World) (h : heap_Values.f a0 a1 = some (r1, r2)) :
    Calls Tryz.prog 29 #[.string a0, .int .i64 a1] w fun e w' => ∃ v0_ : Value, e = .returned (.tuple #[v0_, .int .i64 r2]) ∧ Kd.R (Kd.int .i64) 3 w' w.heap.size (fun _ => True) v0_ r1 ∧ Below w.heap.size w w' := by
  have HB := Aside0.mk (Below.refl w.heap.size w)
  have H : ((heap_Check.f a0).bind fun t246 => (if t246 = 0 then (if a1 < 0 then (some (([] : List Int), 1)) else (if a1 > 2000 then (some (([] : List Int), 1)) else ((heap_list.f a0 a1).bind fun t247 => (some (t247, 0))))) else (some (([] : List Int), t246)))) = some (r1, r2) := h
  clear h
  replace H := Option.bind_eq_some_iff.mp H
  obtain ⟨t246, A30, H⟩ := H
  replace H : (if t246 = 0 then (if a1 < 0 then (some (([] : List Int), 1)) else (if a1 > 2000 then (some (([] : List Int), 1)) else ((heap_list.f a0 a1).bind fun t247 => (some (t247, 0))))) else (some (([] : List Int), t246))) = some (r1, r2) := H
  have A3 := Aside0.mk A30
  clear A30
  by_cases c4 : t246 = 0
  · rw [if_pos c4] at H
    have c4b0 : (t246 == 0) = true := beq_iff_eq.mpr c4
    have c4b1 : (t246 != 0) = false := bne_eq_false_iff_eq.mpr c4
    clear c4
    by_cases c5 : a1 < 0
    · rw [if_pos c5] at H
      have c5b0 : decide (a1 < 0) = true := decide_eq_true c5
      clear c5
      simp only [Option.some.injEq, Prod.mk.injEq] at H
      obtain ⟨rfl, rfl⟩ := H
      go_enter Tryz.func29, Tryz.ntmps29
      go_wp2_with (first | ((with_reducible refine gate_callee (f := 9) rfl ?_); refine goesL_ (some 8) rfl rfl Tryz.func9 (by kernel_rfl) rfl #[.string a0] rfl (by (try simp only [List.map_toArray, List.map_cons, List.map_nil]); first | done | rfl | (simp only [List.length_drop, List.length_take]; rfl)) ?_; (with_reducible refine (heap_Check.calls a0 t246 _ A3.out).mono ?_); rintro e w6 ⟨rfl, hb⟩; refine ⟨_, rfl, ?_⟩; have n0_ := Aside0.mk (below_step (by repeat (first | (with_reducible first | exact HB.out | apply below_alloc | apply pw_below_drewN | apply below_drew1) | exact HB.out)) hb); clear HB; have HB := n0_; clear n0_; (try clear hb); (try clear hb2); (try clear hk); (try clear hi)))
      go_ret2
      exact ⟨_, by first | rfl | (simp [errW_none, errW_some] <;> rfl) | (simp [*, errW_none, errW_some] <;> rfl), by first | exact Kd.R_nil _ _ _ _ _ | exact Kd.N_nil _ _ _ _ _ | exact Kd.V_nil _ _ _ _ _ | exact Kd.Q_nil _ _ _ _ _ | exact Kd.S_nil _ _ _ _ _, by repeat (first | (with_reducible first | exact HB.out | apply below_alloc | apply pw_below_drewN | apply below_drew1) | exact HB.out)⟩
    · rw [if_neg c5] at H
      have c5b0 : decide (a1 < 0) = false := decide_eq_false c5
      clear c5
      by_cases c7 : a1 > 2000
      · rw [if_pos c7] at H
        have c7b0 : decide (2000 < a1) = true := decide_eq_true c7
        clear c7
        simp only [Option.some.injEq, Prod.mk.injEq] at H
        obtain ⟨rfl, rfl⟩ := H
        go_enter Tryz.func29, Tryz.ntmps29
        go_wp2_with (first | ((with_reducible refine gate_callee (f := 9) rfl ?_); refine goesL_ (some 8) rfl rfl Tryz.func9 (by kernel_rfl) rfl #[.string a0] rfl (by (try simp only [List.map_toArray, List.map_cons, List.map_nil]); first | done | rfl | (simp only [List.length_drop, List.length_take]; rfl)) ?_; (with_reducible refine (heap_Check.calls a0 t246 _ A3.out).mono ?_); rintro e w8 ⟨rfl, hb⟩; refine ⟨_, rfl, ?_⟩; have n0_ := Aside0.mk (below_step (by repeat (first | (with_reducible first | exact HB.out | apply below_alloc | apply pw_below_drewN | apply below_drew1) | exact HB.out)) hb); clear HB; have HB := n0_; clear n0_; (try clear hb); (try clear hb2); (try clear hk); (try clear hi)))
        go_ret2
        exact ⟨_, by first | rfl | (simp [errW_none, errW_some] <;> rfl) | (simp [*, errW_none, errW_some] <;> rfl), by first | exact Kd.R_nil _ _ _ _ _ | exact Kd.N_nil _ _ _ _ _ | exact Kd.V_nil _ _ _ _ _ | exact Kd.Q_nil _ _ _ _ _ | exact Kd.S_nil _ _ _ _ _, by repeat (first | (with_reducible first | exact HB.out | apply below_alloc | apply pw_below_drewN | apply below_drew1) | exact HB.out)⟩
      · rw [if_neg c7] at H
        have c7b0 : decide (2000 < a1) = false := decide_eq_false c7
        clear c7
        replace H := Option.bind_eq_some_iff.mp H
        obtain ⟨t247, A90, H⟩ := H
        replace H : (some (t247, 0)) = some (r1, r2) := H
        have A9 := Aside0.mk A90
        clear A90
        simp only [Option.some.injEq, Prod.mk.injEq] at H
        obtain ⟨rfl, rfl⟩ := H
        go_enter Tryz.func29, Tryz.ntmps29
        go_wp2_with (first | ((with_reducible refine gate_callee (f := 9) rfl ?_); refine goesL_ (some 8) rfl rfl Tryz.func9 (by kernel_rfl) rfl #[.string a0] rfl (by (try simp only [List.map_toArray, List.map_cons, List.map_nil]); first | done | rfl | (simp only [List.length_drop, List.length_take]; rfl)) ?_; (with_reducible refine (heap_Check.calls a0 t246 _ A3.out).mono ?_); rintro e w10 ⟨rfl, hb⟩; refine ⟨_, rfl, ?_⟩; have n0_ := Aside0.mk (below_step (by repeat (first | (with_reducible first | exact HB.out | apply below_alloc | apply pw_below_drewN | apply below_drew1) | exact HB.out)) hb); clear HB; have HB := n0_; clear n0_; (try clear hb); (try clear hb2); (try clear hk); (try clear hi)) | ((with_reducible refine gate_callee (f := 12) rfl ?_); refine goesL_ (some 20) rfl rfl Tryz.func12 (by kernel_rfl) rfl #[.string a0, .int .i64 a1] rfl (by (try simp only [List.map_toArray, List.map_cons, List.map_nil]); first | done | rfl | (simp only [List.length_drop, List.length_take]; rfl)) ?_; (with_reducible refine (heap_list.calls a0 a1 t247 _ A9.out).mono ?_); rintro e w11 ⟨v248, rfl, ho0, hb⟩; refine ⟨_, rfl, ?_⟩; have n0_ := Aside0.mk (Kd.R_lower ho0 (below_size (by repeat (first | (with_reducible first | exact HB.out | apply below_alloc | apply pw_below_drewN | apply below_drew1) | exact HB.out)))); have n1_ := Aside0.mk (below_step (by repeat (first | (with_reducible first | exact HB.out | apply below_alloc | apply pw_below_drewN | apply below_drew1) | exact HB.out)) hb); clear HB; have HO249 := n0_; have HB := n1_; clear n0_ n1_; (try clear hb); (try clear hb2); (try clear hk); (try clear hi); (try clear ho0)))
        go_ret2
        exact ⟨_, by first | rfl | (simp [errW_none, errW_some] <;> rfl) | (simp [*, errW_none, errW_some] <;> rfl), by (with_reducible repeat (first | apply Kd.R_alloc | apply Kd.R_drewN | apply Kd.R_drew)); exact HO249.out, by repeat (first | (with_reducible first | exact HB.out | apply below_alloc | apply pw_below_drewN | apply below_drew1) | exact HB.out)⟩
  · rw [if_neg c4] at H
    have c4b0 : (t246 == 0) = false := beq_eq_false_iff_ne.mpr c4
    have c4b1 : (t246 != 0) = true := bne_iff_ne.mpr c4
    simp only [Option.some.injEq, Prod.mk.injEq] at H
    obtain ⟨rfl, rfl⟩ := H
    go_enter Tryz.func29, Tryz.ntmps29
    go_wp2_with (first | ((with_reducible refine gate_callee (f := 9) rfl ?_); refine goesL_ (some 8) rfl rfl Tryz.func9 (by kernel_rfl) rfl #[.string a0] rfl (by (try simp only [List.map_toArray, List.map_cons, List.map_nil]); first | done | rfl | (simp only [List.length_drop, List.length_take]; rfl)) ?_; (with_reducible refine (heap_Check.calls a0 t246 _ A3.out).mono ?_); rintro e w12 ⟨rfl, hb⟩; refine ⟨_, rfl, ?_⟩; have n0_ := Aside0.mk (below_step (by repeat (first | (with_reducible first | exact HB.out | apply below_alloc | apply pw_below_drewN | apply below_drew1) | exact HB.out)) hb); clear HB; have HB := n0_; clear n0_; (try clear hb); (try clear hb2); (try clear hk); (try clear hi)))
    go_ret2
    exact ⟨_, by first | rfl | (simp [errW_none, errW_some] <;> rfl) | (simp [*, errW_none, errW_some] <;> rfl), by first | exact Kd.R_nil _ _ _ _ _ | exact Kd.N_nil _ _ _ _ _ | exact Kd.V_nil _ _ _ _ _ | exact Kd.Q_nil _ _ _ _ _ | exact Kd.S_nil _ _ _ _ _, by repeat (first | (with_reducible first | exact HB.out | apply below_alloc | apply pw_below_drewN | apply below_drew1) | exact HB.out)⟩

/-! ### heap_inField: function 43 -/
def heap_inField.f (a0 : Int) : Option (Bool) := if a0 ≥ 0 then (some (decide (a0 < 65536))) else (some false)
set_option maxHeartbeats 8000000 in
set_option maxRecDepth 100000 in
theorem heap_inField.calls (a0 : Int) (r : Bool) (w : World) (h : heap_inField.f a0 = some r) :
    Calls Tryz.prog 43 #[.int .i64 a0] w fun e w' => e = .returned (.bool r) ∧ Drawn0 w w' := by
  have H : (if a0 ≥ 0 then (some (decide (a0 < 65536))) else (some false)) = some r := h
  clear h
  by_cases c2 : a0 ≥ 0
  · rw [if_pos c2] at H
    have c2b0 : decide (0 ≤ a0) = true := decide_eq_true c2
    clear c2
    obtain rfl := Option.some.inj H
    go_enter Tryz.func43, Tryz.ntmps43
    go_wp2
    go_ret
    exact ⟨by first | rfl | (simp; done) | (simp [*]; done), by repeat (first | exact Drawn0.refl _ | apply Drawn0.step)⟩
  · rw [if_neg c2] at H
    have c2b0 : decide (0 ≤ a0) = false := decide_eq_false c2
    clear c2
    obtain rfl := Option.some.inj H
    go_enter Tryz.func43, Tryz.ntmps43
    go_wp2
    go_ret
    exact ⟨by first | rfl | (simp; done) | (simp [*]; done), by repeat (first | exact Drawn0.refl _ | apply Drawn0.step)⟩

/-! ### heap_times: function 44 -/
-- making=1 rounds=0
def heap_times.f (a0 : Int) (a1 : Int) (a2 : Int) : Option (Int) := if a2 = 16 ∧ 2 ≤ a0 ∧ 2 ≤ a1 then some (Go.Proofs.YtkfbdhlfajdpgaaGreatDoor.HTimes.tm16 a0 a1) else if a0 < 2 then some (wrap64 (a0 * a1)) else if a1 < 2 then some (wrap64 (a0 * a1)) else none
theorem heap_times.calls (a0 : Int) (a1 : Int) (a2 : Int) (r : Int) (w : World) (h : heap_times.f a0 a1 a2 = some r) :
    Calls Tryz.prog 44 #[.int .i64 a0, .int .i64 a1, .int .i64 a2] w fun e w' => e = .returned (.int .i64 r) ∧ Below w.heap.size w w' := by
  unfold heap_times.f at h
  split at h
  · rename_i hc
    obtain ⟨rfl, h1, h2⟩ := hc
    cases h
    exact Go.Proofs.YtkfbdhlfajdpgaaGreatDoor.HTimes.times_any a0 a1 w ⟨h1, h2⟩
  · split at h
    · cases h
      exact Go.Proofs.YtkfbdhlfajdpgaaGreatDoor.HTimes.times_low a0 a1 a2 w (.inl (by assumption))
    · split at h
      · cases h
        exact Go.Proofs.YtkfbdhlfajdpgaaGreatDoor.HTimes.times_low a0 a1 a2 w (.inr (by assumption))
      · cases h

/-! ### heap_Times: function 30 -/
def heap_Times.f (a0 : Int) (a1 : Int) : Option (Int × Int) := (heap_inField.f a0).bind fun t250 => (if t250 = true then ((heap_inField.f a1).bind fun t251 => (if t251 = true then ((heap_times.f a0 a1 16).bind fun t252 => (some (t252, 0))) else (some (0, 1)))) else (some (0, 1)))
set_option maxHeartbeats 8000000 in
set_option maxRecDepth 100000 in
theorem heap_Times.calls (a0 : Int) (a1 : Int) (r1 : Int) (r2 : Int) (w : World) (h : heap_Times.f a0 a1 = some (r1, r2)) :
    Calls Tryz.prog 30 #[.int .i64 a0, .int .i64 a1] w fun e w' => e = .returned (.tuple #[.int .i64 r1, .int .i64 r2]) ∧ Below w.heap.size w w' := by
  have HB := Aside0.mk (Below.refl w.heap.size w)
  have H : ((heap_inField.f a0).bind fun t250 => (if t250 = true then ((heap_inField.f a1).bind fun t251 => (if t251 = true then ((heap_times.f a0 a1 16).bind fun t252 => (some (t252, 0))) else (some (0, 1)))) else (some (0, 1)))) = some (r1, r2) := h
  clear h
  replace H := Option.bind_eq_some_iff.mp H
  obtain ⟨t250, A30, H⟩ := H
  replace H : (if t250 = true then ((heap_inField.f a1).bind fun t251 => (if t251 = true then ((heap_times.f a0 a1 16).bind fun t252 => (some (t252, 0))) else (some (0, 1)))) else (some (0, 1))) = some (r1, r2) := H
  have A3 := Aside0.mk A30
  clear A30
  by_cases c4 : t250 = true
  · subst c4
    have H1 : ((heap_inField.f a1).bind fun t251 => (if t251 = true then ((heap_times.f a0 a1 16).bind fun t252 => (some (t252, 0))) else (some (0, 1)))) = some (r1, r2) := by rw [if_pos rfl] at H; exact H
    clear H
    have H := H1
    clear H1
    replace H := Option.bind_eq_some_iff.mp H
    obtain ⟨t251, A50, H⟩ := H
    replace H : (if t251 = true then ((heap_times.f a0 a1 16).bind fun t252 => (some (t252, 0))) else (some (0, 1))) = some (r1, r2) := H
    have A5 := Aside0.mk A50
    clear A50
    by_cases c6 : t251 = true
    · subst c6
      have H1 : ((heap_times.f a0 a1 16).bind fun t252 => (some (t252, 0))) = some (r1, r2) := by rw [if_pos rfl] at H; exact H
      clear H
      have H := H1
      clear H1
      replace H := Option.bind_eq_some_iff.mp H
      obtain ⟨t252, A70, H⟩ := H
      replace H : (some (t252, 0)) = some (r1, r2) := H
      have A7 := Aside0.mk A70
      clear A70
      simp only [Option.some.injEq, Prod.mk.injEq] at H
      obtain ⟨rfl, rfl⟩ := H
      go_enter Tryz.func30, Tryz.ntmps30
      go_wp2_with (first | ((with_reducible refine gate_callee (f := 43) rfl ?_); refine goesL_ (some 7) rfl rfl Tryz.func43 (by kernel_rfl) rfl #[.int .i64 a0] rfl (by (try simp only [List.map_toArray, List.map_cons, List.map_nil]); first | done | rfl | (simp only [List.length_drop, List.length_take]; rfl)) ?_; (with_reducible refine (heap_inField.calls a0 true _ A3.out).mono ?_); rintro e w' ⟨rfl, ⟨nd, rfl⟩⟩; refine ⟨_, rfl, ?_⟩) | (go_at_call 43; (with_reducible refine (heap_inField.calls a1 true _ A5.out).mono ?_); rintro e w' ⟨rfl, ⟨nd, rfl⟩⟩) | ((with_reducible refine gate_callee (f := 44) rfl ?_); refine goesL_ (some 16) rfl rfl Tryz.func44 (by kernel_rfl) rfl #[.int .i64 a0, .int .i64 a1, .int .i64 16] rfl (by (try simp only [List.map_toArray, List.map_cons, List.map_nil]); first | done | rfl | (simp only [List.length_drop, List.length_take]; rfl)) ?_; (with_reducible refine (heap_times.calls a0 a1 16 t252 _ A7.out).mono ?_); rintro e w8 ⟨rfl, hb⟩; refine ⟨_, rfl, ?_⟩; have n0_ := Aside0.mk (below_step (by repeat (first | (with_reducible first | exact HB.out | apply below_alloc | apply pw_below_drewN | apply below_drew1) | exact HB.out)) hb); clear HB; have HB := n0_; clear n0_; (try clear hb); (try clear hb2); (try clear hk); (try clear hi)))
      go_ret2
      exact ⟨by first | rfl | (simp [errW_none, errW_some] <;> rfl) | (simp [*, errW_none, errW_some] <;> rfl), by repeat (first | (with_reducible first | exact HB.out | apply below_alloc | apply pw_below_drewN | apply below_drew1) | exact HB.out)⟩
    · replace c6 := Bool.eq_false_iff.mpr c6
      subst c6
      have H1 : (some (0, 1)) = some (r1, r2) := by rw [if_neg (show ¬ (false = true) by decide)] at H; exact H
      clear H
      have H := H1
      clear H1
      simp only [Option.some.injEq, Prod.mk.injEq] at H
      obtain ⟨rfl, rfl⟩ := H
      go_enter Tryz.func30, Tryz.ntmps30
      go_wp2_with (first | ((with_reducible refine gate_callee (f := 43) rfl ?_); refine goesL_ (some 7) rfl rfl Tryz.func43 (by kernel_rfl) rfl #[.int .i64 a0] rfl (by (try simp only [List.map_toArray, List.map_cons, List.map_nil]); first | done | rfl | (simp only [List.length_drop, List.length_take]; rfl)) ?_; (with_reducible refine (heap_inField.calls a0 true _ A3.out).mono ?_); rintro e w' ⟨rfl, ⟨nd, rfl⟩⟩; refine ⟨_, rfl, ?_⟩) | (go_at_call 43; (with_reducible refine (heap_inField.calls a1 false _ A5.out).mono ?_); rintro e w' ⟨rfl, ⟨nd, rfl⟩⟩))
      go_ret2
      exact ⟨by first | rfl | (simp [errW_none, errW_some] <;> rfl) | (simp [*, errW_none, errW_some] <;> rfl), by repeat (first | (with_reducible first | exact HB.out | apply below_alloc | apply pw_below_drewN | apply below_drew1) | exact HB.out)⟩
  · replace c4 := Bool.eq_false_iff.mpr c4
    subst c4
    have H1 : (some (0, 1)) = some (r1, r2) := by rw [if_neg (show ¬ (false = true) by decide)] at H; exact H
    clear H
    have H := H1
    clear H1
    simp only [Option.some.injEq, Prod.mk.injEq] at H
    obtain ⟨rfl, rfl⟩ := H
    go_enter Tryz.func30, Tryz.ntmps30
    go_wp2_with (first | ((with_reducible refine gate_callee (f := 43) rfl ?_); refine goesL_ (some 7) rfl rfl Tryz.func43 (by kernel_rfl) rfl #[.int .i64 a0] rfl (by (try simp only [List.map_toArray, List.map_cons, List.map_nil]); first | done | rfl | (simp only [List.length_drop, List.length_take]; rfl)) ?_; (with_reducible refine (heap_inField.calls a0 false _ A3.out).mono ?_); rintro e w' ⟨rfl, ⟨nd, rfl⟩⟩; refine ⟨_, rfl, ?_⟩))
    go_ret2
    exact ⟨by first | rfl | (simp [errW_none, errW_some] <;> rfl) | (simp [*, errW_none, errW_some] <;> rfl), by repeat (first | (with_reducible first | exact HB.out | apply below_alloc | apply pw_below_drewN | apply below_drew1) | exact HB.out)⟩

/-! ### heap_power: function 45 -/
def heap_power.l0 : Nat → Int → Int → Int → Option (Int)
  | 0, _, _, _ => none
  | k + 1, x0, x1, x5 => if x1 > 0 then (if (Int.tmod x1 2) = 1 then ((heap_times.f x5 x0 16).bind fun t253 => ((heap_times.f x0 x0 16).bind fun t254 => (heap_power.l0 k t254 (wrap64 (Int.tdiv x1 2)) t253))) else ((heap_times.f x0 x0 16).bind fun t255 => (heap_power.l0 k t255 (wrap64 (Int.tdiv x1 2)) x5))) else (some x5)
def heap_power.f (k : Nat) (a0 : Int) (a1 : Int) : Option (Int) := heap_power.l0 k a0 a1 1
theorem heap_power.mono_l : ∀ k, (∀ y0 y1 y2, LeO (heap_power.l0 k y0 y1 y2) (heap_power.l0 (k + 1) y0 y1 y2))
  | 0 => fun _ _ _ r h => by simp [heap_power.l0] at h
  | k + 1 => by
    have ih0 := heap_power.mono_l k
    · intro y0 y1 y2
      unfold heap_power.l0
      repeat' first
      | (with_reducible exact ih0 _ _ _)
      | (with_reducible exact LeO.refl _)
      | (with_reducible exact LeO.none _)
      | (with_reducible refine LeO.ite ?_ ?_)
      | (with_reducible refine LeO.bind ?_ (fun _ => ?_))
      | exact ih0 _ _ _
      | exact LeO.none _
      | refine LeO.ite ?_ ?_
      | refine LeO.bind ?_ (fun _ => ?_)
theorem heap_power.mono : ∀ a0 a1 k, LeO (heap_power.f k a0 a1) (heap_power.f (k + 1) a0 a1) := by
  intro a0 a1 k
  have ih0 := heap_power.mono_l k
  unfold heap_power.f
  repeat' first
      | (with_reducible exact ih0 _ _ _)
      | (with_reducible exact LeO.refl _)
      | (with_reducible exact LeO.none _)
      | (with_reducible refine LeO.ite ?_ ?_)
      | (with_reducible refine LeO.bind ?_ (fun _ => ?_))
      | exact ih0 _ _ _
      | exact LeO.none _
      | refine LeO.ite ?_ ?_
      | refine LeO.bind ?_ (fun _ => ?_)
set_option maxHeartbeats 8000000 in
set_option maxRecDepth 100000 in
theorem heap_power.calls (k : Nat) (a0 : Int) (a1 : Int) (r : Int) (w : World) (h : heap_power.f k a0 a1 = some r) :
    Calls Tryz.prog 45 #[.int .i64 a0, .int .i64 a1] w fun e w' => e = .returned (.int .i64 r) ∧ Below w.heap.size w w' := by
  have HB := Aside0.mk (Below.refl w.heap.size w)
  have H : (heap_power.l0 k a0 a1 1) = some r := h
  clear h
  have H' := Aside0.mk H
  clear H
  go_enter Tryz.func45, Tryz.ntmps45
  go_wp2
  go_loopg [0, 1, 5] k (fun kq v0 v1 v5 w' => ∃ (x0_1 : Int) (x1_1 : Int) (x5_1 : Int), v0 = .int .i64 x0_1 ∧ v1 = .int .i64 x1_1 ∧ v5 = .int .i64 x5_1 ∧ Aside0 (heap_power.l0 kq x0_1 x1_1 x5_1 = some r) ∧ Aside0 (kq ≤ k) ∧ Aside0 (Below w.heap.size w w'))
  case atStart => exact ⟨(a0), (a1), (1), (by first | rfl | (simp; done) | (simp [*]; done)), (by first | rfl | (simp; done) | (simp [*]; done)), (by first | rfl | (simp; done) | (simp [*]; done)), H', ⟨Nat.le_refl _⟩, ⟨by repeat (first | (with_reducible first | exact HB.out | apply below_alloc | apply pw_below_drewN | apply below_drew1) | exact HB.out)⟩⟩
  case round =>
    clear H'
    try clear p2
    obtain ⟨x0_1, x1_1, x5_1, rfl, rfl, rfl, HA, HK1, HB⟩ := hrel
    cases gk with
    | zero => exact absurd HA.out (by simp [heap_power.l0])
    | succ k1 =>
      have H := HA.out
      clear HA
      simp only [heap_power.l0] at H
      by_cases c3 : x1_1 > 0
      · rw [if_pos c3] at H
        have c3b0 : decide (0 < x1_1) = true := decide_eq_true c3
        clear c3
        by_cases c4 : (Int.tmod x1_1 2) = 1
        · rw [if_pos c4] at H
          have c4b0 : ((Int.tmod x1_1 2) == 1) = true := beq_iff_eq.mpr c4
          have c4b1 : ((Int.tmod x1_1 2) != 1) = false := bne_eq_false_iff_eq.mpr c4
          clear c4
          replace H := Option.bind_eq_some_iff.mp H
          obtain ⟨t253, A50, H⟩ := H
          replace H : ((heap_times.f x0_1 x0_1 16).bind fun t254 => (heap_power.l0 k1 t254 (wrap64 (Int.tdiv x1_1 2)) t253)) = some r := H
          have A5 := Aside0.mk A50
          clear A50
          replace H := Option.bind_eq_some_iff.mp H
          obtain ⟨t254, A60, H⟩ := H
          replace H : (heap_power.l0 k1 t254 (wrap64 (Int.tdiv x1_1 2)) t253) = some r := H
          have A6 := Aside0.mk A60
          clear A60
          have H' := Aside0.mk H
          clear H
          go_wp2_with (first | ((with_reducible refine gate_callee (f := 44) rfl ?_); refine goesL_ (some 15) rfl rfl Tryz.func44 (by kernel_rfl) rfl #[.int .i64 x5_1, .int .i64 x0_1, .int .i64 16] rfl (by (try simp only [List.map_toArray, List.map_cons, List.map_nil]); first | done | rfl | (simp only [List.length_drop, List.length_take]; rfl)) ?_; (with_reducible refine (heap_times.calls x5_1 x0_1 16 t253 _ A5.out).mono ?_); rintro e w7 ⟨rfl, hb⟩; refine ⟨_, rfl, ?_⟩; have n0_ := Aside0.mk (below_step (by repeat (first | (with_reducible first | exact HB.out | apply below_alloc | apply pw_below_drewN | apply below_drew1) | exact HB.out)) hb); clear HB; have HB := n0_; clear n0_; (try clear hb); (try clear hb2); (try clear hk); (try clear hi)) | ((with_reducible refine gate_callee (f := 44) rfl ?_); refine goesL_ (some 18) rfl rfl Tryz.func44 (by kernel_rfl) rfl #[.int .i64 x0_1, .int .i64 x0_1, .int .i64 16] rfl (by (try simp only [List.map_toArray, List.map_cons, List.map_nil]); first | done | rfl | (simp only [List.length_drop, List.length_take]; rfl)) ?_; (with_reducible refine (heap_times.calls x0_1 x0_1 16 t254 _ A6.out).mono ?_); rintro e w8 ⟨rfl, hb⟩; refine ⟨_, rfl, ?_⟩; have n0_ := Aside0.mk (below_step (by repeat (first | (with_reducible first | exact HB.out | apply below_alloc | apply pw_below_drewN | apply below_drew1) | exact HB.out)) hb); clear HB; have HB := n0_; clear n0_; (try clear hb); (try clear hb2); (try clear hk); (try clear hi)))
          go_roundg k1
          case measure => have := HK1.out; omega
          case rel => exact ⟨(t254), (wrap64 (Int.tdiv x1_1 2)), (t253), (by first | rfl | (simp; done) | (simp [*]; done)), (by first | rfl | (simp; done) | (simp [*]; done)), (by first | rfl | (simp; done) | (simp [*]; done)), H', ⟨by have := HK1.out; omega⟩, ⟨by repeat (first | (with_reducible first | exact HB.out | apply below_alloc | apply pw_below_drewN | apply below_drew1) | exact HB.out)⟩⟩
        · rw [if_neg c4] at H
          have c4b0 : ((Int.tmod x1_1 2) == 1) = false := beq_eq_false_iff_ne.mpr c4
          have c4b1 : ((Int.tmod x1_1 2) != 1) = true := bne_iff_ne.mpr c4
          replace H := Option.bind_eq_some_iff.mp H
          obtain ⟨t255, A90, H⟩ := H
          replace H : (heap_power.l0 k1 t255 (wrap64 (Int.tdiv x1_1 2)) x5_1) = some r := H
          have A9 := Aside0.mk A90
          clear A90
          have H' := Aside0.mk H
          clear H
          go_wp2_with (first | ((with_reducible refine gate_callee (f := 44) rfl ?_); refine goesL_ (some 18) rfl rfl Tryz.func44 (by kernel_rfl) rfl #[.int .i64 x0_1, .int .i64 x0_1, .int .i64 16] rfl (by (try simp only [List.map_toArray, List.map_cons, List.map_nil]); first | done | rfl | (simp only [List.length_drop, List.length_take]; rfl)) ?_; (with_reducible refine (heap_times.calls x0_1 x0_1 16 t255 _ A9.out).mono ?_); rintro e w10 ⟨rfl, hb⟩; refine ⟨_, rfl, ?_⟩; have n0_ := Aside0.mk (below_step (by repeat (first | (with_reducible first | exact HB.out | apply below_alloc | apply pw_below_drewN | apply below_drew1) | exact HB.out)) hb); clear HB; have HB := n0_; clear n0_; (try clear hb); (try clear hb2); (try clear hk); (try clear hi)))
          go_roundg k1
          case measure => have := HK1.out; omega
          case rel => exact ⟨(t255), (wrap64 (Int.tdiv x1_1 2)), (x5_1), (by first | rfl | (simp; done) | (simp [*]; done)), (by first | rfl | (simp; done) | (simp [*]; done)), (by first | rfl | (simp; done) | (simp [*]; done)), H', ⟨by have := HK1.out; omega⟩, ⟨by repeat (first | (with_reducible first | exact HB.out | apply below_alloc | apply pw_below_drewN | apply below_drew1) | exact HB.out)⟩⟩
      · rw [if_neg c3] at H
        have c3b0 : decide (0 < x1_1) = false := decide_eq_false c3
        clear c3
        obtain rfl := Option.some.inj H
        go_wp2
        go_ret
        exact ⟨by first | rfl | (simp [errW_none, errW_some] <;> rfl) | (simp [*, errW_none, errW_some] <;> rfl), by repeat (first | (with_reducible first | exact HB.out | apply below_alloc | apply pw_below_drewN | apply below_drew1) | exact HB.out)⟩

/-! ### heap_Inverse: function 31 -/
def heap_Inverse.f (k : Nat) (a0 : Int) : Option (Int × Int) := (heap_inField.f a0).bind fun t256 => (if t256 = true then (if a0 = 0 then (some (0, 4)) else ((heap_power.f k a0 65534).bind fun t257 => (some (t257, 0)))) else (some (0, 1)))
theorem heap_Inverse.mono : ∀ a0 k, LeO (heap_Inverse.f k a0) (heap_Inverse.f (k + 1) a0) := by
  intro a0 k
  unfold heap_Inverse.f
  repeat' first
      | (with_reducible exact heap_power.mono _ _ _)
      | (with_reducible exact LeO.refl _)
      | (with_reducible exact LeO.none _)
      | (with_reducible refine LeO.ite ?_ ?_)
      | (with_reducible refine LeO.bind ?_ (fun _ => ?_))
      | exact heap_power.mono _ _ _
      | exact LeO.none _
      | refine LeO.ite ?_ ?_
      | refine LeO.bind ?_ (fun _ => ?_)
set_option maxHeartbeats 8000000 in
set_option maxRecDepth 100000 in
theorem heap_Inverse.calls (k : Nat) (a0 : Int) (r1 : Int) (r2 : Int) (w : World) (h : heap_Inverse.f k a0 = some (r1, r2)) :
    Calls Tryz.prog 31 #[.int .i64 a0] w fun e w' => e = .returned (.tuple #[.int .i64 r1, .int .i64 r2]) ∧ Below w.heap.size w w' := by
  have HB := Aside0.mk (Below.refl w.heap.size w)
  have H : ((heap_inField.f a0).bind fun t256 => (if t256 = true then (if a0 = 0 then (some (0, 4)) else ((heap_power.f k a0 65534).bind fun t257 => (some (t257, 0)))) else (some (0, 1)))) = some (r1, r2) := h
  clear h
  replace H := Option.bind_eq_some_iff.mp H
  obtain ⟨t256, A20, H⟩ := H
  replace H : (if t256 = true then (if a0 = 0 then (some (0, 4)) else ((heap_power.f k a0 65534).bind fun t257 => (some (t257, 0)))) else (some (0, 1))) = some (r1, r2) := H
  have A2 := Aside0.mk A20
  clear A20
  by_cases c3 : t256 = true
  · subst c3
    have H1 : (if a0 = 0 then (some (0, 4)) else ((heap_power.f k a0 65534).bind fun t257 => (some (t257, 0)))) = some (r1, r2) := by rw [if_pos rfl] at H; exact H
    clear H
    have H := H1
    clear H1
    by_cases c4 : a0 = 0
    · rw [if_pos c4] at H
      have c4b0 : (a0 == 0) = true := beq_iff_eq.mpr c4
      have c4b1 : (a0 != 0) = false := bne_eq_false_iff_eq.mpr c4
      clear c4
      simp only [Option.some.injEq, Prod.mk.injEq] at H
      obtain ⟨rfl, rfl⟩ := H
      go_enter Tryz.func31, Tryz.ntmps31
      go_wp2_with (first | ((with_reducible refine gate_callee (f := 43) rfl ?_); refine goesL_ (some 6) rfl rfl Tryz.func43 (by kernel_rfl) rfl #[.int .i64 a0] rfl (by (try simp only [List.map_toArray, List.map_cons, List.map_nil]); first | done | rfl | (simp only [List.length_drop, List.length_take]; rfl)) ?_; (with_reducible refine (heap_inField.calls a0 true _ A2.out).mono ?_); rintro e w' ⟨rfl, ⟨nd, rfl⟩⟩; refine ⟨_, rfl, ?_⟩))
      go_ret2
      exact ⟨by first | rfl | (simp [errW_none, errW_some] <;> rfl) | (simp [*, errW_none, errW_some] <;> rfl), by repeat (first | (with_reducible first | exact HB.out | apply below_alloc | apply pw_below_drewN | apply below_drew1) | exact HB.out)⟩
    · rw [if_neg c4] at H
      have c4b0 : (a0 == 0) = false := beq_eq_false_iff_ne.mpr c4
      have c4b1 : (a0 != 0) = true := bne_iff_ne.mpr c4
      replace H := Option.bind_eq_some_iff.mp H
      obtain ⟨t257, A50, H⟩ := H
      replace H : (some (t257, 0)) = some (r1, r2) := H
      have A5 := Aside0.mk A50
      clear A50
      simp only [Option.some.injEq, Prod.mk.injEq] at H
      obtain ⟨rfl, rfl⟩ := H
      go_enter Tryz.func31, Tryz.ntmps31
      go_wp2_with (first | ((with_reducible refine gate_callee (f := 43) rfl ?_); refine goesL_ (some 6) rfl rfl Tryz.func43 (by kernel_rfl) rfl #[.int .i64 a0] rfl (by (try simp only [List.map_toArray, List.map_cons, List.map_nil]); first | done | rfl | (simp only [List.length_drop, List.length_take]; rfl)) ?_; (with_reducible refine (heap_inField.calls a0 true _ A2.out).mono ?_); rintro e w' ⟨rfl, ⟨nd, rfl⟩⟩; refine ⟨_, rfl, ?_⟩) | ((with_reducible refine gate_callee (f := 45) rfl ?_); refine goesL_ (some 12) rfl rfl Tryz.func45 (by kernel_rfl) rfl #[.int .i64 a0, .int .i64 65534] rfl (by (try simp only [List.map_toArray, List.map_cons, List.map_nil]); first | done | rfl | (simp only [List.length_drop, List.length_take]; rfl)) ?_; (with_reducible refine (heap_power.calls k a0 65534 t257 _ A5.out).mono ?_); rintro e w6 ⟨rfl, hb⟩; refine ⟨_, rfl, ?_⟩; have n0_ := Aside0.mk (below_step (by repeat (first | (with_reducible first | exact HB.out | apply below_alloc | apply pw_below_drewN | apply below_drew1) | exact HB.out)) hb); clear HB; have HB := n0_; clear n0_; (try clear hb); (try clear hb2); (try clear hk); (try clear hi)))
      go_ret2
      exact ⟨by first | rfl | (simp [errW_none, errW_some] <;> rfl) | (simp [*, errW_none, errW_some] <;> rfl), by repeat (first | (with_reducible first | exact HB.out | apply below_alloc | apply pw_below_drewN | apply below_drew1) | exact HB.out)⟩
  · replace c3 := Bool.eq_false_iff.mpr c3
    subst c3
    have H1 : (some (0, 1)) = some (r1, r2) := by rw [if_neg (show ¬ (false = true) by decide)] at H; exact H
    clear H
    have H := H1
    clear H1
    simp only [Option.some.injEq, Prod.mk.injEq] at H
    obtain ⟨rfl, rfl⟩ := H
    go_enter Tryz.func31, Tryz.ntmps31
    go_wp2_with (first | ((with_reducible refine gate_callee (f := 43) rfl ?_); refine goesL_ (some 6) rfl rfl Tryz.func43 (by kernel_rfl) rfl #[.int .i64 a0] rfl (by (try simp only [List.map_toArray, List.map_cons, List.map_nil]); first | done | rfl | (simp only [List.length_drop, List.length_take]; rfl)) ?_; (with_reducible refine (heap_inField.calls a0 false _ A2.out).mono ?_); rintro e w' ⟨rfl, ⟨nd, rfl⟩⟩; refine ⟨_, rfl, ?_⟩))
    go_ret2
    exact ⟨by first | rfl | (simp [errW_none, errW_some] <;> rfl) | (simp [*, errW_none, errW_some] <;> rfl), by repeat (first | (with_reducible first | exact HB.out | apply below_alloc | apply pw_below_drewN | apply below_drew1) | exact HB.out)⟩

/-! ### heap_Root: function 32 -/
def heap_Root.f (k : Nat) (a0 : Int) : Option (Int × Int) := (heap_inField.f a0).bind fun t258 => (if t258 = true then ((heap_power.f k a0 32768).bind fun t259 => (some (t259, 0))) else (some (0, 1)))
theorem heap_Root.mono : ∀ a0 k, LeO (heap_Root.f k a0) (heap_Root.f (k + 1) a0) := by
  intro a0 k
  unfold heap_Root.f
  repeat' first
      | (with_reducible exact heap_power.mono _ _ _)
      | (with_reducible exact LeO.refl _)
      | (with_reducible exact LeO.none _)
      | (with_reducible refine LeO.ite ?_ ?_)
      | (with_reducible refine LeO.bind ?_ (fun _ => ?_))
      | exact heap_power.mono _ _ _
      | exact LeO.none _
      | refine LeO.ite ?_ ?_
      | refine LeO.bind ?_ (fun _ => ?_)
set_option maxHeartbeats 8000000 in
set_option maxRecDepth 100000 in
theorem heap_Root.calls (k : Nat) (a0 : Int) (r1 : Int) (r2 : Int) (w : World) (h : heap_Root.f k a0 = some (r1, r2)) :
    Calls Tryz.prog 32 #[.int .i64 a0] w fun e w' => e = .returned (.tuple #[.int .i64 r1, .int .i64 r2]) ∧ Below w.heap.size w w' := by
  have HB := Aside0.mk (Below.refl w.heap.size w)
  have H : ((heap_inField.f a0).bind fun t258 => (if t258 = true then ((heap_power.f k a0 32768).bind fun t259 => (some (t259, 0))) else (some (0, 1)))) = some (r1, r2) := h
  clear h
  replace H := Option.bind_eq_some_iff.mp H
  obtain ⟨t258, A20, H⟩ := H
  replace H : (if t258 = true then ((heap_power.f k a0 32768).bind fun t259 => (some (t259, 0))) else (some (0, 1))) = some (r1, r2) := H
  have A2 := Aside0.mk A20
  clear A20
  by_cases c3 : t258 = true
  · subst c3
    have H1 : ((heap_power.f k a0 32768).bind fun t259 => (some (t259, 0))) = some (r1, r2) := by rw [if_pos rfl] at H; exact H
    clear H
    have H := H1
    clear H1
    replace H := Option.bind_eq_some_iff.mp H
    obtain ⟨t259, A40, H⟩ := H
    replace H : (some (t259, 0)) = some (r1, r2) := H
    have A4 := Aside0.mk A40
    clear A40
    simp only [Option.some.injEq, Prod.mk.injEq] at H
    obtain ⟨rfl, rfl⟩ := H
    go_enter Tryz.func32, Tryz.ntmps32
    go_wp2_with (first | ((with_reducible refine gate_callee (f := 43) rfl ?_); refine goesL_ (some 5) rfl rfl Tryz.func43 (by kernel_rfl) rfl #[.int .i64 a0] rfl (by (try simp only [List.map_toArray, List.map_cons, List.map_nil]); first | done | rfl | (simp only [List.length_drop, List.length_take]; rfl)) ?_; (with_reducible refine (heap_inField.calls a0 true _ A2.out).mono ?_); rintro e w' ⟨rfl, ⟨nd, rfl⟩⟩; refine ⟨_, rfl, ?_⟩) | ((with_reducible refine gate_callee (f := 45) rfl ?_); refine goesL_ (some 8) rfl rfl Tryz.func45 (by kernel_rfl) rfl #[.int .i64 a0, .int .i64 32768] rfl (by (try simp only [List.map_toArray, List.map_cons, List.map_nil]); first | done | rfl | (simp only [List.length_drop, List.length_take]; rfl)) ?_; (with_reducible refine (heap_power.calls k a0 32768 t259 _ A4.out).mono ?_); rintro e w5 ⟨rfl, hb⟩; refine ⟨_, rfl, ?_⟩; have n0_ := Aside0.mk (below_step (by repeat (first | (with_reducible first | exact HB.out | apply below_alloc | apply pw_below_drewN | apply below_drew1) | exact HB.out)) hb); clear HB; have HB := n0_; clear n0_; (try clear hb); (try clear hb2); (try clear hk); (try clear hi)))
    go_ret2
    exact ⟨by first | rfl | (simp [errW_none, errW_some] <;> rfl) | (simp [*, errW_none, errW_some] <;> rfl), by repeat (first | (with_reducible first | exact HB.out | apply below_alloc | apply pw_below_drewN | apply below_drew1) | exact HB.out)⟩
  · replace c3 := Bool.eq_false_iff.mpr c3
    subst c3
    have H1 : (some (0, 1)) = some (r1, r2) := by rw [if_neg (show ¬ (false = true) by decide)] at H; exact H
    clear H
    have H := H1
    clear H1
    simp only [Option.some.injEq, Prod.mk.injEq] at H
    obtain ⟨rfl, rfl⟩ := H
    go_enter Tryz.func32, Tryz.ntmps32
    go_wp2_with (first | ((with_reducible refine gate_callee (f := 43) rfl ?_); refine goesL_ (some 5) rfl rfl Tryz.func43 (by kernel_rfl) rfl #[.int .i64 a0] rfl (by (try simp only [List.map_toArray, List.map_cons, List.map_nil]); first | done | rfl | (simp only [List.length_drop, List.length_take]; rfl)) ?_; (with_reducible refine (heap_inField.calls a0 false _ A2.out).mono ?_); rintro e w' ⟨rfl, ⟨nd, rfl⟩⟩; refine ⟨_, rfl, ?_⟩))
    go_ret2
    exact ⟨by first | rfl | (simp [errW_none, errW_some] <;> rfl) | (simp [*, errW_none, errW_some] <;> rfl), by repeat (first | (with_reducible first | exact HB.out | apply below_alloc | apply pw_below_drewN | apply below_drew1) | exact HB.out)⟩

/-! ### heap_CheckGraph: function 46 -/
mutual
def heap_CheckGraph.j0 : Nat → List (List Int) → Bool → Option (Int)
  | 0, _, _ => none
  | k + 1, x0, x15 => if x15 = true then (some 61) else (heap_CheckGraph.l0 k x0 x0 (x0.length : Int) 0)
def heap_CheckGraph.l0 : Nat → List (List Int) → List (List Int) → Int → Int → Option (Int)
  | 0, _, _, _, _ => none
  | k + 1, x0, x16, x17, x18 => if x18 < x17 then (if 0 ≤ x18 then (if x18 < (x16.length : Int) then (heap_CheckGraph.l1 k x0 (-1) x16 x17 x18 (rd_L2 x16 x18) ((rd_L2 x16 x18).length : Int) 0) else (none)) else (none)) else (some 0)
def heap_CheckGraph.l1 : Nat → List (List Int) → Int → List (List Int) → Int → Int → List Int → Int → Int → Option (Int)
  | 0, _, _, _, _, _, _, _, _ => none
  | k + 1, x0, x5, x16, x17, x18, x22, x23, x24 => if x24 < x23 then (if 0 ≤ x24 then (if x24 < (x22.length : Int) then (if (rd x22 x24) ≤ x5 then (some 61) else (if (rd x22 x24) ≥ (x0.length : Int) then (some 61) else (heap_CheckGraph.l1 k x0 (rd x22 x24) x16 x17 x18 x22 x23 (wrap64 (x24 + 1))))) else (none)) else (none)) else (heap_CheckGraph.l0 k x0 x16 x17 (wrap64 (x18 + 1)))
end
def heap_CheckGraph.f (k : Nat) (l0 : List (List Int)) : Option (Int) := if (l0.length : Int) < 1 then (heap_CheckGraph.j0 k l0 true) else (heap_CheckGraph.j0 k l0 (decide ((l0.length : Int) > 200)))
theorem heap_CheckGraph.mono_l : ∀ k, (∀ y0 y1, LeO (heap_CheckGraph.j0 k y0 y1) (heap_CheckGraph.j0 (k + 1) y0 y1)) ∧ (∀ y0 y1 y2 y3, LeO (heap_CheckGraph.l0 k y0 y1 y2 y3) (heap_CheckGraph.l0 (k + 1) y0 y1 y2 y3)) ∧ (∀ y0 y1 y2 y3 y4 y5 y6 y7, LeO (heap_CheckGraph.l1 k y0 y1 y2 y3 y4 y5 y6 y7) (heap_CheckGraph.l1 (k + 1) y0 y1 y2 y3 y4 y5 y6 y7))
  | 0 => ⟨fun _ _ r h => by simp [heap_CheckGraph.j0] at h, fun _ _ _ _ r h => by simp [heap_CheckGraph.l0] at h, fun _ _ _ _ _ _ _ _ r h => by simp [heap_CheckGraph.l1] at h⟩
  | k + 1 => by
    obtain ⟨ih0, ih1, ih2⟩ := heap_CheckGraph.mono_l k
    refine ⟨?_, ?_, ?_⟩
    · intro y0 y1
      unfold heap_CheckGraph.j0
      repeat' first
      | (with_reducible exact ih0 _ _)
      | (with_reducible exact ih1 _ _ _ _)
      | (with_reducible exact ih2 _ _ _ _ _ _ _ _)
      | (with_reducible exact LeO.refl _)
      | (with_reducible exact LeO.none _)
      | (with_reducible refine LeO.ite ?_ ?_)
      | (with_reducible refine LeO.bind ?_ (fun _ => ?_))
      | exact ih0 _ _
      | exact ih1 _ _ _ _
      | exact ih2 _ _ _ _ _ _ _ _
      | exact LeO.none _
      | refine LeO.ite ?_ ?_
      | refine LeO.bind ?_ (fun _ => ?_)
    · intro y0 y1 y2 y3
      unfold heap_CheckGraph.l0
      repeat' first
      | (with_reducible exact ih0 _ _)
      | (with_reducible exact ih1 _ _ _ _)
      | (with_reducible exact ih2 _ _ _ _ _ _ _ _)
      | (with_reducible exact LeO.refl _)
      | (with_reducible exact LeO.none _)
      | (with_reducible refine LeO.ite ?_ ?_)
      | (with_reducible refine LeO.bind ?_ (fun _ => ?_))
      | exact ih0 _ _
      | exact ih1 _ _ _ _
      | exact ih2 _ _ _ _ _ _ _ _
      | exact LeO.none _
      | refine LeO.ite ?_ ?_
      | refine LeO.bind ?_ (fun _ => ?_)
    · intro y0 y1 y2 y3 y4 y5 y6 y7
      unfold heap_CheckGraph.l1
      repeat' first
      | (with_reducible exact ih0 _ _)
      | (with_reducible exact ih1 _ _ _ _)
      | (with_reducible exact ih2 _ _ _ _ _ _ _ _)
      | (with_reducible exact LeO.refl _)
      | (with_reducible exact LeO.none _)
      | (with_reducible refine LeO.ite ?_ ?_)
      | (with_reducible refine LeO.bind ?_ (fun _ => ?_))
      | exact ih0 _ _
      | exact ih1 _ _ _ _
      | exact ih2 _ _ _ _ _ _ _ _
      | exact LeO.none _
      | refine LeO.ite ?_ ?_
      | refine LeO.bind ?_ (fun _ => ?_)
theorem heap_CheckGraph.mono : ∀ a0 k, LeO (heap_CheckGraph.f k a0) (heap_CheckGraph.f (k + 1) a0) := by
  intro a0 k
  obtain ⟨ih0, ih1, ih2⟩ := heap_CheckGraph.mono_l k
  unfold heap_CheckGraph.f
  repeat' first
      | (with_reducible exact ih0 _ _)
      | (with_reducible exact ih1 _ _ _ _)
      | (with_reducible exact ih2 _ _ _ _ _ _ _ _)
      | (with_reducible exact LeO.refl _)
      | (with_reducible exact LeO.none _)
      | (with_reducible refine LeO.ite ?_ ?_)
      | (with_reducible refine LeO.bind ?_ (fun _ => ?_))
      | exact ih0 _ _
      | exact ih1 _ _ _ _
      | exact ih2 _ _ _ _ _ _ _ _
      | exact LeO.none _
      | refine LeO.ite ?_ ?_
      | refine LeO.bind ?_ (fun _ => ?_)
set_option maxHeartbeats 8000000 in
set_option maxRecDepth 100000 in
theorem heap_CheckGraph.calls (k : Nat) (A0 : Option Addr) (c0 : Nat) (l0 : List (List Int)) (r : Int) (w : World) (hr0 : Kd.C (Kd.slice 3 (Kd.int .i64)) w A0 l0.length l0) (hc0 : l0.length ≤ c0) (h : heap_CheckGraph.f k l0 = some r) :
    Calls Tryz.prog 46 #[.slice A0 l0.length c0] w fun e w' => e = .returned (.int .i64 r) ∧ Drawn0 w w' := by
  have HR0 := Aside0.mk hr0
  have HC0 := Aside0.mk hc0
  clear hr0 hc0
  have H : (if (l0.length : Int) < 1 then (heap_CheckGraph.j0 k l0 true) else (heap_CheckGraph.j0 k l0 (decide ((l0.length : Int) > 200)))) = some r := h
  clear h
  have HC2 := Aside0.mk H
  clear H
  go_enter Tryz.func46, Tryz.ntmps46
  go_upto_region 1 with (fail)
  go_cut [15] (fun v15 wc => ∃ (kq : Nat) (x15_1 : Bool), v15 = .bool x15_1 ∧ Aside0 (heap_CheckGraph.j0 kq l0 x15_1 = some r) ∧ Aside0 (kq ≤ k) ∧ Drawn0 w wc)
  case first =>
    have H := HC2.out
    clear HC2
    by_cases c3 : (l0.length : Int) < 1
    · rw [if_pos c3] at H
      have c3b0 : decide ((l0.length : Int) < 1) = true := decide_eq_true c3
      have c3b1 : decide (l0.length < 1) = true := decide_eq_true (by omega)
      clear c3
      (first | rw [c3b0] | (simp only [i64_w, i32_w]; rw [c3b0]) | skip)
      have H' := Aside0.mk H
      clear H
      go_wp2
      go_meet
      case rel => exact ⟨_, (true), (by first | rfl | (simp; done) | (simp [*]; done)), H', ⟨by first | omega | exact Nat.le_refl _⟩, by repeat (first | exact Drawn0.refl _ | apply Drawn0.step)⟩
    · rw [if_neg c3] at H
      have c3b0 : decide ((l0.length : Int) < 1) = false := decide_eq_false c3
      have c3b1 : decide (l0.length < 1) = false := decide_eq_false (by omega)
      clear c3
      (first | rw [c3b0] | (simp only [i64_w, i32_w]; rw [c3b0]) | skip)
      have H' := Aside0.mk H
      clear H
      go_wp2
      go_meet
      case rel => exact ⟨_, (decide ((l0.length : Int) > 200)), (by first | rfl | (simp; done) | (simp [*]; done)), H', ⟨by first | omega | exact Nat.le_refl _⟩, by repeat (first | exact Drawn0.refl _ | apply Drawn0.step)⟩
  case rest =>
    clear HC2
    try clear p2
    try clear c3
    try clear c3b0
    try clear c3b1
    obtain ⟨kq, x15_1, rfl, HA, HJ1, ⟨mc1, rfl⟩⟩ := hcut
    cases kq with
    | zero => exact absurd HA.out (by simp [heap_CheckGraph.j0])
    | succ kj1 =>
      have H := HA.out
      clear HA
      simp only [heap_CheckGraph.j0] at H
      by_cases c4 : x15_1 = true
      · subst c4
        have H1 : (some 61) = some r := by rw [if_pos rfl] at H; exact H
        clear H
        have H := H1
        clear H1
        obtain rfl := Option.some.inj H
        go_wp2
        go_ret
        exact ⟨by first | rfl | (simp; done) | (simp [*]; done), by repeat (first | exact Drawn0.refl _ | apply Drawn0.step)⟩
      · replace c4 := Bool.eq_false_iff.mpr c4
        subst c4
        have H1 : (heap_CheckGraph.l0 kj1 l0 l0 (l0.length : Int) 0) = some r := by rw [if_neg (show ¬ (false = true) by decide)] at H; exact H
        clear H
        have H := H1
        clear H1
        have H' := Aside0.mk H
        clear H
        go_wp2
        go_loopg [18] kj1 (fun kq v18 w' => ∃ (x18_2 : Int), v18 = .int .i64 x18_2 ∧ Aside0 (heap_CheckGraph.l0 kq l0 l0 (l0.length : Int) x18_2 = some r) ∧ Aside0 (kq ≤ kj1) ∧ Drawn0 w w')
        case atStart => exact ⟨(0), (by first | rfl | (simp; done) | (simp [*]; done)), H', ⟨Nat.le_refl _⟩, by repeat (first | exact Drawn0.refl _ | apply Drawn0.step)⟩
        case round =>
          clear H'
          try clear c1
          try clear p2
          try clear c3
          try clear c3b0
          try clear c3b1
          try clear c4
          try clear p2
          obtain ⟨x18_2, rfl, HA, HK2, ⟨m2, rfl⟩⟩ := hrel
          cases gk with
          | zero => exact absurd HA.out (by simp [heap_CheckGraph.l0])
          | succ k2 =>
            have H := HA.out
            clear HA
            simp only [heap_CheckGraph.l0] at H
            by_cases c5 : x18_2 < (l0.length : Int)
            · rw [if_pos c5] at H
              have c5b0 : decide (x18_2 < (l0.length : Int)) = true := decide_eq_true c5
              clear c5
              by_cases c6 : 0 ≤ x18_2
              · rw [if_pos c6] at H
                have c6b0 : decide (0 ≤ x18_2) = true := decide_eq_true c6
                clear c6
                by_cases c7 : x18_2 < (l0.length : Int)
                · rw [if_pos c7] at H
                  have c7b0 : decide (x18_2 < (l0.length : Int)) = true := decide_eq_true c7
                  clear c7
                  have H' := Aside0.mk H
                  clear H
                  have p260 : 0 ≤ (x18_2 : Int) := of_decide_eq_true (by first | (with_reducible assumption) | assumption)
                  have q260 : x18_2 < (l0.length : Int) := of_decide_eq_true (by first | (with_reducible assumption) | assumption)
                  obtain ⟨ad260, A260_0, c260_0, e260, hx260_0, hl260_0, hi260_0⟩ := at_L2 HR0.out x18_2 p260 q260
                  cases e260
                  have HR260_0 := Aside0.mk hi260_0
                  have HC260_0 := Aside0.mk hl260_0
                  clear hi260_0 hl260_0
                  replace p260 := eq_true p260
                  replace q260 := eq_true q260
                  go_wp2
                  go_loopg [5, 24] k2 (fun kq v5 v24 w' => ∃ (x5_3 : Int) (x24_3 : Int), v5 = .int .i64 x5_3 ∧ v24 = .int .i64 x24_3 ∧ Aside0 (heap_CheckGraph.l1 kq l0 x5_3 l0 (l0.length : Int) x18_2 (rd_L2 l0 x18_2) ((rd_L2 l0 x18_2).length : Int) x24_3 = some r) ∧ Aside0 (kq ≤ k2) ∧ Drawn0 w w')
                  case atStart => exact ⟨((-1)), (0), (by first | rfl | (simp; done) | (simp [*]; done)), (by first | rfl | (simp; done) | (simp [*]; done)), H', ⟨Nat.le_refl _⟩, by repeat (first | exact Drawn0.refl _ | apply Drawn0.step)⟩
                  case round =>
                    clear H'
                    try clear c1
                    try clear c2
                    try clear p2
                    try clear q2
                    try clear hx2
                    try clear c3
                    try clear c3b0
                    try clear c3b1
                    try clear c4
                    try clear c5
                    try clear c5b0
                    try clear c6
                    try clear c6b0
                    try clear c7
                    try clear c7b0
                    try clear hx260_0
                    try clear p2
                    try clear p260
                    try clear q260
                    obtain ⟨x5_3, x24_3, rfl, rfl, HA, HK3, ⟨m3, rfl⟩⟩ := hrel
                    cases gk with
                    | zero => exact absurd HA.out (by simp [heap_CheckGraph.l1])
                    | succ k3 =>
                      have H := HA.out
                      clear HA
                      simp only [heap_CheckGraph.l1] at H
                      by_cases c8 : x24_3 < ((rd_L2 l0 x18_2).length : Int)
                      · rw [if_pos c8] at H
                        have c8b0 : decide (x24_3 < ((rd_L2 l0 x18_2).length : Int)) = true := decide_eq_true c8
                        clear c8
                        by_cases c9 : 0 ≤ x24_3
                        · rw [if_pos c9] at H
                          have c9b0 : decide (0 ≤ x24_3) = true := decide_eq_true c9
                          clear c9
                          by_cases c10 : x24_3 < ((rd_L2 l0 x18_2).length : Int)
                          · rw [if_pos c10] at H
                            have c10b0 : decide (x24_3 < ((rd_L2 l0 x18_2).length : Int)) = true := decide_eq_true c10
                            clear c10
                            by_cases c11 : (rd (rd_L2 l0 x18_2) x24_3) ≤ x5_3
                            · rw [if_pos c11] at H
                              have c11b0 : decide ((rd (rd_L2 l0 x18_2) x24_3) ≤ x5_3) = true := decide_eq_true c11
                              clear c11
                              obtain rfl := Option.some.inj H
                              have p261 : 0 ≤ (x24_3 : Int) := of_decide_eq_true (by first | (with_reducible assumption) | assumption)
                              have q261 : x24_3 < ((rd_L2 l0 x18_2).length : Int) := of_decide_eq_true (by first | (with_reducible assumption) | assumption)
                              obtain ⟨ad261, e261, hx261_0⟩ := Kd.at_int HR260_0.out x24_3 p261 q261
                              cases e261
                              replace p261 := eq_true p261
                              replace q261 := eq_true q261
                              go_wp2
                              go_ret
                              exact ⟨by first | rfl | (simp; done) | (simp [*]; done), by repeat (first | exact Drawn0.refl _ | apply Drawn0.step)⟩
                            · rw [if_neg c11] at H
                              have c11b0 : decide ((rd (rd_L2 l0 x18_2) x24_3) ≤ x5_3) = false := decide_eq_false c11
                              clear c11
                              by_cases c12 : (rd (rd_L2 l0 x18_2) x24_3) ≥ (l0.length : Int)
                              · rw [if_pos c12] at H
                                have c12b0 : decide ((l0.length : Int) ≤ (rd (rd_L2 l0 x18_2) x24_3)) = true := decide_eq_true c12
                                clear c12
                                obtain rfl := Option.some.inj H
                                have p261 : 0 ≤ (x24_3 : Int) := of_decide_eq_true (by first | (with_reducible assumption) | assumption)
                                have q261 : x24_3 < ((rd_L2 l0 x18_2).length : Int) := of_decide_eq_true (by first | (with_reducible assumption) | assumption)
                                obtain ⟨ad261, e261, hx261_0⟩ := Kd.at_int HR260_0.out x24_3 p261 q261
                                cases e261
                                replace p261 := eq_true p261
                                replace q261 := eq_true q261
                                go_wp2
                                go_ret
                                exact ⟨by first | rfl | (simp; done) | (simp [*]; done), by repeat (first | exact Drawn0.refl _ | apply Drawn0.step)⟩
                              · rw [if_neg c12] at H
                                have c12b0 : decide ((l0.length : Int) ≤ (rd (rd_L2 l0 x18_2) x24_3)) = false := decide_eq_false c12
                                clear c12
                                have H' := Aside0.mk H
                                clear H
                                have p261 : 0 ≤ (x24_3 : Int) := of_decide_eq_true (by first | (with_reducible assumption) | assumption)
                                have q261 : x24_3 < ((rd_L2 l0 x18_2).length : Int) := of_decide_eq_true (by first | (with_reducible assumption) | assumption)
                                obtain ⟨ad261, e261, hx261_0⟩ := Kd.at_int HR260_0.out x24_3 p261 q261
                                cases e261
                                replace p261 := eq_true p261
                                replace q261 := eq_true q261
                                go_wp2
                                go_roundg k3
                                case measure => have := HJ1.out; have := HK2.out; have := HK3.out; omega
                                case rel => exact ⟨(rd (rd_L2 l0 x18_2) x24_3), (wrap64 (x24_3 + 1)), (by first | rfl | (simp; done) | (simp [*]; done)), (by first | rfl | (simp; done) | (simp [*]; done)), H', ⟨by have := HJ1.out; have := HK2.out; have := HK3.out; omega⟩, by repeat (first | exact Drawn0.refl _ | apply Drawn0.step)⟩
                          · rw [if_neg c10] at H
                            exact absurd H (by simp)
                        · rw [if_neg c9] at H
                          exact absurd H (by simp)
                      · rw [if_neg c8] at H
                        have c8b0 : decide (x24_3 < ((rd_L2 l0 x18_2).length : Int)) = false := decide_eq_false c8
                        clear c8
                        have H' := Aside0.mk H
                        clear H
                        go_wp2
                        go_roundg k3
                        case measure => have := HJ1.out; have := HK2.out; have := HK3.out; omega
                        case rel => exact ⟨(wrap64 (x18_2 + 1)), (by first | rfl | (simp; done) | (simp [*]; done)), H', ⟨by have := HJ1.out; have := HK2.out; have := HK3.out; omega⟩, by repeat (first | exact Drawn0.refl _ | apply Drawn0.step)⟩
                · rw [if_neg c7] at H
                  exact absurd H (by simp)
              · rw [if_neg c6] at H
                exact absurd H (by simp)
            · rw [if_neg c5] at H
              have c5b0 : decide (x18_2 < (l0.length : Int)) = false := decide_eq_false c5
              clear c5
              obtain rfl := Option.some.inj H
              go_wp2
              go_ret
              exact ⟨by first | rfl | (simp; done) | (simp [*]; done), by repeat (first | exact Drawn0.refl _ | apply Drawn0.step)⟩

end Go.Proofs.YtkfbdhlfajdpgaaGreatDoor.PHeapMoves
namespace Go.Proofs.YtkfbdhlfajdpgaaGreatDoor.PHeapMoves
open Go.RowKit Go.Proofs.YtkfbdhlfajdpgaaGreatDoorW.PrintWords Go.Proofs.YtkfbdhlfajdpgaaGreatDoorW.PrintLast Go.Proofs.YtkfbdhlfajdpgaaGreatDoorW.PrintMore
attribute [local go_sem] max2_int min2_int max_two min_two max_three min_three max_four min_four   -- for this text's walks alone
set_option linter.unusedVariables false
set_option linter.unusedSimpArgs false

attribute [local go_sem high] eqA75
/-! ### heap_outcomes: function 47 -/
mutual
def heap_outcomes.l0 : Nat → List (List Int) → List (S75) → Int → Int → Option ((List (S75)))
  | 0, _, _, _, _ => none
  | k + 1, x0, x3, x24, x25 => if x25 < x24 then (if 0 ≤ x25 then (if x25 < (x3.length : Int) then (heap_outcomes.l0 k x0 (x3.set (x25 : Int).toNat (⟨2, 0⟩ : S75)) x24 (wrap64 (x25 + 1))) else (none)) else (none)) else (heap_outcomes.l1 k x0 x3 0)
def heap_outcomes.l1 : Nat → List (List Int) → List (S75) → Int → Option ((List (S75)))
  | 0, _, _, _ => none
  | k + 1, x0, x3, x5 => if x5 ≤ (x0.length : Int) then (heap_outcomes.l2 k x0 x3 x5 ([] : List Int) x0 (x0.length : Int) 0) else (some x3)
def heap_outcomes.l2 : Nat → List (List Int) → List (S75) → Int → List Int → List (List Int) → Int → Int → Option ((List (S75)))
  | 0, _, _, _, _, _, _, _ => none
  | k + 1, x0, x3, x5, x6, x39, x40, x41 => if x41 < x40 then (if 0 ≤ x41 then (if x41 < (x39.length : Int) then (if x41 < (x3.length : Int) then (if ((rd_T75 x3 x41).f0) = 2 then (heap_outcomes.l3 k x0 x3 x5 x6 x41 (rd_L2 x39 x41) false x39 x40 x41 (rd_L2 x39 x41) ((rd_L2 x39 x41).length : Int) 0) else (heap_outcomes.l2 k x0 x3 x5 x6 x39 x40 (wrap64 (x41 + 1)))) else (none)) else (none)) else (none)) else (heap_outcomes.l5 k x0 x3 x5 x6 (x6.length : Int) 0)
def heap_outcomes.l3 : Nat → List (List Int) → List (S75) → Int → List Int → Int → List Int → Bool → List (List Int) → Int → Int → List Int → Int → Int → Option ((List (S75)))
  | 0, _, _, _, _, _, _, _, _, _, _, _, _, _ => none
  | k + 1, x0, x3, x5, x6, x7, x8, x9, x39, x40, x41, x52, x53, x54 => if x54 < x53 then (if 0 ≤ x54 then (if x54 < (x52.length : Int) then (if x9 = true then (heap_outcomes.l3 k x0 x3 x5 x6 x7 x8 true x39 x40 x41 x52 x53 (wrap64 (x54 + 1))) else (if 0 ≤ (rd x52 x54) then (if (rd x52 x54) < (x3.length : Int) then (if ((rd_T75 x3 (rd x52 x54)).f0) = 0 then (heap_outcomes.l3 k x0 x3 x5 x6 x7 x8 (((rd_T75 x3 (rd x52 x54)).f1) == (wrap64 (x5 - 1))) x39 x40 x41 x52 x53 (wrap64 (x54 + 1))) else (heap_outcomes.l3 k x0 x3 x5 x6 x7 x8 false x39 x40 x41 x52 x53 (wrap64 (x54 + 1)))) else (none)) else (none))) else (none)) else (none)) else (if x9 = true then (if x6.length < 17592186044416 then (heap_outcomes.l2 k x0 x3 x5 (x6 ++ [x7]) x39 x40 (wrap64 (x41 + 1))) else (none)) else (heap_outcomes.l4 k x0 x3 x5 x6 x7 (-1) x39 x40 x41 x8 (x8.length : Int) 0))
def heap_outcomes.l4 : Nat → List (List Int) → List (S75) → Int → List Int → Int → Int → List (List Int) → Int → Int → List Int → Int → Int → Option ((List (S75)))
  | 0, _, _, _, _, _, _, _, _, _, _, _, _ => none
  | k + 1, x0, x3, x5, x6, x7, x12, x39, x40, x41, x83, x84, x85 => if x85 < x84 then (if 0 ≤ x85 then (if x85 < (x83.length : Int) then (if 0 ≤ (rd x83 x85) then (if (rd x83 x85) < (x3.length : Int) then (if ((rd_T75 x3 (rd x83 x85)).f0) = 1 then (heap_outcomes.l4 k x0 x3 x5 x6 x7 (mx x12 ((rd_T75 x3 (rd x83 x85)).f1)) x39 x40 x41 x83 x84 (wrap64 (x85 + 1))) else (heap_outcomes.l2 k x0 x3 x5 x6 x39 x40 (wrap64 (x41 + 1)))) else (none)) else (none)) else (none)) else (none)) else (if x12 = (wrap64 (x5 - 1)) then (if x6.length < 17592186044416 then (heap_outcomes.l2 k x0 x3 x5 (x6 ++ [x7]) x39 x40 (wrap64 (x41 + 1))) else (none)) else (heap_outcomes.l2 k x0 x3 x5 x6 x39 x40 (wrap64 (x41 + 1))))
def heap_outcomes.l5 : Nat → List (List Int) → List (S75) → Int → List Int → Int → Int → Option ((List (S75)))
  | 0, _, _, _, _, _, _ => none
  | k + 1, x0, x3, x5, x112, x113, x114 => if x114 < x113 then (if 0 ≤ x114 then (if x114 < (x112.length : Int) then (if 0 ≤ (rd x112 x114) then (if (rd x112 x114) < (x0.length : Int) then (heap_outcomes.l6 k x0 x3 x5 (rd x112 x114) 0 x112 x113 x114 (rd_L2 x0 (rd x112 x114)) ((rd_L2 x0 (rd x112 x114)).length : Int) 0) else (none)) else (none)) else (none)) else (none)) else (heap_outcomes.l1 k x0 x3 (wrap64 (x5 + 1)))
def heap_outcomes.l6 : Nat → List (List Int) → List (S75) → Int → Int → Int → List Int → Int → Int → List Int → Int → Int → Option ((List (S75)))
  | 0, _, _, _, _, _, _, _, _, _, _, _ => none
  | k + 1, x0, x3, x5, x16, x17, x112, x113, x114, x121, x122, x123 => if x123 < x122 then (if 0 ≤ x123 then (if x123 < (x121.length : Int) then (if 0 ≤ (rd x121 x123) then (if (rd x121 x123) < (x3.length : Int) then (if (((rd_T75 x3 (rd x121 x123)).f0) == 0 && (((rd_T75 x3 (rd x121 x123)).f1) == (wrap64 (x5 - 1)))) = true then (heap_outcomes.l6 k x0 x3 x5 x16 1 x112 x113 x114 x121 x122 (wrap64 (x123 + 1))) else (heap_outcomes.l6 k x0 x3 x5 x16 x17 x112 x113 x114 x121 x122 (wrap64 (x123 + 1)))) else (none)) else (none)) else (none)) else (none)) else (if 0 ≤ x16 then (if x16 < (x3.length : Int) then (heap_outcomes.l5 k x0 (x3.set (x16 : Int).toNat (⟨x17, x5⟩ : S75)) x5 x112 x113 (wrap64 (x114 + 1))) else (none)) else (none))
end
def heap_outcomes.f (k : Nat) (l0 : List (List Int)) : Option ((List (S75))) := if 0 ≤ (l0.length : Int) then (if ((l0.length : Int) : Int).toNat ≤ 17592186044416 then ((some (List.replicate ((l0.length : Int) : Int).toNat z75 : List (S75))).bind fun y262 => (heap_outcomes.l0 k l0 y262 (y262.length : Int) 0)) else (none)) else (none)
theorem heap_outcomes.mono_l : ∀ k, (∀ y0 y1 y2 y3, LeO (heap_outcomes.l0 k y0 y1 y2 y3) (heap_outcomes.l0 (k + 1) y0 y1 y2 y3)) ∧ (∀ y0 y1 y2, LeO (heap_outcomes.l1 k y0 y1 y2) (heap_outcomes.l1 (k + 1) y0 y1 y2)) ∧ (∀ y0 y1 y2 y3 y4 y5 y6, LeO (heap_outcomes.l2 k y0 y1 y2 y3 y4 y5 y6) (heap_outcomes.l2 (k + 1) y0 y1 y2 y3 y4 y5 y6)) ∧ (∀ y0 y1 y2 y3 y4 y5 y6 y7 y8 y9 y10 y11 y12, LeO (heap_outcomes.l3 k y0 y1 y2 y3 y4 y5 y6 y7 y8 y9 y10 y11 y12) (heap_outcomes.l3 (k + 1) y0 y1 y2 y3 y4 y5 y6 y7 y8 y9 y10 y11 y12)) ∧ (∀ y0 y1 y2 y3 y4 y5 y6 y7 y8 y9 y10 y11, LeO (heap_outcomes.l4 k y0 y1 y2 y3 y4 y5 y6 y7 y8 y9 y10 y11) (heap_outcomes.l4 (k + 1) y0 y1 y2 y3 y4 y5 y6 y7 y8 y9 y10 y11)) ∧ (∀ y0 y1 y2 y3 y4 y5, LeO (heap_outcomes.l5 k y0 y1 y2 y3 y4 y5) (heap_outcomes.l5 (k + 1) y0 y1 y2 y3 y4 y5)) ∧ (∀ y0 y1 y2 y3 y4 y5 y6 y7 y8 y9 y10, LeO (heap_outcomes.l6 k y0 y1 y2 y3 y4 y5 y6 y7 y8 y9 y10) (heap_outcomes.l6 (k + 1) y0 y1 y2 y3 y4 y5 y6 y7 y8 y9 y10))
  | 0 => ⟨fun _ _ _ _ r h => by simp [heap_outcomes.l0] at h, fun _ _ _ r h => by simp [heap_outcomes.l1] at h, fun _ _ _ _ _ _ _ r h => by simp [heap_outcomes.l2] at h, fun _ _ _ _ _ _ _ _ _ _ _ _ _ r h => by simp [heap_outcomes.l3] at h, fun _ _ _ _ _ _ _ _ _ _ _ _ r h => by simp [heap_outcomes.l4] at h, fun _ _ _ _ _ _ r h => by simp [heap_outcomes.l5] at h, fun _ _ _ _ _ _ _ _ _ _ _ r h => by simp [heap_outcomes.l6] at h⟩
  | k + 1 => by
    obtain ⟨ih0, ih1, ih2, ih3, ih4, ih5, ih6⟩ := heap_outcomes.mono_l k
    refine ⟨?_, ?_, ?_, ?_, ?_, ?_, ?_⟩
    · intro y0 y1 y2 y3
      unfold heap_outcomes.l0
      repeat' first
      | (with_reducible exact ih0 _ _ _ _)
      | (with_reducible exact ih1 _ _ _)
      | (with_reducible exact ih2 _ _ _ _ _ _ _)
      | (with_reducible exact ih3 _ _ _ _ _ _ _ _ _ _ _ _ _)
      | (with_reducible exact ih4 _ _ _ _ _ _ _ _ _ _ _ _)
      | (with_reducible exact ih5 _ _ _ _ _ _)
      | (with_reducible exact ih6 _ _ _ _ _ _ _ _ _ _ _)
      | (with_reducible exact LeO.refl _)
      | (with_reducible exact LeO.none _)
      | (with_reducible refine LeO.ite ?_ ?_)
      | (with_reducible refine LeO.bind ?_ (fun _ => ?_))
      | exact ih0 _ _ _ _
      | exact ih1 _ _ _
      | exact ih2 _ _ _ _ _ _ _
      | exact ih3 _ _ _ _ _ _ _ _ _ _ _ _ _
      | exact ih4 _ _ _ _ _ _ _ _ _ _ _ _
      | exact ih5 _ _ _ _ _ _
      | exact ih6 _ _ _ _ _ _ _ _ _ _ _
      | exact LeO.none _
      | refine LeO.ite ?_ ?_
      | refine LeO.bind ?_ (fun _ => ?_)
    · intro y0 y1 y2
      unfold heap_outcomes.l1
      repeat' first
      | (with_reducible exact ih0 _ _ _ _)
      | (with_reducible exact ih1 _ _ _)
      | (with_reducible exact ih2 _ _ _ _ _ _ _)
      | (with_reducible exact ih3 _ _ _ _ _ _ _ _ _ _ _ _ _)
      | (with_reducible exact ih4 _ _ _ _ _ _ _ _ _ _ _ _)
      | (with_reducible exact ih5 _ _ _ _ _ _)
      | (with_reducible exact ih6 _ _ _ _ _ _ _ _ _ _ _)
      | (with_reducible exact LeO.refl _)
      | (with_reducible exact LeO.none _)
      | (with_reducible refine LeO.ite ?_ ?_)
      | (with_reducible refine LeO.bind ?_ (fun _ => ?_))
      | exact ih0 _ _ _ _
      | exact ih1 _ _ _
      | exact ih2 _ _ _ _ _ _ _
      | exact ih3 _ _ _ _ _ _ _ _ _ _ _ _ _
      | exact ih4 _ _ _ _ _ _ _ _ _ _ _ _
      | exact ih5 _ _ _ _ _ _
      | exact ih6 _ _ _ _ _ _ _ _ _ _ _
      | exact LeO.none _
      | refine LeO.ite ?_ ?_
      | refine LeO.bind ?_ (fun _ => ?_)
    · intro y0 y1 y2 y3 y4 y5 y6
      unfold heap_outcomes.l2
      repeat' first
      | (with_reducible exact ih0 _ _ _ _)
      | (with_reducible exact ih1 _ _ _)
      | (with_reducible exact ih2 _ _ _ _ _ _ _)
      | (with_reducible exact ih3 _ _ _ _ _ _ _ _ _ _ _ _ _)
      | (with_reducible exact ih4 _ _ _ _ _ _ _ _ _ _ _ _)
      | (with_reducible exact ih5 _ _ _ _ _ _)
      | (with_reducible exact ih6 _ _ _ _ _ _ _ _ _ _ _)
      | (with_reducible exact LeO.refl _)
      | (with_reducible exact LeO.none _)
      | (with_reducible refine LeO.ite ?_ ?_)
      | (with_reducible refine LeO.bind ?_ (fun _ => ?_))
      | exact ih0 _ _ _ _
      | exact ih1 _ _ _
      | exact ih2 _ _ _ _ _ _ _
      | exact ih3 _ _ _ _ _ _ _ _ _ _ _ _ _
      | exact ih4 _ _ _ _ _ _ _ _ _ _ _ _
      | exact ih5 _ _ _ _ _ _
      | exact ih6 _ _ _ _ _ _ _ _ _ _ _
      | exact LeO.none _
      | refine LeO.ite ?_ ?_
      | refine LeO.bind ?_ (fun _ => ?_)
    · intro y0 y1 y2 y3 y4 y5 y6 y7 y8 y9 y10 y11 y12
      unfold heap_outcomes.l3
      repeat' first
      | (with_reducible exact ih0 _ _ _ _)
      | (with_reducible exact ih1 _ _ _)
      | (with_reducible exact ih2 _ _ _ _ _ _ _)
      | (with_reducible exact ih3 _ _ _ _ _ _ _ _ _ _ _ _ _)
      | (with_reducible exact ih4 _ _ _ _ _ _ _ _ _ _ _ _)
      | (with_reducible exact ih5 _ _ _ _ _ _)
      | (with_reducible exact ih6 _ _ _ _ _ _ _ _ _ _ _)
      | (with_reducible exact LeO.refl _)
      | (with_reducible exact LeO.none _)
      | (with_reducible refine LeO.ite ?_ ?_)
      | (with_reducible refine LeO.bind ?_ (fun _ => ?_))
      | exact ih0 _ _ _ _
      | exact ih1 _ _ _
      | exact ih2 _ _ _ _ _ _ _
      | exact ih3 _ _ _ _ _ _ _ _ _ _ _ _ _
      | exact ih4 _ _ _ _ _ _ _ _ _ _ _ _
      | exact ih5 _ _ _ _ _ _
      | exact ih6 _ _ _ _ _ _ _ _ _ _ _
      | exact LeO.none _
      | refine LeO.ite ?_ ?_
      | refine LeO.bind ?_ (fun _ => ?_)
    · intro y0 y1 y2 y3 y4 y5 y6 y7 y8 y9 y10 y11
      unfold heap_outcomes.l4
      repeat' first
      | (with_reducible exact ih0 _ _ _ _)
      | (with_reducible exact ih1 _ _ _)
      | (with_reducible exact ih2 _ _ _ _ _ _ _)
      | (with_reducible exact ih3 _ _ _ _ _ _ _ _ _ _ _ _ _)
      | (with_reducible exact ih4 _ _ _ _ _ _ _ _ _ _ _ _)
      | (with_reducible exact ih5 _ _ _ _ _ _)
      | (with_reducible exact ih6 _ _ _ _ _ _ _ _ _ _ _)
      | (with_reducible exact LeO.refl _)
      | (with_reducible exact LeO.none _)
      | (with_reducible refine LeO.ite ?_ ?_)
      | (with_reducible refine LeO.bind ?_ (fun _ => ?_))
      | exact ih0 _ _ _ _
      | exact ih1 _ _ _
      | exact ih2 _ _ _ _ _ _ _
      | exact ih3 _ _ _ _ _ _ _ _ _ _ _ _ _
      | exact ih4 _ _ _ _ _ _ _ _ _ _ _ _
      | exact ih5 _ _ _ _ _ _
      | exact ih6 _ _ _ _ _ _ _ _ _ _ _
      | exact LeO.none _
      | refine LeO.ite ?_ ?_
      | refine LeO.bind ?_ (fun _ => ?_)
    · intro y0 y1 y2 y3 y4 y5
      unfold heap_outcomes.l5
      repeat' first
      | (with_reducible exact ih0 _ _ _ _)
      | (with_reducible exact ih1 _ _ _)
      | (with_reducible exact ih2 _ _ _ _ _ _ _)
      | (with_reducible exact ih3 _ _ _ _ _ _ _ _ _ _ _ _ _)
      | (with_reducible exact ih4 _ _ _ _ _ _ _ _ _ _ _ _)
      | (with_reducible exact ih5 _ _ _ _ _ _)
      | (with_reducible exact ih6 _ _ _ _ _ _ _ _ _ _ _)
      | (with_reducible exact LeO.refl _)
      | (with_reducible exact LeO.none _)
      | (with_reducible refine LeO.ite ?_ ?_)
      | (with_reducible refine LeO.bind ?_ (fun _ => ?_))
      | exact ih0 _ _ _ _
      | exact ih1 _ _ _
      | exact ih2 _ _ _ _ _ _ _
      | exact ih3 _ _ _ _ _ _ _ _ _ _ _ _ _
      | exact ih4 _ _ _ _ _ _ _ _ _ _ _ _
      | exact ih5 _ _ _ _ _ _
      | exact ih6 _ _ _ _ _ _ _ _ _ _ _
      | exact LeO.none _
      | refine LeO.ite ?_ ?_
      | refine LeO.bind ?_ (fun _ => ?_)
    · intro y0 y1 y2 y3 y4 y5 y6 y7 y8 y9 y10
      unfold heap_outcomes.l6
      repeat' first
      | (with_reducible exact ih0 _ _ _ _)
      | (with_reducible exact ih1 _ _ _)
      | (with_reducible exact ih2 _ _ _ _ _ _ _)
      | (with_reducible exact ih3 _ _ _ _ _ _ _ _ _ _ _ _ _)
      | (with_reducible exact ih4 _ _ _ _ _ _ _ _ _ _ _ _)
      | (with_reducible exact ih5 _ _ _ _ _ _)
      | (with_reducible exact ih6 _ _ _ _ _ _ _ _ _ _ _)
      | (with_reducible exact LeO.refl _)
      | (with_reducible exact LeO.none _)
      | (with_reducible refine LeO.ite ?_ ?_)
      | (with_reducible refine LeO.bind ?_ (fun _ => ?_))
      | exact ih0 _ _ _ _
      | exact ih1 _ _ _
      | exact ih2 _ _ _ _ _ _ _
      | exact ih3 _ _ _ _ _ _ _ _ _ _ _ _ _
      | exact ih4 _ _ _ _ _ _ _ _ _ _ _ _
      | exact ih5 _ _ _ _ _ _
      | exact ih6 _ _ _ _ _ _ _ _ _ _ _
      | exact LeO.none _
      | refine LeO.ite ?_ ?_
      | refine LeO.bind ?_ (fun _ => ?_)
theorem heap_outcomes.mono : ∀ a0 k, LeO (heap_outcomes.f k a0) (heap_outcomes.f (k + 1) a0) := by
  intro a0 k
  obtain ⟨ih0, ih1, ih2, ih3, ih4, ih5, ih6⟩ := heap_outcomes.mono_l k
  unfold heap_outcomes.f
  repeat' first
      | (with_reducible exact ih0 _ _ _ _)
      | (with_reducible exact ih1 _ _ _)
      | (with_reducible exact ih2 _ _ _ _ _ _ _)
      | (with_reducible exact ih3 _ _ _ _ _ _ _ _ _ _ _ _ _)
      | (with_reducible exact ih4 _ _ _ _ _ _ _ _ _ _ _ _)
      | (with_reducible exact ih5 _ _ _ _ _ _)
      | (with_reducible exact ih6 _ _ _ _ _ _ _ _ _ _ _)
      | (with_reducible exact LeO.refl _)
      | (with_reducible exact LeO.none _)
      | (with_reducible refine LeO.ite ?_ ?_)
      | (with_reducible refine LeO.bind ?_ (fun _ => ?_))
      | exact ih0 _ _ _ _
      | exact ih1 _ _ _
      | exact ih2 _ _ _ _ _ _ _
      | exact ih3 _ _ _ _ _ _ _ _ _ _ _ _ _
      | exact ih4 _ _ _ _ _ _ _ _ _ _ _ _
      | exact ih5 _ _ _ _ _ _
      | exact ih6 _ _ _ _ _ _ _ _ _ _ _
      | exact LeO.none _
      | refine LeO.ite ?_ ?_
      | refine LeO.bind ?_ (fun _ => ?_)
set_option maxHeartbeats 8000000 in
set_option maxRecDepth 100000 in
theorem heap_outcomes.calls (k : Nat) (A0 : Option Addr) (c0 : Nat) (l0 : List (List Int)) (r : List (S75)) (w : World) (hr0 : Kd.C (Kd.slice 3 (Kd.int .i64)) w A0 l0.length l0) (hc0 : l0.length ≤ c0) (h : heap_outcomes.f k l0 = some r) :
    Calls Tryz.prog 47 #[.slice A0 l0.length c0] w fun e w' => ∃ v0_ : Value, e = .returned (v0_) ∧ Kd.R k75 75 w' w.heap.size (fun _ => True) v0_ r ∧ Below w.heap.size w w' := by
  have hu75 := Tryz.underlying75
  have HR0 := Aside0.mk hr0
  have HC0 := Aside0.mk hc0
  clear hr0 hc0
  have HB := Aside0.mk (Below.refl w.heap.size w)
  have H : (if 0 ≤ (l0.length : Int) then (if ((l0.length : Int) : Int).toNat ≤ 17592186044416 then ((some (List.replicate ((l0.length : Int) : Int).toNat z75 : List (S75))).bind fun y262 => (heap_outcomes.l0 k l0 y262 (y262.length : Int) 0)) else (none)) else (none)) = some r := h
  clear h
  by_cases c2 : 0 ≤ (l0.length : Int)
  · rw [if_pos c2] at H
    have c2b0 := eq_true c2
    have c2b1 : decide (0 ≤ (l0.length : Int)) = true := decide_eq_true c2
    (try rw [hl266_0] at c2b1); (try rw [hl281_0] at c2b1); (try rw [hl3_1] at c2b1); (try rw [hl3_2] at c2b1); (try rw [hl3_4] at c2b1)
    clear c2
    by_cases c3 : ((l0.length : Int) : Int).toNat ≤ 17592186044416
    · rw [if_pos c3] at H
      have c3b0 := eq_true c3
      have c3b1 : decide (((l0.length : Int) : Int).toNat ≤ 17592186044416) = true := decide_eq_true c3
      (try rw [hl266_0] at c3b1); (try rw [hl281_0] at c3b1); (try rw [hl3_1] at c3b1); (try rw [hl3_2] at c3b1); (try rw [hl3_4] at c3b1)
      clear c3
      obtain ⟨y262, hy262⟩ : ∃ y_ : List (S75), y_ = (List.replicate ((l0.length : Int) : Int).toNat z75) := ⟨_, rfl⟩
      replace H : (heap_outcomes.l0 k l0 y262 (y262.length : Int) 0) = some r := by first | (rw [hy262]; with_reducible exact H) | (have H2_ := (Option.bind_some _ _).symm.trans H; rw [hy262]; with_reducible exact H2_) | (have H2_ := (Option.bind_some _ _).symm.trans H; with_reducible exact H2_) | with_reducible exact H | (rw [hy262]; exact H) | exact H
      have Ny262 := Aside0.mk hy262
      clear hy262
      have H' := Aside0.mk H
      clear H
      go_enter Tryz.func47, Tryz.ntmps47
      go_wp2_with (first | ((with_reducible refine gate_dst (N := 22) rfl ?_); refine Kd.R_make k75 _ 75 rfl (N := 22) rfl 72 _ _ rfl (l0.length : Int) rfl rfl Tryz.underlying72 (.agg #[(.int .i64 0), (.int .i64 0)]) 16 info75 rfl (by decide) (by omega) z75 (ok := fun _ => True) (okp := fun _ => True) (k75_mkM _ _ _ z75 ) (fun _ hk => hk) trivial (of_decide_eq_true (by first | (with_reducible assumption) | assumption)) (Nat.le_trans (Nat.mul_le_mul_right _ (of_decide_eq_true (by first | (with_reducible assumption) | assumption) : (l0.length : Int).toNat ≤ 17592186044416)) (by omega)) (Below.refl _ _) (Nat.le_refl _) ?_; intro v263 w4 ho5 hb hg_ hnew_; clear hg_ hnew_; (first | rw [← Ny262.out] at ho5 | (simp only [Int.reduceToNat] at ho5; rw [← Ny262.out] at ho5)); have n0_ := Aside0.mk (Kd.R_lower ho5 (below_size (by repeat (first | (with_reducible first | exact HB.out | apply below_alloc | apply pw_below_drewN | apply below_drew1) | exact HB.out)))); have n1_ := Aside0.mk (below_step (by repeat (first | (with_reducible first | exact HB.out | apply below_alloc | apply pw_below_drewN | apply below_drew1) | exact HB.out)) hb); clear HB; have HO264 := n0_; have HB := n1_; clear n0_ n1_; clear hb ho5; obtain ⟨Ao6, co6, eo6⟩ := Kd.R_slice HO264.out; subst eo6))
      (try go_step3); (try go_wp2); (try go_step3); (try go_wp2)
      go_loopg [25] k (fun kq v25 w' => ∃ (x3_1 : List (S75)) (x25_1 : Int), v25 = .int .i64 x25_1 ∧ Aside0 (heap_outcomes.l0 kq l0 x3_1 (y262.length : Int) x25_1 = some r) ∧ Aside0 (kq ≤ k) ∧ Aside0 (Kd.R k75 75 w' w.heap.size (fun _ => True) (.slice Ao6 y262.length co6) x3_1) ∧ Aside0 (Below w.heap.size w w'))
      case atStart => exact ⟨(y262), (0), (by first | rfl | (simp; done) | (simp [*]; done)), H', ⟨Nat.le_refl _⟩, ⟨by (with_reducible repeat (first | apply Kd.R_alloc | apply Kd.R_drewN | apply Kd.R_drew)); exact HO264.out⟩, ⟨by repeat (first | (with_reducible first | exact HB.out | apply below_alloc | apply pw_below_drewN | apply below_drew1) | exact HB.out)⟩⟩
      case round =>
        clear H'
        try clear c2
        try clear c2b0
        try clear c2b1
        try clear p2
        try clear c3
        try clear c3b0
        try clear c3b1
        try clear c4
        obtain ⟨x3_1, x25_1, rfl, HA, HK1, HO_3, HB⟩ := hrel
        have hl3_1 := (Kd.R_reads' HO_3.out).1
        rw [hl3_1] at HO_3
        (try simp only [hl3_1])
        cases gk with
        | zero => exact absurd HA.out (by simp [heap_outcomes.l0])
        | succ k1 =>
          have H := HA.out
          clear HA
          simp only [heap_outcomes.l0] at H
          by_cases c7 : x25_1 < (y262.length : Int)
          · rw [if_pos c7] at H
            have c7b0 : decide (x25_1 < (y262.length : Int)) = true := decide_eq_true c7
            (try rw [hl266_0] at c7b0); (try rw [hl281_0] at c7b0); (try rw [hl3_1] at c7b0); (try rw [hl3_2] at c7b0); (try rw [hl3_4] at c7b0)
            clear c7
            by_cases c8 : 0 ≤ x25_1
            · rw [if_pos c8] at H
              have c8b0 : decide (0 ≤ x25_1) = true := decide_eq_true c8
              clear c8
              by_cases c9 : x25_1 < (x3_1.length : Int)
              · rw [if_pos c9] at H
                have c9b0 : decide (x25_1 < (x3_1.length : Int)) = true := decide_eq_true c9
                (try rw [hl266_0] at c9b0); (try rw [hl281_0] at c9b0); (try rw [hl3_1] at c9b0); (try rw [hl3_2] at c9b0); (try rw [hl3_4] at c9b0)
                clear c9
                obtain ⟨y265, hy265⟩ : ∃ y_ : List (S75), y_ = (x3_1.set (x25_1 : Int).toNat (⟨2, 0⟩ : S75)) := ⟨_, rfl⟩
                replace H : (heap_outcomes.l0 k1 l0 y265 (y262.length : Int) (wrap64 (x25_1 + 1))) = some r := by first | (rw [hy265]; with_reducible exact H) | (have H2_ := (Option.bind_some _ _).symm.trans H; rw [hy265]; with_reducible exact H2_) | (have H2_ := (Option.bind_some _ _).symm.trans H; with_reducible exact H2_) | with_reducible exact H | (rw [hy265]; exact H) | exact H
                have Ny265 := Aside0.mk hy265
                clear hy265
                have H' := Aside0.mk H
                clear H
                have p10 : 0 ≤ (x25_1 : Int) := of_decide_eq_true (by first | (with_reducible assumption) | assumption)
                have q10 : (x25_1 : Int) < ((x3_1.length : Int) : Int) := of_decide_eq_true (by first | (with_reducible assumption) | assumption)
                obtain ⟨go10, co10, eo10, gb10, gl10, cl10, HG10⟩ := Kd.R_form HO_3.out (by omega)
                (first | cases eo10 | (injection eo10 with ea_ en_ ec_; (first | subst ea_ | (injection ea_ with ea_; subst ea_)); subst ec_; clear en_))
                have GB10 := Aside0.mk gb10
                have GG10 := Aside0.mk HG10
                clear gb10 gl10 HG10
                obtain ⟨ce10, hcl10, hM10, hcc10, hfr10⟩ := Kd.R_elem HO_3.out z75 (x25_1 : Int) p10 q10
                obtain rfl := k75_openM hM10
                have hx10_0 : wr.cell? ⟨go10, (x25_1 : Int).toNat * 2, none⟩ = some (.int .i64 ((rd_T75 x3_1 x25_1).f0)) := hcc10 0 _ rfl
                have hx10_1 : wr.cell? ⟨go10, (x25_1 : Int).toNat * 2 + 1, none⟩ = some (.int .i64 ((rd_T75 x3_1 x25_1).f1)) := hcc10 1 _ rfl
                have hf10_0 : wr.frozen? ⟨go10, (x25_1 : Int).toNat * 2, none⟩ = false := hfr10 0
                have hf10_1 : wr.frozen? ⟨go10, (x25_1 : Int).toNat * 2 + 1, none⟩ = false := hfr10 1
                clear hcl10 hcc10 hfr10 hM10
                replace p10 := eq_true p10
                replace q10 := eq_true q10
                have HX11 := Aside0.mk (show Kd.R k75 75 wr w.heap.size (fun _ => True) (.slice (some ⟨go10, 0, none⟩) x3_1.length co6) x3_1 from (by (with_reducible repeat (first | apply Kd.R_alloc | apply Kd.R_drewN | apply Kd.R_drew)); exact HO_3.out))
                obtain ⟨ce11, hcl11, hM11, hcc11, hfr11⟩ := Kd.R_elem HX11.out z75 (x25_1 : Int) (of_decide_eq_true (by first | (with_reducible assumption) | assumption)) (by have h_ : (x25_1 : Int) < ((x3_1.length : Int) : Int) := of_decide_eq_true (by first | (with_reducible assumption) | assumption); first | exact h_ | (have e_ := (Kd.R_reads' HO_3.out).1; omega) | simpa using h_)
                obtain rfl := k75_openM hM11
                have HP11 := Kd.R_seg HX11.out (x25_1 : Int) (of_decide_eq_true (by first | (with_reducible assumption) | assumption)) (by have h_ : (x25_1 : Int) < ((x3_1.length : Int) : Int) := of_decide_eq_true (by first | (with_reducible assumption) | assumption); first | exact h_ | (have e_ := (Kd.R_reads' HO_3.out).1; omega) | simpa using h_) (seg := [.int .i64 2, .int .i64 0]) (j := 0) hcl11 hcc11 (show 2 ≤ 2 from by decide) (x' := (⟨2, 0⟩ : S75)) (k75_mkM _ _ _ (⟨2, 0⟩ : S75) ) (fun _ hk => hk)
                have hx11_0 := hcc11 0 _ rfl
                (try simp only [show (k75).sz = 2 from rfl, Nat.mul_one, Nat.add_zero] at hx11_0)
                have hf11_0 := hfr11 0
                (try simp only [show (k75).sz = 2 from rfl, Nat.mul_one, Nat.add_zero] at hf11_0)
                have hx11_1 := hcc11 1 _ rfl
                (try simp only [show (k75).sz = 2 from rfl, Nat.mul_one, Nat.add_zero] at hx11_1)
                have hf11_1 := hfr11 1
                (try simp only [show (k75).sz = 2 from rfl, Nat.mul_one, Nat.add_zero] at hf11_1)
                clear hcl11 hcc11 hfr11 hM11
                go_wp2_with (first | ((with_reducible refine gate_store (t := 75) (p := 31) rfl ?_); refine store_event (t := 75) (p := 31) (v := ?vo_w12) (w1 := ((wr.setCell ⟨go10, (x25_1 : Int).toNat * 2, none⟩ (.int .i64 2)).setCell ⟨go10, (x25_1 : Int).toNat * 2 + 1, none⟩ (.int .i64 0))) ?hg ?ho ?hn ?hr ?_; (case ho => rfl); (case hg => rfl); (case hn => rfl); (case hr => first | (go_simp; done) | (go_simp; rfl)); intro w12 hw; have hg : wr.grownBy w12 (some go10) := (by rw [hw]; exact HP11.2); have hp_ : Kd.R k75 75 w12 w.heap.size (fun _ => True) (.slice (some ⟨go10, 0, none⟩) x3_1.length co6) y265 := (by rw [hw, Ny265.out]; exact HP11.1); clear HP11; have n0_ := Aside0.mk (hp_); have n1_ := Aside0.mk ((by rw [hw]; exact below_set (below_set (HB.out) GB10.out) GB10.out : Below w.heap.size w w12)); clear HO_3; clear HB; have HO_3 := n0_; have HB := n1_; clear n0_ n1_; clear hg hw hp_))
                (try simp only [← hl3_1])
                (try rw [Exit.noGoto_ret]); (try (rw [Exit.noGoto_normal]; try go_wp2)); (try (rw [Exit.noGoto_exit]; try go_wp2))
                go_roundg k1
                case measure => have := HK1.out; omega
                case rel => exact ⟨(y265), (wrap64 (x25_1 + 1)), (by first | rfl | (simp; done) | (simp [*]; done)), H', ⟨by have := HK1.out; omega⟩, ⟨by (try simp only [hl3_1]); (with_reducible repeat (first | apply Kd.R_alloc | apply Kd.R_drewN | apply Kd.R_drew)); exact HO_3.out⟩, ⟨by repeat (first | (with_reducible first | exact HB.out | apply below_alloc | apply pw_below_drewN | apply below_drew1) | exact HB.out)⟩⟩
              · rw [if_neg c9] at H
                exact absurd H (by simp)
            · rw [if_neg c8] at H
              exact absurd H (by simp)
          · rw [if_neg c7] at H
            have c7b0 : decide (x25_1 < (y262.length : Int)) = false := decide_eq_false c7
            (try rw [hl266_0] at c7b0); (try rw [hl281_0] at c7b0); (try rw [hl3_1] at c7b0); (try rw [hl3_2] at c7b0); (try rw [hl3_4] at c7b0)
            clear c7
            have H' := Aside0.mk H
            clear H
            go_wp2
            (try go_step3); (try go_wp2); (try go_step3); (try go_wp2)
            go_loopg [5] k1 (fun kq v5 w' => ∃ (x3_2 : List (S75)) (x5_2 : Int), v5 = .int .i64 x5_2 ∧ Aside0 (heap_outcomes.l1 kq l0 x3_2 x5_2 = some r) ∧ Aside0 (kq ≤ k1) ∧ Aside0 (Kd.R k75 75 w' w.heap.size (fun _ => True) (.slice Ao6 x3_1.length co6) x3_2) ∧ Aside0 (Below w.heap.size w w'))
            case atStart => exact ⟨(x3_1), (0), (by first | rfl | (simp; done) | (simp [*]; done)), H', ⟨Nat.le_refl _⟩, ⟨by (try simp only [hl3_1]); (with_reducible repeat (first | apply Kd.R_alloc | apply Kd.R_drewN | apply Kd.R_drew)); exact HO_3.out⟩, ⟨by repeat (first | (with_reducible first | exact HB.out | apply below_alloc | apply pw_below_drewN | apply below_drew1) | exact HB.out)⟩⟩
            case round =>
              clear H'
              try clear c1
              try clear p1
              try clear q1
              try clear hx1
              try clear hf1
              try clear c2
              try clear c2b0
              try clear c2b1
              try clear p2
              try clear c3
              try clear c3b0
              try clear c3b1
              try clear c4
              try clear p6
              try clear c7
              try clear c7b0
              try clear c8
              try clear c8b0
              try clear c9
              try clear c9b0
              try clear c10
              try clear p10
              try clear q10
              try clear hx10
              try clear hf10
              try clear c11
              try clear hx11
              try clear hf11
              try clear hx10_0
              try clear hx10_1
              try clear hx11_0
              try clear hx11_1
              try clear p10
              try clear p2
              try clear q10
              obtain ⟨x3_2, x5_2, rfl, HA, HK2, HO_3, HB⟩ := hrel
              have hl3_2 := (Kd.R_reads' HO_3.out).1
              rw [hl3_2] at HO_3
              (try simp only [hl3_2])
              cases gk with
              | zero => exact absurd HA.out (by simp [heap_outcomes.l1])
              | succ k2 =>
                have H := HA.out
                clear HA
                simp only [heap_outcomes.l1] at H
                by_cases c13 : x5_2 ≤ (l0.length : Int)
                · rw [if_pos c13] at H
                  have c13b0 : decide (x5_2 ≤ (l0.length : Int)) = true := decide_eq_true c13
                  (try rw [hl266_0] at c13b0); (try rw [hl281_0] at c13b0); (try rw [hl3_1] at c13b0); (try rw [hl3_2] at c13b0); (try rw [hl3_4] at c13b0)
                  clear c13
                  have H' := Aside0.mk H
                  clear H
                  go_wp2
                  (try go_step3); (try go_wp2); (try go_step3); (try go_wp2)
                  go_loopg [6, 41] k2 (fun kq v6 v41 w' => ∃ (x6_3 : List Int) (x41_3 : Int), v41 = .int .i64 x41_3 ∧ Aside0 (heap_outcomes.l2 kq l0 x3_2 x5_2 x6_3 l0 (l0.length : Int) x41_3 = some r) ∧ Aside0 (kq ≤ k2) ∧ Aside0 (Kd.R k75 75 w' w.heap.size (fun _ => True) (.slice Ao6 x3_2.length co6) x3_2) ∧ Aside0 (Kd.R (Kd.int .i64) 3 w' w.heap.size (fun _ => True) v6 x6_3) ∧ Aside0 (Below w.heap.size w w'))
                  case atStart => exact ⟨(([] : List Int)), (0), (by first | rfl | (simp; done) | (simp [*]; done)), H', ⟨Nat.le_refl _⟩, ⟨by (try simp only [hl3_1]); (try simp only [hl3_2]); (with_reducible repeat (first | apply Kd.R_alloc | apply Kd.R_drewN | apply Kd.R_drew)); exact HO_3.out⟩, ⟨by (try simp only [hl3_1]); (try simp only [hl3_2]); first | exact Kd.R_nil _ _ _ _ _ | exact Kd.N_nil _ _ _ _ _ | exact Kd.V_nil _ _ _ _ _ | exact Kd.Q_nil _ _ _ _ _ | exact Kd.S_nil _ _ _ _ _⟩, ⟨by repeat (first | (with_reducible first | exact HB.out | apply below_alloc | apply pw_below_drewN | apply below_drew1) | exact HB.out)⟩⟩
                  case round =>
                    clear H'
                    try clear c1
                    try clear p1
                    try clear q1
                    try clear hx1
                    try clear hf1
                    try clear c2
                    try clear c2b0
                    try clear c2b1
                    try clear p2
                    try clear c3
                    try clear c3b0
                    try clear c3b1
                    try clear c4
                    try clear p6
                    try clear c7
                    try clear c7b0
                    try clear c8
                    try clear c8b0
                    try clear c9
                    try clear c9b0
                    try clear c10
                    try clear p10
                    try clear q10
                    try clear hx10
                    try clear hf10
                    try clear c11
                    try clear hx11
                    try clear hf11
                    try clear c13
                    try clear c13b0
                    try clear hx10_0
                    try clear hx10_1
                    try clear hx11_0
                    try clear hx11_1
                    try clear p1
                    try clear p10
                    try clear p2
                    try clear p6
                    try clear q1
                    try clear q10
                    obtain ⟨x6_3, x41_3, rfl, HA, HK3, HO_3, HO_6, HB⟩ := hrel
                    cases gk with
                    | zero => exact absurd HA.out (by simp [heap_outcomes.l2])
                    | succ k3 =>
                      have H := HA.out
                      clear HA
                      simp only [heap_outcomes.l2] at H
                      by_cases c14 : x41_3 < (l0.length : Int)
                      · rw [if_pos c14] at H
                        have c14b0 : decide (x41_3 < (l0.length : Int)) = true := decide_eq_true c14
                        (try rw [hl266_0] at c14b0); (try rw [hl281_0] at c14b0); (try rw [hl3_1] at c14b0); (try rw [hl3_2] at c14b0); (try rw [hl3_4] at c14b0)
                        clear c14
                        by_cases c15 : 0 ≤ x41_3
                        · rw [if_pos c15] at H
                          have c15b0 : decide (0 ≤ x41_3) = true := decide_eq_true c15
                          clear c15
                          by_cases c16 : x41_3 < (l0.length : Int)
                          · rw [if_pos c16] at H
                            have c16b0 : decide (x41_3 < (l0.length : Int)) = true := decide_eq_true c16
                            (try rw [hl266_0] at c16b0); (try rw [hl281_0] at c16b0); (try rw [hl3_1] at c16b0); (try rw [hl3_2] at c16b0); (try rw [hl3_4] at c16b0)
                            clear c16
                            by_cases c17 : x41_3 < (x3_2.length : Int)
                            · rw [if_pos c17] at H
                              have c17b0 : decide (x41_3 < (x3_2.length : Int)) = true := decide_eq_true c17
                              (try rw [hl266_0] at c17b0); (try rw [hl281_0] at c17b0); (try rw [hl3_1] at c17b0); (try rw [hl3_2] at c17b0); (try rw [hl3_4] at c17b0)
                              clear c17
                              by_cases c18 : ((rd_T75 x3_2 x41_3).f0) = 2
                              · rw [if_pos c18] at H
                                have c18b0 : (((rd_T75 x3_2 x41_3).f0) == 2) = true := beq_iff_eq.mpr c18
                                have c18b1 : (((rd_T75 x3_2 x41_3).f0) != 2) = false := bne_eq_false_iff_eq.mpr c18
                                clear c18
                                have H' := Aside0.mk H
                                clear H
                                have p266 : 0 ≤ (x41_3 : Int) := of_decide_eq_true (by first | (with_reducible assumption) | assumption)
                                have q266 : x41_3 < (l0.length : Int) := of_decide_eq_true (by first | (with_reducible assumption) | assumption)
                                obtain ⟨ad266, A266_0, c266_0, e266, hx266_0, hl266_0, hi266_0⟩ := at_L2 HR0.out x41_3 p266 q266
                                cases e266
                                replace hx266_0 := (HB.out.cell (World.block_lt_of_cell? w _ hx266_0)).trans hx266_0
                                have HR266_0 := Aside0.mk hi266_0
                                have HC266_0 := Aside0.mk hl266_0
                                clear hi266_0 hl266_0
                                replace p266 := eq_true p266
                                replace q266 := eq_true q266
                                have p267 : 0 ≤ (x41_3 : Int) := of_decide_eq_true (by first | (with_reducible assumption) | assumption)
                                have q267 : x41_3 < (x3_2.length : Int) := of_decide_eq_true (by first | (with_reducible assumption) | assumption)
                                obtain ⟨ad267, e267, hx267_0, hx267_1⟩ := at_T75 (Kd.R_reads' HO_3.out).2.2 x41_3 p267 q267
                                cases e267
                                replace p267 := eq_true p267
                                replace q267 := eq_true q267
                                go_wp2
                                (try go_step3); (try go_wp2); (try go_step3); (try go_wp2)
                                go_loopg [9, 54] k3 (fun kq v9 v54 w' => ∃ (x9_4 : Bool) (x54_4 : Int), v9 = .bool x9_4 ∧ v54 = .int .i64 x54_4 ∧ Aside0 (heap_outcomes.l3 kq l0 x3_2 x5_2 x6_3 x41_3 (rd_L2 l0 x41_3) x9_4 l0 (l0.length : Int) x41_3 (rd_L2 l0 x41_3) ((rd_L2 l0 x41_3).length : Int) x54_4 = some r) ∧ Aside0 (kq ≤ k3) ∧ Aside0 (Kd.R k75 75 w' w.heap.size (fun _ => True) (.slice (some ad267) x3_2.length co6) x3_2) ∧ Aside0 (Kd.R (Kd.int .i64) 3 w' w.heap.size (fun _ => True) u6 x6_3) ∧ Aside0 (Below w.heap.size w w'))
                                case atStart => exact ⟨(false), (0), (by first | rfl | (simp; done) | (simp [*]; done)), (by first | rfl | (simp; done) | (simp [*]; done)), H', ⟨Nat.le_refl _⟩, ⟨by (try simp only [hl3_1]); (try simp only [hl3_2]); (with_reducible repeat (first | apply Kd.R_alloc | apply Kd.R_drewN | apply Kd.R_drew)); exact HO_3.out⟩, ⟨by (try simp only [hl3_1]); (try simp only [hl3_2]); (with_reducible repeat (first | apply Kd.R_alloc | apply Kd.R_drewN | apply Kd.R_drew)); exact HO_6.out⟩, ⟨by repeat (first | (with_reducible first | exact HB.out | apply below_alloc | apply pw_below_drewN | apply below_drew1) | exact HB.out)⟩⟩
                                case round =>
                                  clear H'
                                  try clear c1
                                  try clear p1
                                  try clear q1
                                  try clear hx1
                                  try clear hf1
                                  try clear c2
                                  try clear c2b0
                                  try clear c2b1
                                  try clear p2
                                  try clear q2
                                  try clear hx2
                                  try clear c3
                                  try clear c3b0
                                  try clear c3b1
                                  try clear c4
                                  try clear p6
                                  try clear c7
                                  try clear c7b0
                                  try clear c8
                                  try clear c8b0
                                  try clear c9
                                  try clear c9b0
                                  try clear c10
                                  try clear p10
                                  try clear q10
                                  try clear hx10
                                  try clear hf10
                                  try clear c11
                                  try clear hx11
                                  try clear hf11
                                  try clear c13
                                  try clear c13b0
                                  try clear c14
                                  try clear c14b0
                                  try clear c15
                                  try clear c15b0
                                  try clear c16
                                  try clear c16b0
                                  try clear c17
                                  try clear c17b0
                                  try clear c18
                                  try clear c18b0
                                  try clear c18b1
                                  try clear hx10_0
                                  try clear hx10_1
                                  try clear hx11_0
                                  try clear hx11_1
                                  try clear hx266_0
                                  try clear hx267_0
                                  try clear hx267_1
                                  try clear p1
                                  try clear p10
                                  try clear p2
                                  try clear p266
                                  try clear p267
                                  try clear p6
                                  try clear q1
                                  try clear q10
                                  try clear q266
                                  try clear q267
                                  obtain ⟨x9_4, x54_4, rfl, rfl, HA, HK4, HO_3, HO_6, HB⟩ := hrel
                                  cases gk with
                                  | zero => exact absurd HA.out (by simp [heap_outcomes.l3])
                                  | succ k4 =>
                                    have H := HA.out
                                    clear HA
                                    simp only [heap_outcomes.l3] at H
                                    by_cases c19 : x54_4 < ((rd_L2 l0 x41_3).length : Int)
                                    · rw [if_pos c19] at H
                                      have c19b0 : decide (x54_4 < ((rd_L2 l0 x41_3).length : Int)) = true := decide_eq_true c19
                                      (try rw [hl266_0] at c19b0); (try rw [hl281_0] at c19b0); (try rw [hl3_1] at c19b0); (try rw [hl3_2] at c19b0); (try rw [hl3_4] at c19b0)
                                      clear c19
                                      by_cases c20 : 0 ≤ x54_4
                                      · rw [if_pos c20] at H
                                        have c20b0 : decide (0 ≤ x54_4) = true := decide_eq_true c20
                                        clear c20
                                        by_cases c21 : x54_4 < ((rd_L2 l0 x41_3).length : Int)
                                        · rw [if_pos c21] at H
                                          have c21b0 : decide (x54_4 < ((rd_L2 l0 x41_3).length : Int)) = true := decide_eq_true c21
                                          (try rw [hl266_0] at c21b0); (try rw [hl281_0] at c21b0); (try rw [hl3_1] at c21b0); (try rw [hl3_2] at c21b0); (try rw [hl3_4] at c21b0)
                                          clear c21
                                          by_cases c22 : x9_4 = true
                                          · subst c22
                                            have H1 : (heap_outcomes.l3 k4 l0 x3_2 x5_2 x6_3 x41_3 (rd_L2 l0 x41_3) true l0 (l0.length : Int) x41_3 (rd_L2 l0 x41_3) ((rd_L2 l0 x41_3).length : Int) (wrap64 (x54_4 + 1))) = some r := by rw [if_pos rfl] at H; exact H
                                            clear H
                                            have H := H1
                                            clear H1
                                            have H' := Aside0.mk H
                                            clear H
                                            have p268 : 0 ≤ (x54_4 : Int) := of_decide_eq_true (by first | (with_reducible assumption) | assumption)
                                            have q268 : x54_4 < ((rd_L2 l0 x41_3).length : Int) := of_decide_eq_true (by first | (with_reducible assumption) | assumption)
                                            obtain ⟨ad268, e268, hx268_0⟩ := Kd.at_int HR266_0.out x54_4 p268 q268
                                            cases e268
                                            replace hx268_0 := (HB.out.cell (World.block_lt_of_cell? w _ hx268_0)).trans hx268_0
                                            replace p268 := eq_true p268
                                            replace q268 := eq_true q268
                                            go_wp2
                                            (try rw [Exit.noGoto_ret]); (try (rw [Exit.noGoto_normal]; try go_wp2)); (try (rw [Exit.noGoto_exit]; try go_wp2))
                                            go_roundg k4
                                            case measure => have := HK1.out; have := HK2.out; have := HK3.out; have := HK4.out; omega
                                            case rel => exact ⟨(true), (wrap64 (x54_4 + 1)), (by first | rfl | (simp; done) | (simp [*]; done)), (by first | rfl | (simp; done) | (simp [*]; done)), H', ⟨by have := HK1.out; have := HK2.out; have := HK3.out; have := HK4.out; omega⟩, ⟨by (try simp only [hl3_1]); (try simp only [hl3_2]); (with_reducible repeat (first | apply Kd.R_alloc | apply Kd.R_drewN | apply Kd.R_drew)); exact HO_3.out⟩, ⟨by (try simp only [hl3_1]); (try simp only [hl3_2]); (with_reducible repeat (first | apply Kd.R_alloc | apply Kd.R_drewN | apply Kd.R_drew)); exact HO_6.out⟩, ⟨by repeat (first | (with_reducible first | exact HB.out | apply below_alloc | apply pw_below_drewN | apply below_drew1) | exact HB.out)⟩⟩
                                          · replace c22 := Bool.eq_false_iff.mpr c22
                                            subst c22
                                            have H1 : (if 0 ≤ (rd (rd_L2 l0 x41_3) x54_4) then (if (rd (rd_L2 l0 x41_3) x54_4) < (x3_2.length : Int) then (if ((rd_T75 x3_2 (rd (rd_L2 l0 x41_3) x54_4)).f0) = 0 then (heap_outcomes.l3 k4 l0 x3_2 x5_2 x6_3 x41_3 (rd_L2 l0 x41_3) (((rd_T75 x3_2 (rd (rd_L2 l0 x41_3) x54_4)).f1) == (wrap64 (x5_2 - 1))) l0 (l0.length : Int) x41_3 (rd_L2 l0 x41_3) ((rd_L2 l0 x41_3).length : Int) (wrap64 (x54_4 + 1))) else (heap_outcomes.l3 k4 l0 x3_2 x5_2 x6_3 x41_3 (rd_L2 l0 x41_3) false l0 (l0.length : Int) x41_3 (rd_L2 l0 x41_3) ((rd_L2 l0 x41_3).length : Int) (wrap64 (x54_4 + 1)))) else (none)) else (none)) = some r := by rw [if_neg (show ¬ (false = true) by decide)] at H; exact H
                                            clear H
                                            have H := H1
                                            clear H1
                                            by_cases c23 : 0 ≤ (rd (rd_L2 l0 x41_3) x54_4)
                                            · rw [if_pos c23] at H
                                              have c23b0 : decide (0 ≤ (rd (rd_L2 l0 x41_3) x54_4)) = true := decide_eq_true c23
                                              clear c23
                                              by_cases c24 : (rd (rd_L2 l0 x41_3) x54_4) < (x3_2.length : Int)
                                              · rw [if_pos c24] at H
                                                have c24b0 : decide ((rd (rd_L2 l0 x41_3) x54_4) < (x3_2.length : Int)) = true := decide_eq_true c24
                                                (try rw [hl266_0] at c24b0); (try rw [hl281_0] at c24b0); (try rw [hl3_1] at c24b0); (try rw [hl3_2] at c24b0); (try rw [hl3_4] at c24b0)
                                                clear c24
                                                by_cases c25 : ((rd_T75 x3_2 (rd (rd_L2 l0 x41_3) x54_4)).f0) = 0
                                                · rw [if_pos c25] at H
                                                  have c25b0 : (((rd_T75 x3_2 (rd (rd_L2 l0 x41_3) x54_4)).f0) == 0) = true := beq_iff_eq.mpr c25
                                                  have c25b1 : (((rd_T75 x3_2 (rd (rd_L2 l0 x41_3) x54_4)).f0) != 0) = false := bne_eq_false_iff_eq.mpr c25
                                                  clear c25
                                                  have H' := Aside0.mk H
                                                  clear H
                                                  have p268 : 0 ≤ (x54_4 : Int) := of_decide_eq_true (by first | (with_reducible assumption) | assumption)
                                                  have q268 : x54_4 < ((rd_L2 l0 x41_3).length : Int) := of_decide_eq_true (by first | (with_reducible assumption) | assumption)
                                                  obtain ⟨ad268, e268, hx268_0⟩ := Kd.at_int HR266_0.out x54_4 p268 q268
                                                  cases e268
                                                  replace hx268_0 := (HB.out.cell (World.block_lt_of_cell? w _ hx268_0)).trans hx268_0
                                                  replace p268 := eq_true p268
                                                  replace q268 := eq_true q268
                                                  have p269 : 0 ≤ ((rd (rd_L2 l0 x41_3) x54_4) : Int) := of_decide_eq_true (by first | (with_reducible assumption) | assumption)
                                                  have q269 : (rd (rd_L2 l0 x41_3) x54_4) < (x3_2.length : Int) := of_decide_eq_true (by first | (with_reducible assumption) | assumption)
                                                  obtain ⟨ad269, e269, hx269_0, hx269_1⟩ := at_T75 (Kd.R_reads' HO_3.out).2.2 (rd (rd_L2 l0 x41_3) x54_4) p269 q269
                                                  obtain rfl : ad267 = ad269 := (by injection e269)
                                                  replace p269 := eq_true p269
                                                  replace q269 := eq_true q269
                                                  have p270 : 0 ≤ ((rd (rd_L2 l0 x41_3) x54_4) : Int) := of_decide_eq_true (by first | (with_reducible assumption) | assumption)
                                                  have q270 : (rd (rd_L2 l0 x41_3) x54_4) < (x3_2.length : Int) := of_decide_eq_true (by first | (with_reducible assumption) | assumption)
                                                  obtain ⟨ad270, e270, hx270_0, hx270_1⟩ := at_T75 (Kd.R_reads' HO_3.out).2.2 (rd (rd_L2 l0 x41_3) x54_4) p270 q270
                                                  obtain rfl : ad267 = ad270 := (by injection e270)
                                                  replace p270 := eq_true p270
                                                  replace q270 := eq_true q270
                                                  go_wp2
                                                  (try rw [Exit.noGoto_ret]); (try (rw [Exit.noGoto_normal]; try go_wp2)); (try (rw [Exit.noGoto_exit]; try go_wp2))
                                                  go_roundg k4
                                                  case measure => have := HK1.out; have := HK2.out; have := HK3.out; have := HK4.out; omega
                                                  case rel => exact ⟨((((rd_T75 x3_2 (rd (rd_L2 l0 x41_3) x54_4)).f1) == (wrap64 (x5_2 - 1)))), (wrap64 (x54_4 + 1)), (by first | rfl | (simp; done) | (simp [*]; done)), (by first | rfl | (simp; done) | (simp [*]; done)), H', ⟨by have := HK1.out; have := HK2.out; have := HK3.out; have := HK4.out; omega⟩, ⟨by (try simp only [hl3_1]); (try simp only [hl3_2]); (with_reducible repeat (first | apply Kd.R_alloc | apply Kd.R_drewN | apply Kd.R_drew)); exact HO_3.out⟩, ⟨by (try simp only [hl3_1]); (try simp only [hl3_2]); (with_reducible repeat (first | apply Kd.R_alloc | apply Kd.R_drewN | apply Kd.R_drew)); exact HO_6.out⟩, ⟨by repeat (first | (with_reducible first | exact HB.out | apply below_alloc | apply pw_below_drewN | apply below_drew1) | exact HB.out)⟩⟩
                                                · rw [if_neg c25] at H
                                                  have c25b0 : (((rd_T75 x3_2 (rd (rd_L2 l0 x41_3) x54_4)).f0) == 0) = false := beq_eq_false_iff_ne.mpr c25
                                                  have c25b1 : (((rd_T75 x3_2 (rd (rd_L2 l0 x41_3) x54_4)).f0) != 0) = true := bne_iff_ne.mpr c25
                                                  have H' := Aside0.mk H
                                                  clear H
                                                  have p268 : 0 ≤ (x54_4 : Int) := of_decide_eq_true (by first | (with_reducible assumption) | assumption)
                                                  have q268 : x54_4 < ((rd_L2 l0 x41_3).length : Int) := of_decide_eq_true (by first | (with_reducible assumption) | assumption)
                                                  obtain ⟨ad268, e268, hx268_0⟩ := Kd.at_int HR266_0.out x54_4 p268 q268
                                                  cases e268
                                                  replace hx268_0 := (HB.out.cell (World.block_lt_of_cell? w _ hx268_0)).trans hx268_0
                                                  replace p268 := eq_true p268
                                                  replace q268 := eq_true q268
                                                  have p269 : 0 ≤ ((rd (rd_L2 l0 x41_3) x54_4) : Int) := of_decide_eq_true (by first | (with_reducible assumption) | assumption)
                                                  have q269 : (rd (rd_L2 l0 x41_3) x54_4) < (x3_2.length : Int) := of_decide_eq_true (by first | (with_reducible assumption) | assumption)
                                                  obtain ⟨ad269, e269, hx269_0, hx269_1⟩ := at_T75 (Kd.R_reads' HO_3.out).2.2 (rd (rd_L2 l0 x41_3) x54_4) p269 q269
                                                  obtain rfl : ad267 = ad269 := (by injection e269)
                                                  replace p269 := eq_true p269
                                                  replace q269 := eq_true q269
                                                  go_wp2
                                                  (try rw [Exit.noGoto_ret]); (try (rw [Exit.noGoto_normal]; try go_wp2)); (try (rw [Exit.noGoto_exit]; try go_wp2))
                                                  go_roundg k4
                                                  case measure => have := HK1.out; have := HK2.out; have := HK3.out; have := HK4.out; omega
                                                  case rel => exact ⟨(false), (wrap64 (x54_4 + 1)), (by first | rfl | (simp; done) | (simp [*]; done)), (by first | rfl | (simp; done) | (simp [*]; done)), H', ⟨by have := HK1.out; have := HK2.out; have := HK3.out; have := HK4.out; omega⟩, ⟨by (try simp only [hl3_1]); (try simp only [hl3_2]); (with_reducible repeat (first | apply Kd.R_alloc | apply Kd.R_drewN | apply Kd.R_drew)); exact HO_3.out⟩, ⟨by (try simp only [hl3_1]); (try simp only [hl3_2]); (with_reducible repeat (first | apply Kd.R_alloc | apply Kd.R_drewN | apply Kd.R_drew)); exact HO_6.out⟩, ⟨by repeat (first | (with_reducible first | exact HB.out | apply below_alloc | apply pw_below_drewN | apply below_drew1) | exact HB.out)⟩⟩
                                              · rw [if_neg c24] at H
                                                exact absurd H (by simp)
                                            · rw [if_neg c23] at H
                                              exact absurd H (by simp)
                                        · rw [if_neg c21] at H
                                          exact absurd H (by simp)
                                      · rw [if_neg c20] at H
                                        exact absurd H (by simp)
                                    · rw [if_neg c19] at H
                                      have c19b0 : decide (x54_4 < ((rd_L2 l0 x41_3).length : Int)) = false := decide_eq_false c19
                                      (try rw [hl266_0] at c19b0); (try rw [hl281_0] at c19b0); (try rw [hl3_1] at c19b0); (try rw [hl3_2] at c19b0); (try rw [hl3_4] at c19b0)
                                      clear c19
                                      by_cases c26 : x9_4 = true
                                      · subst c26
                                        have H1 : (if x6_3.length < 17592186044416 then (heap_outcomes.l2 k4 l0 x3_2 x5_2 (x6_3 ++ [x41_3]) l0 (l0.length : Int) (wrap64 (x41_3 + 1))) else (none)) = some r := by rw [if_pos rfl] at H; exact H
                                        clear H
                                        have H := H1
                                        clear H1
                                        by_cases c27 : x6_3.length < 17592186044416
                                        · rw [if_pos c27] at H
                                          have LMc27 := Aside0.mk c27
                                          clear c27
                                          obtain ⟨y271, hy271⟩ : ∃ y_ : List Int, y_ = (x6_3 ++ [x41_3]) := ⟨_, rfl⟩
                                          replace H : (heap_outcomes.l2 k4 l0 x3_2 x5_2 y271 l0 (l0.length : Int) (wrap64 (x41_3 + 1))) = some r := by first | (rw [hy271]; with_reducible exact H) | (have H2_ := (Option.bind_some _ _).symm.trans H; rw [hy271]; with_reducible exact H2_) | (have H2_ := (Option.bind_some _ _).symm.trans H; with_reducible exact H2_) | with_reducible exact H | (rw [hy271]; exact H) | exact H
                                          have Ny271 := Aside0.mk hy271
                                          clear hy271
                                          have H' := Aside0.mk H
                                          clear H
                                          go_wp2_with (first | ((with_reducible refine gate_builtin (b := .append) (xs := #[.tmp 79, .tmp 81]) rfl ?_); at_builtin; refine Kd.R_append (Kd.int .i64) (w0 := w) w.heap.size rfl (.tmp 79) (.tmp 81) 22 3 (.int .i64 0) 8 rfl Tryz.underlying22 info3 rfl (by decide) (by omega) u6 x6_3 x41_3 [.int .i64 x41_3] (fun _ => True) (fun _ => False) rfl rfl ?aP (fun _ hk => hk.elim) ?aF ?aO ?aB ?aS ?aL ?_; (case aP => exact rfl); (case aB => exact (by repeat (first | (with_reducible first | exact HB.out | apply below_alloc | apply pw_below_drewN | apply below_drew1) | exact HB.out))); (case aF => exact (fun _ _ => trivial)); (case aO => exact (by (with_reducible repeat (first | apply Kd.R_alloc | apply Kd.R_drewN | apply Kd.R_drew)); exact HO_6.out)); (case aS => exact (below_size (by repeat (first | (with_reducible first | exact HB.out | apply below_alloc | apply pw_below_drewN | apply below_drew1) | exact HB.out)))); (case aL => have := LMc27.out; omega); intro v272 w28 ho hb hg hat; rw [← Ny271.out] at ho; have n0_ := Aside0.mk (Kd.R_over' (by (with_reducible repeat (first | apply Kd.R_alloc | apply Kd.R_drewN | apply Kd.R_drew)); exact HO_3.out) (Kd.R_typed (by (with_reducible repeat (first | apply Kd.R_alloc | apply Kd.R_drewN | apply Kd.R_drew)); exact HO_6.out)) (by decide) hg); have n1_ := Aside0.mk (hb); have n2_ := Aside0.mk (ho); clear HO_3; clear HB; clear HO_6; have HO_3 := n0_; have HB := n1_; have HO273 := n2_; clear n0_ n1_ n2_; clear ho hb hg hat))
                                          (try rw [Exit.noGoto_ret]); (try (rw [Exit.noGoto_normal]; try go_wp2)); (try (rw [Exit.noGoto_exit]; try go_wp2))
                                          go_roundg k4
                                          case measure => have := HK1.out; have := HK2.out; have := HK3.out; have := HK4.out; omega
                                          case rel => exact ⟨(y271), (wrap64 (x41_3 + 1)), (by first | rfl | (simp; done) | (simp [*]; done)), H', ⟨by have := HK1.out; have := HK2.out; have := HK3.out; have := HK4.out; omega⟩, ⟨by (try simp only [hl3_1]); (try simp only [hl3_2]); (with_reducible repeat (first | apply Kd.R_alloc | apply Kd.R_drewN | apply Kd.R_drew)); exact HO_3.out⟩, ⟨by (try simp only [hl3_1]); (try simp only [hl3_2]); (with_reducible repeat (first | apply Kd.R_alloc | apply Kd.R_drewN | apply Kd.R_drew)); exact HO273.out⟩, ⟨by repeat (first | (with_reducible first | exact HB.out | apply below_alloc | apply pw_below_drewN | apply below_drew1) | exact HB.out)⟩⟩
                                        · rw [if_neg c27] at H
                                          exact absurd H (by simp)
                                      · replace c26 := Bool.eq_false_iff.mpr c26
                                        subst c26
                                        have H1 : (heap_outcomes.l4 k4 l0 x3_2 x5_2 x6_3 x41_3 (-1) l0 (l0.length : Int) x41_3 (rd_L2 l0 x41_3) ((rd_L2 l0 x41_3).length : Int) 0) = some r := by rw [if_neg (show ¬ (false = true) by decide)] at H; exact H
                                        clear H
                                        have H := H1
                                        clear H1
                                        have H' := Aside0.mk H
                                        clear H
                                        go_wp2
                                        (try go_step3); (try go_wp2); (try go_step3); (try go_wp2)
                                        go_loopg [12, 85] k4 (fun kq v12 v85 w' => ∃ (x12_5 : Int) (x85_5 : Int), v12 = .int .i64 x12_5 ∧ v85 = .int .i64 x85_5 ∧ Aside0 (heap_outcomes.l4 kq l0 x3_2 x5_2 x6_3 x41_3 x12_5 l0 (l0.length : Int) x41_3 (rd_L2 l0 x41_3) ((rd_L2 l0 x41_3).length : Int) x85_5 = some r) ∧ Aside0 (kq ≤ k4) ∧ Aside0 (Kd.R k75 75 w' w.heap.size (fun _ => True) (.slice (some ad267) x3_2.length co6) x3_2) ∧ Aside0 (Kd.R (Kd.int .i64) 3 w' w.heap.size (fun _ => True) u6 x6_3) ∧ Aside0 (Below w.heap.size w w'))
                                        case atStart => exact ⟨((-1)), (0), (by first | rfl | (simp; done) | (simp [*]; done)), (by first | rfl | (simp; done) | (simp [*]; done)), H', ⟨Nat.le_refl _⟩, ⟨by (try simp only [hl3_1]); (try simp only [hl3_2]); (with_reducible repeat (first | apply Kd.R_alloc | apply Kd.R_drewN | apply Kd.R_drew)); exact HO_3.out⟩, ⟨by (try simp only [hl3_1]); (try simp only [hl3_2]); (with_reducible repeat (first | apply Kd.R_alloc | apply Kd.R_drewN | apply Kd.R_drew)); exact HO_6.out⟩, ⟨by repeat (first | (with_reducible first | exact HB.out | apply below_alloc | apply pw_below_drewN | apply below_drew1) | exact HB.out)⟩⟩
                                        case round =>
                                          clear H'
                                          try clear c1
                                          try clear p1
                                          try clear q1
                                          try clear hx1
                                          try clear hf1
                                          try clear c2
                                          try clear c2b0
                                          try clear c2b1
                                          try clear p2
                                          try clear q2
                                          try clear hx2
                                          try clear c3
                                          try clear c3b0
                                          try clear c3b1
                                          try clear c4
                                          try clear p6
                                          try clear c7
                                          try clear c7b0
                                          try clear c8
                                          try clear c8b0
                                          try clear c9
                                          try clear c9b0
                                          try clear c10
                                          try clear p10
                                          try clear q10
                                          try clear hx10
                                          try clear hf10
                                          try clear c11
                                          try clear hx11
                                          try clear hf11
                                          try clear c13
                                          try clear c13b0
                                          try clear c14
                                          try clear c14b0
                                          try clear c15
                                          try clear c15b0
                                          try clear c16
                                          try clear c16b0
                                          try clear c17
                                          try clear c17b0
                                          try clear c18
                                          try clear c18b0
                                          try clear c18b1
                                          try clear c19
                                          try clear c19b0
                                          try clear c20
                                          try clear c20b0
                                          try clear c21
                                          try clear c21b0
                                          try clear c22
                                          try clear c23
                                          try clear c23b0
                                          try clear c24
                                          try clear c24b0
                                          try clear c25
                                          try clear c25b0
                                          try clear c25b1
                                          try clear c26
                                          try clear p26
                                          try clear q26
                                          try clear hx26
                                          try clear c27
                                          try clear p27
                                          try clear q27
                                          try clear hx27
                                          try clear hx10_0
                                          try clear hx10_1
                                          try clear hx11_0
                                          try clear hx11_1
                                          try clear hx266_0
                                          try clear hx267_0
                                          try clear hx267_1
                                          try clear hx268_0
                                          try clear hx269_0
                                          try clear hx269_1
                                          try clear hx270_0
                                          try clear hx270_1
                                          try clear p1
                                          try clear p10
                                          try clear p2
                                          try clear p266
                                          try clear p267
                                          try clear p268
                                          try clear p269
                                          try clear p270
                                          try clear p6
                                          try clear q1
                                          try clear q10
                                          try clear q2
                                          try clear q266
                                          try clear q267
                                          try clear q268
                                          try clear q269
                                          try clear q270
                                          obtain ⟨x12_5, x85_5, rfl, rfl, HA, HK5, HO_3, HO_6, HB⟩ := hrel
                                          cases gk with
                                          | zero => exact absurd HA.out (by simp [heap_outcomes.l4])
                                          | succ k5 =>
                                            have H := HA.out
                                            clear HA
                                            simp only [heap_outcomes.l4] at H
                                            by_cases c29 : x85_5 < ((rd_L2 l0 x41_3).length : Int)
                                            · rw [if_pos c29] at H
                                              have c29b0 : decide (x85_5 < ((rd_L2 l0 x41_3).length : Int)) = true := decide_eq_true c29
                                              (try rw [hl266_0] at c29b0); (try rw [hl281_0] at c29b0); (try rw [hl3_1] at c29b0); (try rw [hl3_2] at c29b0); (try rw [hl3_4] at c29b0)
                                              clear c29
                                              by_cases c30 : 0 ≤ x85_5
                                              · rw [if_pos c30] at H
                                                have c30b0 : decide (0 ≤ x85_5) = true := decide_eq_true c30
                                                clear c30
                                                by_cases c31 : x85_5 < ((rd_L2 l0 x41_3).length : Int)
                                                · rw [if_pos c31] at H
                                                  have c31b0 : decide (x85_5 < ((rd_L2 l0 x41_3).length : Int)) = true := decide_eq_true c31
                                                  (try rw [hl266_0] at c31b0); (try rw [hl281_0] at c31b0); (try rw [hl3_1] at c31b0); (try rw [hl3_2] at c31b0); (try rw [hl3_4] at c31b0)
                                                  clear c31
                                                  by_cases c32 : 0 ≤ (rd (rd_L2 l0 x41_3) x85_5)
                                                  · rw [if_pos c32] at H
                                                    have c32b0 : decide (0 ≤ (rd (rd_L2 l0 x41_3) x85_5)) = true := decide_eq_true c32
                                                    clear c32
                                                    by_cases c33 : (rd (rd_L2 l0 x41_3) x85_5) < (x3_2.length : Int)
                                                    · rw [if_pos c33] at H
                                                      have c33b0 : decide ((rd (rd_L2 l0 x41_3) x85_5) < (x3_2.length : Int)) = true := decide_eq_true c33
                                                      (try rw [hl266_0] at c33b0); (try rw [hl281_0] at c33b0); (try rw [hl3_1] at c33b0); (try rw [hl3_2] at c33b0); (try rw [hl3_4] at c33b0)
                                                      clear c33
                                                      by_cases c34 : ((rd_T75 x3_2 (rd (rd_L2 l0 x41_3) x85_5)).f0) = 1
                                                      · rw [if_pos c34] at H
                                                        have c34b0 : (((rd_T75 x3_2 (rd (rd_L2 l0 x41_3) x85_5)).f0) == 1) = true := beq_iff_eq.mpr c34
                                                        have c34b1 : (((rd_T75 x3_2 (rd (rd_L2 l0 x41_3) x85_5)).f0) != 1) = false := bne_eq_false_iff_eq.mpr c34
                                                        clear c34
                                                        obtain ⟨ji35, hji35⟩ : ∃ j_ : Int, (mx x12_5 ((rd_T75 x3_2 (rd (rd_L2 l0 x41_3) x85_5)).f1)) = j_ := ⟨_, rfl⟩
                                                        replace H : (heap_outcomes.l4 k5 l0 x3_2 x5_2 x6_3 x41_3 ji35 l0 (l0.length : Int) x41_3 (rd_L2 l0 x41_3) ((rd_L2 l0 x41_3).length : Int) (wrap64 (x85_5 + 1))) = some r := by first | (rw [hji35] at H; exact H) | (simp only [hji35] at H ⊢; exact H)
                                                        have hji35_ : (if x12_5 < ((rd_T75 x3_2 (rd (rd_L2 l0 x41_3) x85_5)).f1) then ((rd_T75 x3_2 (rd (rd_L2 l0 x41_3) x85_5)).f1) else x12_5) = ji35 := hji35
                                                        have H' := Aside0.mk H
                                                        clear H
                                                        have p274 : 0 ≤ (x85_5 : Int) := of_decide_eq_true (by first | (with_reducible assumption) | assumption)
                                                        have q274 : x85_5 < ((rd_L2 l0 x41_3).length : Int) := of_decide_eq_true (by first | (with_reducible assumption) | assumption)
                                                        obtain ⟨ad274, e274, hx274_0⟩ := Kd.at_int HR266_0.out x85_5 p274 q274
                                                        cases e274
                                                        replace hx274_0 := (HB.out.cell (World.block_lt_of_cell? w _ hx274_0)).trans hx274_0
                                                        replace p274 := eq_true p274
                                                        replace q274 := eq_true q274
                                                        have p275 : 0 ≤ ((rd (rd_L2 l0 x41_3) x85_5) : Int) := of_decide_eq_true (by first | (with_reducible assumption) | assumption)
                                                        have q275 : (rd (rd_L2 l0 x41_3) x85_5) < (x3_2.length : Int) := of_decide_eq_true (by first | (with_reducible assumption) | assumption)
                                                        obtain ⟨ad275, e275, hx275_0, hx275_1⟩ := at_T75 (Kd.R_reads' HO_3.out).2.2 (rd (rd_L2 l0 x41_3) x85_5) p275 q275
                                                        obtain rfl : ad267 = ad275 := (by injection e275)
                                                        replace p275 := eq_true p275
                                                        replace q275 := eq_true q275
                                                        have p276 : 0 ≤ ((rd (rd_L2 l0 x41_3) x85_5) : Int) := of_decide_eq_true (by first | (with_reducible assumption) | assumption)
                                                        have q276 : (rd (rd_L2 l0 x41_3) x85_5) < (x3_2.length : Int) := of_decide_eq_true (by first | (with_reducible assumption) | assumption)
                                                        obtain ⟨ad276, e276, hx276_0, hx276_1⟩ := at_T75 (Kd.R_reads' HO_3.out).2.2 (rd (rd_L2 l0 x41_3) x85_5) p276 q276
                                                        obtain rfl : ad267 = ad276 := (by injection e276)
                                                        replace p276 := eq_true p276
                                                        replace q276 := eq_true q276
                                                        go_wp2
                                                        (try rw [Exit.noGoto_ret]); (try (rw [Exit.noGoto_normal]; try go_wp2)); (try (rw [Exit.noGoto_exit]; try go_wp2))
                                                        go_roundg k5
                                                        case measure => have := HK1.out; have := HK2.out; have := HK3.out; have := HK4.out; have := HK5.out; omega
                                                        case rel => exact ⟨(ji35), (wrap64 (x85_5 + 1)), (by first | rfl | (simp; done) | (simp only [← hji35] <;> (first | rfl | simp)) | (simp [*]; done)), (by first | rfl | (simp; done) | (simp [*]; done)), H', ⟨by have := HK1.out; have := HK2.out; have := HK3.out; have := HK4.out; have := HK5.out; omega⟩, ⟨by (try simp only [hl3_1]); (try simp only [hl3_2]); (with_reducible repeat (first | apply Kd.R_alloc | apply Kd.R_drewN | apply Kd.R_drew)); exact HO_3.out⟩, ⟨by (try simp only [hl3_1]); (try simp only [hl3_2]); (with_reducible repeat (first | apply Kd.R_alloc | apply Kd.R_drewN | apply Kd.R_drew)); exact HO_6.out⟩, ⟨by repeat (first | (with_reducible first | exact HB.out | apply below_alloc | apply pw_below_drewN | apply below_drew1) | exact HB.out)⟩⟩
                                                      · rw [if_neg c34] at H
                                                        have c34b0 : (((rd_T75 x3_2 (rd (rd_L2 l0 x41_3) x85_5)).f0) == 1) = false := beq_eq_false_iff_ne.mpr c34
                                                        have c34b1 : (((rd_T75 x3_2 (rd (rd_L2 l0 x41_3) x85_5)).f0) != 1) = true := bne_iff_ne.mpr c34
                                                        have H' := Aside0.mk H
                                                        clear H
                                                        have p274 : 0 ≤ (x85_5 : Int) := of_decide_eq_true (by first | (with_reducible assumption) | assumption)
                                                        have q274 : x85_5 < ((rd_L2 l0 x41_3).length : Int) := of_decide_eq_true (by first | (with_reducible assumption) | assumption)
                                                        obtain ⟨ad274, e274, hx274_0⟩ := Kd.at_int HR266_0.out x85_5 p274 q274
                                                        cases e274
                                                        replace hx274_0 := (HB.out.cell (World.block_lt_of_cell? w _ hx274_0)).trans hx274_0
                                                        replace p274 := eq_true p274
                                                        replace q274 := eq_true q274
                                                        have p275 : 0 ≤ ((rd (rd_L2 l0 x41_3) x85_5) : Int) := of_decide_eq_true (by first | (with_reducible assumption) | assumption)
                                                        have q275 : (rd (rd_L2 l0 x41_3) x85_5) < (x3_2.length : Int) := of_decide_eq_true (by first | (with_reducible assumption) | assumption)
                                                        obtain ⟨ad275, e275, hx275_0, hx275_1⟩ := at_T75 (Kd.R_reads' HO_3.out).2.2 (rd (rd_L2 l0 x41_3) x85_5) p275 q275
                                                        obtain rfl : ad267 = ad275 := (by injection e275)
                                                        replace p275 := eq_true p275
                                                        replace q275 := eq_true q275
                                                        go_wp2
                                                        (try rw [Exit.noGoto_ret]); (try (rw [Exit.noGoto_normal]; try go_wp2)); (try (rw [Exit.noGoto_exit]; try go_wp2))
                                                        go_roundg k5
                                                        case measure => have := HK1.out; have := HK2.out; have := HK3.out; have := HK4.out; have := HK5.out; omega
                                                        case rel => exact ⟨(x6_3), (wrap64 (x41_3 + 1)), (by first | rfl | (simp; done) | (simp [*]; done)), H', ⟨by have := HK1.out; have := HK2.out; have := HK3.out; have := HK4.out; have := HK5.out; omega⟩, ⟨by (try simp only [hl3_1]); (try simp only [hl3_2]); (with_reducible repeat (first | apply Kd.R_alloc | apply Kd.R_drewN | apply Kd.R_drew)); exact HO_3.out⟩, ⟨by (try simp only [hl3_1]); (try simp only [hl3_2]); (with_reducible repeat (first | apply Kd.R_alloc | apply Kd.R_drewN | apply Kd.R_drew)); exact HO_6.out⟩, ⟨by repeat (first | (with_reducible first | exact HB.out | apply below_alloc | apply pw_below_drewN | apply below_drew1) | exact HB.out)⟩⟩
                                                    · rw [if_neg c33] at H
                                                      exact absurd H (by simp)
                                                  · rw [if_neg c32] at H
                                                    exact absurd H (by simp)
                                                · rw [if_neg c31] at H
                                                  exact absurd H (by simp)
                                              · rw [if_neg c30] at H
                                                exact absurd H (by simp)
                                            · rw [if_neg c29] at H
                                              have c29b0 : decide (x85_5 < ((rd_L2 l0 x41_3).length : Int)) = false := decide_eq_false c29
                                              (try rw [hl266_0] at c29b0); (try rw [hl281_0] at c29b0); (try rw [hl3_1] at c29b0); (try rw [hl3_2] at c29b0); (try rw [hl3_4] at c29b0)
                                              clear c29
                                              by_cases c36 : x12_5 = (wrap64 (x5_2 - 1))
                                              · rw [if_pos c36] at H
                                                have c36b0 : (x12_5 == (wrap64 (x5_2 - 1))) = true := beq_iff_eq.mpr c36
                                                have c36b1 : (x12_5 != (wrap64 (x5_2 - 1))) = false := bne_eq_false_iff_eq.mpr c36
                                                clear c36
                                                by_cases c37 : x6_3.length < 17592186044416
                                                · rw [if_pos c37] at H
                                                  have LMc37 := Aside0.mk c37
                                                  clear c37
                                                  obtain ⟨y277, hy277⟩ : ∃ y_ : List Int, y_ = (x6_3 ++ [x41_3]) := ⟨_, rfl⟩
                                                  replace H : (heap_outcomes.l2 k5 l0 x3_2 x5_2 y277 l0 (l0.length : Int) (wrap64 (x41_3 + 1))) = some r := by first | (rw [hy277]; with_reducible exact H) | (have H2_ := (Option.bind_some _ _).symm.trans H; rw [hy277]; with_reducible exact H2_) | (have H2_ := (Option.bind_some _ _).symm.trans H; with_reducible exact H2_) | with_reducible exact H | (rw [hy277]; exact H) | exact H
                                                  have Ny277 := Aside0.mk hy277
                                                  clear hy277
                                                  have H' := Aside0.mk H
                                                  clear H
                                                  go_wp2_with (first | ((with_reducible refine gate_builtin (b := .append) (xs := #[.tmp 107, .tmp 109]) rfl ?_); at_builtin; refine Kd.R_append (Kd.int .i64) (w0 := w) w.heap.size rfl (.tmp 107) (.tmp 109) 22 3 (.int .i64 0) 8 rfl Tryz.underlying22 info3 rfl (by decide) (by omega) u6 x6_3 x41_3 [.int .i64 x41_3] (fun _ => True) (fun _ => False) rfl rfl ?aP (fun _ hk => hk.elim) ?aF ?aO ?aB ?aS ?aL ?_; (case aP => exact rfl); (case aB => exact (by repeat (first | (with_reducible first | exact HB.out | apply below_alloc | apply pw_below_drewN | apply below_drew1) | exact HB.out))); (case aF => exact (fun _ _ => trivial)); (case aO => exact (by (with_reducible repeat (first | apply Kd.R_alloc | apply Kd.R_drewN | apply Kd.R_drew)); exact HO_6.out)); (case aS => exact (below_size (by repeat (first | (with_reducible first | exact HB.out | apply below_alloc | apply pw_below_drewN | apply below_drew1) | exact HB.out)))); (case aL => have := LMc37.out; omega); intro v278 w38 ho hb hg hat; rw [← Ny277.out] at ho; have n0_ := Aside0.mk (Kd.R_over' (by (with_reducible repeat (first | apply Kd.R_alloc | apply Kd.R_drewN | apply Kd.R_drew)); exact HO_3.out) (Kd.R_typed (by (with_reducible repeat (first | apply Kd.R_alloc | apply Kd.R_drewN | apply Kd.R_drew)); exact HO_6.out)) (by decide) hg); have n1_ := Aside0.mk (hb); have n2_ := Aside0.mk (ho); clear HO_3; clear HB; clear HO_6; have HO_3 := n0_; have HB := n1_; have HO279 := n2_; clear n0_ n1_ n2_; clear ho hb hg hat))
                                                  (try rw [Exit.noGoto_ret]); (try (rw [Exit.noGoto_normal]; try go_wp2)); (try (rw [Exit.noGoto_exit]; try go_wp2))
                                                  go_roundg k5
                                                  case measure => have := HK1.out; have := HK2.out; have := HK3.out; have := HK4.out; have := HK5.out; omega
                                                  case rel => exact ⟨(y277), (wrap64 (x41_3 + 1)), (by first | rfl | (simp; done) | (simp [*]; done)), H', ⟨by have := HK1.out; have := HK2.out; have := HK3.out; have := HK4.out; have := HK5.out; omega⟩, ⟨by (try simp only [hl3_1]); (try simp only [hl3_2]); (with_reducible repeat (first | apply Kd.R_alloc | apply Kd.R_drewN | apply Kd.R_drew)); exact HO_3.out⟩, ⟨by (try simp only [hl3_1]); (try simp only [hl3_2]); (with_reducible repeat (first | apply Kd.R_alloc | apply Kd.R_drewN | apply Kd.R_drew)); exact HO279.out⟩, ⟨by repeat (first | (with_reducible first | exact HB.out | apply below_alloc | apply pw_below_drewN | apply below_drew1) | exact HB.out)⟩⟩
                                                · rw [if_neg c37] at H
                                                  exact absurd H (by simp)
                                              · rw [if_neg c36] at H
                                                have c36b0 : (x12_5 == (wrap64 (x5_2 - 1))) = false := beq_eq_false_iff_ne.mpr c36
                                                have c36b1 : (x12_5 != (wrap64 (x5_2 - 1))) = true := bne_iff_ne.mpr c36
                                                have H' := Aside0.mk H
                                                clear H
                                                go_wp2
                                                (try rw [Exit.noGoto_ret]); (try (rw [Exit.noGoto_normal]; try go_wp2)); (try (rw [Exit.noGoto_exit]; try go_wp2))
                                                go_roundg k5
                                                case measure => have := HK1.out; have := HK2.out; have := HK3.out; have := HK4.out; have := HK5.out; omega
                                                case rel => exact ⟨(x6_3), (wrap64 (x41_3 + 1)), (by first | rfl | (simp; done) | (simp [*]; done)), H', ⟨by have := HK1.out; have := HK2.out; have := HK3.out; have := HK4.out; have := HK5.out; omega⟩, ⟨by (try simp only [hl3_1]); (try simp only [hl3_2]); (with_reducible repeat (first | apply Kd.R_alloc | apply Kd.R_drewN | apply Kd.R_drew)); exact HO_3.out⟩, ⟨by (try simp only [hl3_1]); (try simp only [hl3_2]); (with_reducible repeat (first | apply Kd.R_alloc | apply Kd.R_drewN | apply Kd.R_drew)); exact HO_6.out⟩, ⟨by repeat (first | (with_reducible first | exact HB.out | apply below_alloc | apply pw_below_drewN | apply below_drew1) | exact HB.out)⟩⟩
                              · rw [if_neg c18] at H
                                have c18b0 : (((rd_T75 x3_2 x41_3).f0) == 2) = false := beq_eq_false_iff_ne.mpr c18
                                have c18b1 : (((rd_T75 x3_2 x41_3).f0) != 2) = true := bne_iff_ne.mpr c18
                                have H' := Aside0.mk H
                                clear H
                                have p266 : 0 ≤ (x41_3 : Int) := of_decide_eq_true (by first | (with_reducible assumption) | assumption)
                                have q266 : x41_3 < (l0.length : Int) := of_decide_eq_true (by first | (with_reducible assumption) | assumption)
                                obtain ⟨ad266, A266_0, c266_0, e266, hx266_0, hl266_0, hi266_0⟩ := at_L2 HR0.out x41_3 p266 q266
                                cases e266
                                replace hx266_0 := (HB.out.cell (World.block_lt_of_cell? w _ hx266_0)).trans hx266_0
                                have HR266_0 := Aside0.mk hi266_0
                                have HC266_0 := Aside0.mk hl266_0
                                clear hi266_0 hl266_0
                                replace p266 := eq_true p266
                                replace q266 := eq_true q266
                                have p267 : 0 ≤ (x41_3 : Int) := of_decide_eq_true (by first | (with_reducible assumption) | assumption)
                                have q267 : x41_3 < (x3_2.length : Int) := of_decide_eq_true (by first | (with_reducible assumption) | assumption)
                                obtain ⟨ad267, e267, hx267_0, hx267_1⟩ := at_T75 (Kd.R_reads' HO_3.out).2.2 x41_3 p267 q267
                                cases e267
                                replace p267 := eq_true p267
                                replace q267 := eq_true q267
                                go_wp2
                                (try rw [Exit.noGoto_ret]); (try (rw [Exit.noGoto_normal]; try go_wp2)); (try (rw [Exit.noGoto_exit]; try go_wp2))
                                go_roundg k3
                                case measure => have := HK1.out; have := HK2.out; have := HK3.out; omega
                                case rel => exact ⟨(x6_3), (wrap64 (x41_3 + 1)), (by first | rfl | (simp; done) | (simp [*]; done)), H', ⟨by have := HK1.out; have := HK2.out; have := HK3.out; omega⟩, ⟨by (try simp only [hl3_1]); (try simp only [hl3_2]); (with_reducible repeat (first | apply Kd.R_alloc | apply Kd.R_drewN | apply Kd.R_drew)); exact HO_3.out⟩, ⟨by (try simp only [hl3_1]); (try simp only [hl3_2]); (with_reducible repeat (first | apply Kd.R_alloc | apply Kd.R_drewN | apply Kd.R_drew)); exact HO_6.out⟩, ⟨by repeat (first | (with_reducible first | exact HB.out | apply below_alloc | apply pw_below_drewN | apply below_drew1) | exact HB.out)⟩⟩
                            · rw [if_neg c17] at H
                              exact absurd H (by simp)
                          · rw [if_neg c16] at H
                            exact absurd H (by simp)
                        · rw [if_neg c15] at H
                          exact absurd H (by simp)
                      · rw [if_neg c14] at H
                        have c14b0 : decide (x41_3 < (l0.length : Int)) = false := decide_eq_false c14
                        (try rw [hl266_0] at c14b0); (try rw [hl281_0] at c14b0); (try rw [hl3_1] at c14b0); (try rw [hl3_2] at c14b0); (try rw [hl3_4] at c14b0)
                        clear c14
                        have H' := Aside0.mk H
                        clear H
                        obtain ⟨Ao39, co39, eo39⟩ := Kd.R_slice HO_6.out
                        subst eo39
                        go_wp2
                        (try go_step3); (try go_wp2); (try go_step3); (try go_wp2)
                        go_loopg [114] k3 (fun kq v114 w' => ∃ (x3_4 : List (S75)) (x114_4 : Int), v114 = .int .i64 x114_4 ∧ Aside0 (heap_outcomes.l5 kq l0 x3_4 x5_2 x6_3 (x6_3.length : Int) x114_4 = some r) ∧ Aside0 (kq ≤ k3) ∧ Aside0 (Kd.R k75 75 w' w.heap.size (fun _ => True) (.slice Ao6 x3_2.length co6) x3_4) ∧ Aside0 (Kd.R (Kd.int .i64) 3 w' w.heap.size (fun _ => True) (.slice Ao39 x6_3.length co39) x6_3) ∧ Aside0 (Below w.heap.size w w'))
                        case atStart => exact ⟨(x3_2), (0), (by first | rfl | (simp; done) | (simp [*]; done)), H', ⟨Nat.le_refl _⟩, ⟨by (try simp only [hl3_1]); (try simp only [hl3_2]); (with_reducible repeat (first | apply Kd.R_alloc | apply Kd.R_drewN | apply Kd.R_drew)); exact HO_3.out⟩, ⟨by (try simp only [hl3_1]); (try simp only [hl3_2]); (with_reducible repeat (first | apply Kd.R_alloc | apply Kd.R_drewN | apply Kd.R_drew)); exact HO_6.out⟩, ⟨by repeat (first | (with_reducible first | exact HB.out | apply below_alloc | apply pw_below_drewN | apply below_drew1) | exact HB.out)⟩⟩
                        case round =>
                          clear H'
                          try clear c1
                          try clear p1
                          try clear q1
                          try clear hx1
                          try clear hf1
                          try clear c2
                          try clear c2b0
                          try clear c2b1
                          try clear p2
                          try clear q2
                          try clear hx2
                          try clear c3
                          try clear c3b0
                          try clear c3b1
                          try clear c4
                          try clear p6
                          try clear c7
                          try clear c7b0
                          try clear c8
                          try clear c8b0
                          try clear c9
                          try clear c9b0
                          try clear c10
                          try clear p10
                          try clear q10
                          try clear hx10
                          try clear hf10
                          try clear c11
                          try clear hx11
                          try clear hf11
                          try clear c13
                          try clear c13b0
                          try clear c14
                          try clear c14b0
                          try clear c15
                          try clear c15b0
                          try clear c16
                          try clear c16b0
                          try clear c17
                          try clear c17b0
                          try clear c18
                          try clear c18b0
                          try clear c18b1
                          try clear c19
                          try clear c19b0
                          try clear c20
                          try clear c20b0
                          try clear c21
                          try clear c21b0
                          try clear c22
                          try clear c23
                          try clear c23b0
                          try clear c24
                          try clear c24b0
                          try clear c25
                          try clear c25b0
                          try clear c25b1
                          try clear c26
                          try clear p26
                          try clear q26
                          try clear hx26
                          try clear c27
                          try clear p27
                          try clear q27
                          try clear hx27
                          try clear c29
                          try clear c29b0
                          try clear c30
                          try clear c30b0
                          try clear c31
                          try clear c31b0
                          try clear c32
                          try clear c32b0
                          try clear c33
                          try clear c33b0
                          try clear c34
                          try clear c34b0
                          try clear c34b1
                          try clear c36
                          try clear c36b0
                          try clear c36b1
                          try clear c37
                          try clear hx10_0
                          try clear hx10_1
                          try clear hx11_0
                          try clear hx11_1
                          try clear hx266_0
                          try clear hx267_0
                          try clear hx267_1
                          try clear hx268_0
                          try clear hx269_0
                          try clear hx269_1
                          try clear hx270_0
                          try clear hx270_1
                          try clear hx274_0
                          try clear hx275_0
                          try clear hx275_1
                          try clear hx276_0
                          try clear hx276_1
                          try clear p1
                          try clear p10
                          try clear p2
                          try clear p26
                          try clear p266
                          try clear p267
                          try clear p268
                          try clear p269
                          try clear p27
                          try clear p270
                          try clear p274
                          try clear p275
                          try clear p276
                          try clear p6
                          try clear q1
                          try clear q10
                          try clear q2
                          try clear q26
                          try clear q266
                          try clear q267
                          try clear q268
                          try clear q269
                          try clear q27
                          try clear q270
                          try clear q274
                          try clear q275
                          try clear q276
                          obtain ⟨x3_4, x114_4, rfl, HA, HK4, HO_3, HO_112, HB⟩ := hrel
                          have hl3_4 := (Kd.R_reads' HO_3.out).1
                          rw [hl3_4] at HO_3
                          (try simp only [hl3_4])
                          (try simp only [hl3_4] at HO_112)
                          cases gk with
                          | zero => exact absurd HA.out (by simp [heap_outcomes.l5])
                          | succ k4 =>
                            have H := HA.out
                            clear HA
                            simp only [heap_outcomes.l5] at H
                            by_cases c40 : x114_4 < (x6_3.length : Int)
                            · rw [if_pos c40] at H
                              have c40b0 : decide (x114_4 < (x6_3.length : Int)) = true := decide_eq_true c40
                              (try rw [hl266_0] at c40b0); (try rw [hl281_0] at c40b0); (try rw [hl3_1] at c40b0); (try rw [hl3_2] at c40b0); (try rw [hl3_4] at c40b0)
                              clear c40
                              by_cases c41 : 0 ≤ x114_4
                              · rw [if_pos c41] at H
                                have c41b0 : decide (0 ≤ x114_4) = true := decide_eq_true c41
                                clear c41
                                by_cases c42 : x114_4 < (x6_3.length : Int)
                                · rw [if_pos c42] at H
                                  have c42b0 : decide (x114_4 < (x6_3.length : Int)) = true := decide_eq_true c42
                                  (try rw [hl266_0] at c42b0); (try rw [hl281_0] at c42b0); (try rw [hl3_1] at c42b0); (try rw [hl3_2] at c42b0); (try rw [hl3_4] at c42b0)
                                  clear c42
                                  by_cases c43 : 0 ≤ (rd x6_3 x114_4)
                                  · rw [if_pos c43] at H
                                    have c43b0 : decide (0 ≤ (rd x6_3 x114_4)) = true := decide_eq_true c43
                                    clear c43
                                    by_cases c44 : (rd x6_3 x114_4) < (l0.length : Int)
                                    · rw [if_pos c44] at H
                                      have c44b0 : decide ((rd x6_3 x114_4) < (l0.length : Int)) = true := decide_eq_true c44
                                      (try rw [hl266_0] at c44b0); (try rw [hl281_0] at c44b0); (try rw [hl3_1] at c44b0); (try rw [hl3_2] at c44b0); (try rw [hl3_4] at c44b0)
                                      clear c44
                                      have H' := Aside0.mk H
                                      clear H
                                      have p280 : 0 ≤ (x114_4 : Int) := of_decide_eq_true (by first | (with_reducible assumption) | assumption)
                                      have q280 : x114_4 < (x6_3.length : Int) := of_decide_eq_true (by first | (with_reducible assumption) | assumption)
                                      obtain ⟨ad280, e280, hx280_0⟩ := Kd.at_int (Kd.R_reads' HO_112.out).2.2 x114_4 p280 q280
                                      cases e280
                                      replace p280 := eq_true p280
                                      replace q280 := eq_true q280
                                      have p281 : 0 ≤ ((rd x6_3 x114_4) : Int) := of_decide_eq_true (by first | (with_reducible assumption) | assumption)
                                      have q281 : (rd x6_3 x114_4) < (l0.length : Int) := of_decide_eq_true (by first | (with_reducible assumption) | assumption)
                                      obtain ⟨ad281, A281_0, c281_0, e281, hx281_0, hl281_0, hi281_0⟩ := at_L2 HR0.out (rd x6_3 x114_4) p281 q281
                                      cases e281
                                      replace hx281_0 := (HB.out.cell (World.block_lt_of_cell? w _ hx281_0)).trans hx281_0
                                      have HR281_0 := Aside0.mk hi281_0
                                      have HC281_0 := Aside0.mk hl281_0
                                      clear hi281_0 hl281_0
                                      replace p281 := eq_true p281
                                      replace q281 := eq_true q281
                                      go_wp2
                                      (try go_step3); (try go_wp2); (try go_step3); (try go_wp2)
                                      go_loopg [17, 123] k4 (fun kq v17 v123 w' => ∃ (x17_5 : Int) (x123_5 : Int), v17 = .int .i64 x17_5 ∧ v123 = .int .i64 x123_5 ∧ Aside0 (heap_outcomes.l6 kq l0 x3_4 x5_2 (rd x6_3 x114_4) x17_5 x6_3 (x6_3.length : Int) x114_4 (rd_L2 l0 (rd x6_3 x114_4)) ((rd_L2 l0 (rd x6_3 x114_4)).length : Int) x123_5 = some r) ∧ Aside0 (kq ≤ k4) ∧ Aside0 (Kd.R k75 75 w' w.heap.size (fun _ => True) (.slice Ao6 x3_4.length co6) x3_4) ∧ Aside0 (Kd.R (Kd.int .i64) 3 w' w.heap.size (fun _ => True) (.slice (some ad280) x6_3.length co39) x6_3) ∧ Aside0 (Below w.heap.size w w'))
                                      case atStart => exact ⟨(0), (0), (by first | rfl | (simp; done) | (simp [*]; done)), (by first | rfl | (simp; done) | (simp [*]; done)), H', ⟨Nat.le_refl _⟩, ⟨by (try simp only [hl3_1]); (try simp only [hl3_2]); (try simp only [hl3_4]); (with_reducible repeat (first | apply Kd.R_alloc | apply Kd.R_drewN | apply Kd.R_drew)); exact HO_3.out⟩, ⟨by (try simp only [hl3_1]); (try simp only [hl3_2]); (try simp only [hl3_4]); (with_reducible repeat (first | apply Kd.R_alloc | apply Kd.R_drewN | apply Kd.R_drew)); exact HO_112.out⟩, ⟨by repeat (first | (with_reducible first | exact HB.out | apply below_alloc | apply pw_below_drewN | apply below_drew1) | exact HB.out)⟩⟩
                                      case round =>
                                        clear H'
                                        try clear c1
                                        try clear p1
                                        try clear q1
                                        try clear hx1
                                        try clear hf1
                                        try clear c2
                                        try clear c2b0
                                        try clear c2b1
                                        try clear p2
                                        try clear q2
                                        try clear hx2
                                        try clear c3
                                        try clear c3b0
                                        try clear c3b1
                                        try clear c4
                                        try clear p6
                                        try clear c7
                                        try clear c7b0
                                        try clear c8
                                        try clear c8b0
                                        try clear c9
                                        try clear c9b0
                                        try clear c10
                                        try clear p10
                                        try clear q10
                                        try clear hx10
                                        try clear hf10
                                        try clear c11
                                        try clear hx11
                                        try clear hf11
                                        try clear c13
                                        try clear c13b0
                                        try clear c14
                                        try clear c14b0
                                        try clear c15
                                        try clear c15b0
                                        try clear c16
                                        try clear c16b0
                                        try clear c17
                                        try clear c17b0
                                        try clear c18
                                        try clear c18b0
                                        try clear c18b1
                                        try clear c19
                                        try clear c19b0
                                        try clear c20
                                        try clear c20b0
                                        try clear c21
                                        try clear c21b0
                                        try clear c22
                                        try clear c23
                                        try clear c23b0
                                        try clear c24
                                        try clear c24b0
                                        try clear c25
                                        try clear c25b0
                                        try clear c25b1
                                        try clear c26
                                        try clear p26
                                        try clear q26
                                        try clear hx26
                                        try clear c27
                                        try clear p27
                                        try clear q27
                                        try clear hx27
                                        try clear c28
                                        try clear p28
                                        try clear q28
                                        try clear hx28
                                        try clear c29
                                        try clear c29b0
                                        try clear c30
                                        try clear c30b0
                                        try clear c31
                                        try clear c31b0
                                        try clear c32
                                        try clear c32b0
                                        try clear c33
                                        try clear c33b0
                                        try clear c34
                                        try clear c34b0
                                        try clear c34b1
                                        try clear c36
                                        try clear c36b0
                                        try clear c36b1
                                        try clear c37
                                        try clear c40
                                        try clear c40b0
                                        try clear c41
                                        try clear c41b0
                                        try clear c42
                                        try clear c42b0
                                        try clear c43
                                        try clear c43b0
                                        try clear c44
                                        try clear c44b0
                                        try clear hx10_0
                                        try clear hx10_1
                                        try clear hx11_0
                                        try clear hx11_1
                                        try clear hx266_0
                                        try clear hx267_0
                                        try clear hx267_1
                                        try clear hx268_0
                                        try clear hx269_0
                                        try clear hx269_1
                                        try clear hx270_0
                                        try clear hx270_1
                                        try clear hx274_0
                                        try clear hx275_0
                                        try clear hx275_1
                                        try clear hx276_0
                                        try clear hx276_1
                                        try clear hx280_0
                                        try clear hx281_0
                                        try clear p1
                                        try clear p10
                                        try clear p2
                                        try clear p26
                                        try clear p266
                                        try clear p267
                                        try clear p268
                                        try clear p269
                                        try clear p27
                                        try clear p270
                                        try clear p274
                                        try clear p275
                                        try clear p276
                                        try clear p280
                                        try clear p281
                                        try clear p6
                                        try clear q1
                                        try clear q10
                                        try clear q2
                                        try clear q26
                                        try clear q266
                                        try clear q267
                                        try clear q268
                                        try clear q269
                                        try clear q27
                                        try clear q270
                                        try clear q274
                                        try clear q275
                                        try clear q276
                                        try clear q280
                                        try clear q281
                                        obtain ⟨x17_5, x123_5, rfl, rfl, HA, HK5, HO_3, HO_112, HB⟩ := hrel
                                        cases gk with
                                        | zero => exact absurd HA.out (by simp [heap_outcomes.l6])
                                        | succ k5 =>
                                          have H := HA.out
                                          clear HA
                                          simp only [heap_outcomes.l6] at H
                                          by_cases c45 : x123_5 < ((rd_L2 l0 (rd x6_3 x114_4)).length : Int)
                                          · rw [if_pos c45] at H
                                            have c45b0 : decide (x123_5 < ((rd_L2 l0 (rd x6_3 x114_4)).length : Int)) = true := decide_eq_true c45
                                            (try rw [hl266_0] at c45b0); (try rw [hl281_0] at c45b0); (try rw [hl3_1] at c45b0); (try rw [hl3_2] at c45b0); (try rw [hl3_4] at c45b0)
                                            clear c45
                                            by_cases c46 : 0 ≤ x123_5
                                            · rw [if_pos c46] at H
                                              have c46b0 : decide (0 ≤ x123_5) = true := decide_eq_true c46
                                              clear c46
                                              by_cases c47 : x123_5 < ((rd_L2 l0 (rd x6_3 x114_4)).length : Int)
                                              · rw [if_pos c47] at H
                                                have c47b0 : decide (x123_5 < ((rd_L2 l0 (rd x6_3 x114_4)).length : Int)) = true := decide_eq_true c47
                                                (try rw [hl266_0] at c47b0); (try rw [hl281_0] at c47b0); (try rw [hl3_1] at c47b0); (try rw [hl3_2] at c47b0); (try rw [hl3_4] at c47b0)
                                                clear c47
                                                by_cases c48 : 0 ≤ (rd (rd_L2 l0 (rd x6_3 x114_4)) x123_5)
                                                · rw [if_pos c48] at H
                                                  have c48b0 : decide (0 ≤ (rd (rd_L2 l0 (rd x6_3 x114_4)) x123_5)) = true := decide_eq_true c48
                                                  clear c48
                                                  by_cases c49 : (rd (rd_L2 l0 (rd x6_3 x114_4)) x123_5) < (x3_4.length : Int)
                                                  · rw [if_pos c49] at H
                                                    have c49b0 : decide ((rd (rd_L2 l0 (rd x6_3 x114_4)) x123_5) < (x3_4.length : Int)) = true := decide_eq_true c49
                                                    (try rw [hl266_0] at c49b0); (try rw [hl281_0] at c49b0); (try rw [hl3_1] at c49b0); (try rw [hl3_2] at c49b0); (try rw [hl3_4] at c49b0)
                                                    clear c49
                                                    by_cases c50 : (((rd_T75 x3_4 (rd (rd_L2 l0 (rd x6_3 x114_4)) x123_5)).f0) == 0 && (((rd_T75 x3_4 (rd (rd_L2 l0 (rd x6_3 x114_4)) x123_5)).f1) == (wrap64 (x5_2 - 1)))) = true
                                                    · rw [if_pos c50] at H
                                                      have c50b0 : (((rd_T75 x3_4 (rd (rd_L2 l0 (rd x6_3 x114_4)) x123_5)).f0) == 0 && (((rd_T75 x3_4 (rd (rd_L2 l0 (rd x6_3 x114_4)) x123_5)).f1) == (wrap64 (x5_2 - 1)))) = true := c50
                                                      (try (have c50b1 : decide (((rd_T75 x3_4 (rd (rd_L2 l0 (rd x6_3 x114_4)) x123_5)).f0) = 0 && (((rd_T75 x3_4 (rd (rd_L2 l0 (rd x6_3 x114_4)) x123_5)).f1) == (wrap64 (x5_2 - 1)))) = true := by simpa using c50))
                                                      (try (have c50b2 : (((rd_T75 x3_4 (rd (rd_L2 l0 (rd x6_3 x114_4)) x123_5)).f0) == 0 && (((rd_T75 x3_4 (rd (rd_L2 l0 (rd x6_3 x114_4)) x123_5)).f1) == (wrap64 (x5_2 - 1)))) = true := by simpa using c50))
                                                      clear c50
                                                      have H' := Aside0.mk H
                                                      clear H
                                                      have p282 : 0 ≤ (x123_5 : Int) := of_decide_eq_true (by first | (with_reducible assumption) | assumption)
                                                      have q282 : x123_5 < ((rd_L2 l0 (rd x6_3 x114_4)).length : Int) := of_decide_eq_true (by first | (with_reducible assumption) | assumption)
                                                      obtain ⟨ad282, e282, hx282_0⟩ := Kd.at_int HR281_0.out x123_5 p282 q282
                                                      cases e282
                                                      replace hx282_0 := (HB.out.cell (World.block_lt_of_cell? w _ hx282_0)).trans hx282_0
                                                      replace p282 := eq_true p282
                                                      replace q282 := eq_true q282
                                                      have p283 : 0 ≤ ((rd (rd_L2 l0 (rd x6_3 x114_4)) x123_5) : Int) := of_decide_eq_true (by first | (with_reducible assumption) | assumption)
                                                      have q283 : (rd (rd_L2 l0 (rd x6_3 x114_4)) x123_5) < (x3_4.length : Int) := of_decide_eq_true (by first | (with_reducible assumption) | assumption)
                                                      obtain ⟨ad283, e283, hx283_0, hx283_1⟩ := at_T75 (Kd.R_reads' HO_3.out).2.2 (rd (rd_L2 l0 (rd x6_3 x114_4)) x123_5) p283 q283
                                                      cases e283
                                                      replace p283 := eq_true p283
                                                      replace q283 := eq_true q283
                                                      go_wp2
                                                      (try rw [Exit.noGoto_ret]); (try (rw [Exit.noGoto_normal]; try go_wp2)); (try (rw [Exit.noGoto_exit]; try go_wp2))
                                                      go_roundg k5
                                                      case measure => have := HK1.out; have := HK2.out; have := HK3.out; have := HK4.out; have := HK5.out; omega
                                                      case rel => exact ⟨(1), (wrap64 (x123_5 + 1)), (by first | rfl | (simp; done) | (simp [*]; done)), (by first | rfl | (simp; done) | (simp [*]; done)), H', ⟨by have := HK1.out; have := HK2.out; have := HK3.out; have := HK4.out; have := HK5.out; omega⟩, ⟨by (try simp only [hl3_1]); (try simp only [hl3_2]); (try simp only [hl3_4]); (with_reducible repeat (first | apply Kd.R_alloc | apply Kd.R_drewN | apply Kd.R_drew)); exact HO_3.out⟩, ⟨by (try simp only [hl3_1]); (try simp only [hl3_2]); (try simp only [hl3_4]); (with_reducible repeat (first | apply Kd.R_alloc | apply Kd.R_drewN | apply Kd.R_drew)); exact HO_112.out⟩, ⟨by repeat (first | (with_reducible first | exact HB.out | apply below_alloc | apply pw_below_drewN | apply below_drew1) | exact HB.out)⟩⟩
                                                    · rw [if_neg c50] at H
                                                      have c50b0 : (((rd_T75 x3_4 (rd (rd_L2 l0 (rd x6_3 x114_4)) x123_5)).f0) == 0 && (((rd_T75 x3_4 (rd (rd_L2 l0 (rd x6_3 x114_4)) x123_5)).f1) == (wrap64 (x5_2 - 1)))) = false := by simpa using c50
                                                      (try (have c50b1 : decide (((rd_T75 x3_4 (rd (rd_L2 l0 (rd x6_3 x114_4)) x123_5)).f0) = 0 && (((rd_T75 x3_4 (rd (rd_L2 l0 (rd x6_3 x114_4)) x123_5)).f1) == (wrap64 (x5_2 - 1)))) = false := by simpa using c50))
                                                      (try (have c50b2 : (((rd_T75 x3_4 (rd (rd_L2 l0 (rd x6_3 x114_4)) x123_5)).f0) == 0 && (((rd_T75 x3_4 (rd (rd_L2 l0 (rd x6_3 x114_4)) x123_5)).f1) == (wrap64 (x5_2 - 1)))) = false := by simpa using c50))
                                                      (try (have c50b3 : ¬ (((rd_T75 x3_4 (rd (rd_L2 l0 (rd x6_3 x114_4)) x123_5)).f0) = 0 && (((rd_T75 x3_4 (rd (rd_L2 l0 (rd x6_3 x114_4)) x123_5)).f1) == (wrap64 (x5_2 - 1)))) := by simpa using c50))
                                                      clear c50
                                                      have H' := Aside0.mk H
                                                      clear H
                                                      have p282 : 0 ≤ (x123_5 : Int) := of_decide_eq_true (by first | (with_reducible assumption) | assumption)
                                                      have q282 : x123_5 < ((rd_L2 l0 (rd x6_3 x114_4)).length : Int) := of_decide_eq_true (by first | (with_reducible assumption) | assumption)
                                                      obtain ⟨ad282, e282, hx282_0⟩ := Kd.at_int HR281_0.out x123_5 p282 q282
                                                      cases e282
                                                      replace hx282_0 := (HB.out.cell (World.block_lt_of_cell? w _ hx282_0)).trans hx282_0
                                                      replace p282 := eq_true p282
                                                      replace q282 := eq_true q282
                                                      have p283 : 0 ≤ ((rd (rd_L2 l0 (rd x6_3 x114_4)) x123_5) : Int) := of_decide_eq_true (by first | (with_reducible assumption) | assumption)
                                                      have q283 : (rd (rd_L2 l0 (rd x6_3 x114_4)) x123_5) < (x3_4.length : Int) := of_decide_eq_true (by first | (with_reducible assumption) | assumption)
                                                      obtain ⟨ad283, e283, hx283_0, hx283_1⟩ := at_T75 (Kd.R_reads' HO_3.out).2.2 (rd (rd_L2 l0 (rd x6_3 x114_4)) x123_5) p283 q283
                                                      cases e283
                                                      replace p283 := eq_true p283
                                                      replace q283 := eq_true q283
                                                      go_wp2
                                                      (try rw [Exit.noGoto_ret]); (try (rw [Exit.noGoto_normal]; try go_wp2)); (try (rw [Exit.noGoto_exit]; try go_wp2))
                                                      go_roundg k5
                                                      case measure => have := HK1.out; have := HK2.out; have := HK3.out; have := HK4.out; have := HK5.out; omega
                                                      case rel => exact ⟨(x17_5), (wrap64 (x123_5 + 1)), (by first | rfl | (simp; done) | (simp [*]; done)), (by first | rfl | (simp; done) | (simp [*]; done)), H', ⟨by have := HK1.out; have := HK2.out; have := HK3.out; have := HK4.out; have := HK5.out; omega⟩, ⟨by (try simp only [hl3_1]); (try simp only [hl3_2]); (try simp only [hl3_4]); (with_reducible repeat (first | apply Kd.R_alloc | apply Kd.R_drewN | apply Kd.R_drew)); exact HO_3.out⟩, ⟨by (try simp only [hl3_1]); (try simp only [hl3_2]); (try simp only [hl3_4]); (with_reducible repeat (first | apply Kd.R_alloc | apply Kd.R_drewN | apply Kd.R_drew)); exact HO_112.out⟩, ⟨by repeat (first | (with_reducible first | exact HB.out | apply below_alloc | apply pw_below_drewN | apply below_drew1) | exact HB.out)⟩⟩
                                                  · rw [if_neg c49] at H
                                                    exact absurd H (by simp)
                                                · rw [if_neg c48] at H
                                                  exact absurd H (by simp)
                                              · rw [if_neg c47] at H
                                                exact absurd H (by simp)
                                            · rw [if_neg c46] at H
                                              exact absurd H (by simp)
                                          · rw [if_neg c45] at H
                                            have c45b0 : decide (x123_5 < ((rd_L2 l0 (rd x6_3 x114_4)).length : Int)) = false := decide_eq_false c45
                                            (try rw [hl266_0] at c45b0); (try rw [hl281_0] at c45b0); (try rw [hl3_1] at c45b0); (try rw [hl3_2] at c45b0); (try rw [hl3_4] at c45b0)
                                            clear c45
                                            by_cases c51 : 0 ≤ (rd x6_3 x114_4)
                                            · rw [if_pos c51] at H
                                              have c51b0 : decide (0 ≤ (rd x6_3 x114_4)) = true := decide_eq_true c51
                                              clear c51
                                              by_cases c52 : (rd x6_3 x114_4) < (x3_4.length : Int)
                                              · rw [if_pos c52] at H
                                                have c52b0 : decide ((rd x6_3 x114_4) < (x3_4.length : Int)) = true := decide_eq_true c52
                                                (try rw [hl266_0] at c52b0); (try rw [hl281_0] at c52b0); (try rw [hl3_1] at c52b0); (try rw [hl3_2] at c52b0); (try rw [hl3_4] at c52b0)
                                                clear c52
                                                obtain ⟨y284, hy284⟩ : ∃ y_ : List (S75), y_ = (x3_4.set ((rd x6_3 x114_4) : Int).toNat (⟨x17_5, x5_2⟩ : S75)) := ⟨_, rfl⟩
                                                replace H : (heap_outcomes.l5 k5 l0 y284 x5_2 x6_3 (x6_3.length : Int) (wrap64 (x114_4 + 1))) = some r := by first | (rw [hy284]; with_reducible exact H) | (have H2_ := (Option.bind_some _ _).symm.trans H; rw [hy284]; with_reducible exact H2_) | (have H2_ := (Option.bind_some _ _).symm.trans H; with_reducible exact H2_) | with_reducible exact H | (rw [hy284]; exact H) | exact H
                                                have Ny284 := Aside0.mk hy284
                                                clear hy284
                                                have H' := Aside0.mk H
                                                clear H
                                                have p53 : 0 ≤ ((rd x6_3 x114_4) : Int) := of_decide_eq_true (by first | (with_reducible assumption) | assumption)
                                                have q53 : ((rd x6_3 x114_4) : Int) < ((x3_4.length : Int) : Int) := of_decide_eq_true (by first | (with_reducible assumption) | assumption)
                                                obtain ⟨go53, co53, eo53, gb53, gl53, cl53, HG53⟩ := Kd.R_form HO_3.out (by omega)
                                                (first | cases eo53 | (injection eo53 with ea_ en_ ec_; (first | subst ea_ | (injection ea_ with ea_; subst ea_)); subst ec_; clear en_))
                                                have GB53 := Aside0.mk gb53
                                                have GG53 := Aside0.mk HG53
                                                clear gb53 gl53 HG53
                                                obtain ⟨ce53, hcl53, hM53, hcc53, hfr53⟩ := Kd.R_elem HO_3.out z75 ((rd x6_3 x114_4) : Int) p53 q53
                                                obtain rfl := k75_openM hM53
                                                have hx53_0 : wr.cell? ⟨go53, ((rd x6_3 x114_4) : Int).toNat * 2, none⟩ = some (.int .i64 ((rd_T75 x3_4 (rd x6_3 x114_4)).f0)) := hcc53 0 _ rfl
                                                have hx53_1 : wr.cell? ⟨go53, ((rd x6_3 x114_4) : Int).toNat * 2 + 1, none⟩ = some (.int .i64 ((rd_T75 x3_4 (rd x6_3 x114_4)).f1)) := hcc53 1 _ rfl
                                                have hf53_0 : wr.frozen? ⟨go53, ((rd x6_3 x114_4) : Int).toNat * 2, none⟩ = false := hfr53 0
                                                have hf53_1 : wr.frozen? ⟨go53, ((rd x6_3 x114_4) : Int).toNat * 2 + 1, none⟩ = false := hfr53 1
                                                clear hcl53 hcc53 hfr53 hM53
                                                replace p53 := eq_true p53
                                                replace q53 := eq_true q53
                                                have HX54 := Aside0.mk (show Kd.R k75 75 wr w.heap.size (fun _ => True) (.slice (some ⟨go53, 0, none⟩) x3_4.length co6) x3_4 from (by (with_reducible repeat (first | apply Kd.R_alloc | apply Kd.R_drewN | apply Kd.R_drew)); exact HO_3.out))
                                                obtain ⟨ce54, hcl54, hM54, hcc54, hfr54⟩ := Kd.R_elem HX54.out z75 ((rd x6_3 x114_4) : Int) (of_decide_eq_true (by first | (with_reducible assumption) | assumption)) (by have h_ : ((rd x6_3 x114_4) : Int) < ((x3_4.length : Int) : Int) := of_decide_eq_true (by first | (with_reducible assumption) | assumption); first | exact h_ | (have e_ := (Kd.R_reads' HO_3.out).1; omega) | simpa using h_)
                                                obtain rfl := k75_openM hM54
                                                have HP54 := Kd.R_seg HX54.out ((rd x6_3 x114_4) : Int) (of_decide_eq_true (by first | (with_reducible assumption) | assumption)) (by have h_ : ((rd x6_3 x114_4) : Int) < ((x3_4.length : Int) : Int) := of_decide_eq_true (by first | (with_reducible assumption) | assumption); first | exact h_ | (have e_ := (Kd.R_reads' HO_3.out).1; omega) | simpa using h_) (seg := [.int .i64 x17_5, .int .i64 x5_2]) (j := 0) hcl54 hcc54 (show 2 ≤ 2 from by decide) (x' := (⟨x17_5, x5_2⟩ : S75)) (k75_mkM _ _ _ (⟨x17_5, x5_2⟩ : S75) ) (fun _ hk => hk)
                                                have hx54_0 := hcc54 0 _ rfl
                                                (try simp only [show (k75).sz = 2 from rfl, Nat.mul_one, Nat.add_zero] at hx54_0)
                                                have hf54_0 := hfr54 0
                                                (try simp only [show (k75).sz = 2 from rfl, Nat.mul_one, Nat.add_zero] at hf54_0)
                                                have hx54_1 := hcc54 1 _ rfl
                                                (try simp only [show (k75).sz = 2 from rfl, Nat.mul_one, Nat.add_zero] at hx54_1)
                                                have hf54_1 := hfr54 1
                                                (try simp only [show (k75).sz = 2 from rfl, Nat.mul_one, Nat.add_zero] at hf54_1)
                                                clear hcl54 hcc54 hfr54 hM54
                                                go_wp2_with (first | ((with_reducible refine gate_store (t := 75) (p := 141) rfl ?_); refine store_event (t := 75) (p := 141) (v := ?vo_w55) (w1 := ((wr.setCell ⟨go53, ((rd x6_3 x114_4) : Int).toNat * 2, none⟩ (.int .i64 x17_5)).setCell ⟨go53, ((rd x6_3 x114_4) : Int).toNat * 2 + 1, none⟩ (.int .i64 x5_2))) ?hg ?ho ?hn ?hr ?_; (case ho => rfl); (case hg => rfl); (case hn => rfl); (case hr => first | (go_simp; done) | (go_simp; rfl)); intro w55 hw; have hg : wr.grownBy w55 (some go53) := (by rw [hw]; exact HP54.2); have hp_ : Kd.R k75 75 w55 w.heap.size (fun _ => True) (.slice (some ⟨go53, 0, none⟩) x3_4.length co6) y284 := (by rw [hw, Ny284.out]; exact HP54.1); clear HP54; have n0_ := Aside0.mk (hp_); have n1_ := Aside0.mk (Kd.R_over' (v := (.slice (some ⟨go53, 0, none⟩) x3_4.length co6)) (by (with_reducible repeat (first | apply Kd.R_alloc | apply Kd.R_drewN | apply Kd.R_drew)); exact HO_112.out) (Kd.R_typed HO_3.out) (by decide) hg); have n2_ := Aside0.mk ((by rw [hw]; exact below_set (below_set (HB.out) GB53.out) GB53.out : Below w.heap.size w w55)); clear HO_3; clear HO_112; clear HB; have HO_3 := n0_; have HO_112 := n1_; have HB := n2_; clear n0_ n1_ n2_; clear hg hw hp_))
                                                (try simp only [← hl3_4])
                                                (try rw [Exit.noGoto_ret]); (try (rw [Exit.noGoto_normal]; try go_wp2)); (try (rw [Exit.noGoto_exit]; try go_wp2))
                                                go_roundg k5
                                                case measure => have := HK1.out; have := HK2.out; have := HK3.out; have := HK4.out; have := HK5.out; omega
                                                case rel => exact ⟨(y284), (wrap64 (x114_4 + 1)), (by first | rfl | (simp; done) | (simp [*]; done)), H', ⟨by have := HK1.out; have := HK2.out; have := HK3.out; have := HK4.out; have := HK5.out; omega⟩, ⟨by (try simp only [hl3_1]); (try simp only [hl3_2]); (try simp only [hl3_4]); (with_reducible repeat (first | apply Kd.R_alloc | apply Kd.R_drewN | apply Kd.R_drew)); exact HO_3.out⟩, ⟨by (try simp only [hl3_1]); (try simp only [hl3_2]); (try simp only [hl3_4]); (with_reducible repeat (first | apply Kd.R_alloc | apply Kd.R_drewN | apply Kd.R_drew)); exact HO_112.out⟩, ⟨by repeat (first | (with_reducible first | exact HB.out | apply below_alloc | apply pw_below_drewN | apply below_drew1) | exact HB.out)⟩⟩
                                              · rw [if_neg c52] at H
                                                exact absurd H (by simp)
                                            · rw [if_neg c51] at H
                                              exact absurd H (by simp)
                                    · rw [if_neg c44] at H
                                      exact absurd H (by simp)
                                  · rw [if_neg c43] at H
                                    exact absurd H (by simp)
                                · rw [if_neg c42] at H
                                  exact absurd H (by simp)
                              · rw [if_neg c41] at H
                                exact absurd H (by simp)
                            · rw [if_neg c40] at H
                              have c40b0 : decide (x114_4 < (x6_3.length : Int)) = false := decide_eq_false c40
                              (try rw [hl266_0] at c40b0); (try rw [hl281_0] at c40b0); (try rw [hl3_1] at c40b0); (try rw [hl3_2] at c40b0); (try rw [hl3_4] at c40b0)
                              clear c40
                              have H' := Aside0.mk H
                              clear H
                              go_wp2
                              (try simp only [← hl3_2, ← hl3_4])
                              (try rw [Exit.noGoto_ret]); (try (rw [Exit.noGoto_normal]; try go_wp2)); (try (rw [Exit.noGoto_exit]; try go_wp2))
                              go_roundg k4
                              case measure => have := HK1.out; have := HK2.out; have := HK3.out; have := HK4.out; omega
                              case rel => exact ⟨(x3_4), (wrap64 (x5_2 + 1)), (by first | rfl | (simp; done) | (simp [*]; done)), H', ⟨by have := HK1.out; have := HK2.out; have := HK3.out; have := HK4.out; omega⟩, ⟨by (try simp only [hl3_1]); (try simp only [hl3_2]); (try simp only [hl3_4]); (with_reducible repeat (first | apply Kd.R_alloc | apply Kd.R_drewN | apply Kd.R_drew)); exact HO_3.out⟩, ⟨by repeat (first | (with_reducible first | exact HB.out | apply below_alloc | apply pw_below_drewN | apply below_drew1) | exact HB.out)⟩⟩
                · rw [if_neg c13] at H
                  have c13b0 : decide (x5_2 ≤ (l0.length : Int)) = false := decide_eq_false c13
                  (try rw [hl266_0] at c13b0); (try rw [hl281_0] at c13b0); (try rw [hl3_1] at c13b0); (try rw [hl3_2] at c13b0); (try rw [hl3_4] at c13b0)
                  clear c13
                  obtain rfl := Option.some.inj H
                  go_wp2
                  (try rw [Exit.noGoto_ret]); (try (rw [Exit.noGoto_normal]; try go_wp2)); (try (rw [Exit.noGoto_exit]; try go_wp2)); (try go_simp)
                  go_ret
                  exact ⟨_, by first | rfl | (simp [errW_none, errW_some] <;> rfl) | (simp [*, errW_none, errW_some] <;> rfl), by (with_reducible repeat (first | apply Kd.R_alloc | apply Kd.R_drewN | apply Kd.R_drew)); exact HO_3.out, by repeat (first | (with_reducible first | exact HB.out | apply below_alloc | apply pw_below_drewN | apply below_drew1) | exact HB.out)⟩
    · rw [if_neg c3] at H
      exact absurd H (by simp)
  · rw [if_neg c2] at H
    exact absurd H (by simp)

end Go.Proofs.YtkfbdhlfajdpgaaGreatDoor.PHeapMoves
namespace Go.Proofs.YtkfbdhlfajdpgaaGreatDoor.PHeapMoves
open Go.RowKit Go.Proofs.YtkfbdhlfajdpgaaGreatDoorW.PrintWords Go.Proofs.YtkfbdhlfajdpgaaGreatDoorW.PrintLast Go.Proofs.YtkfbdhlfajdpgaaGreatDoorW.PrintMore
attribute [local go_sem] max2_int min2_int max_two min_two max_three min_three max_four min_four   -- for this text's walks alone
set_option linter.unusedVariables false
set_option linter.unusedSimpArgs false

/-! ### heap_Outcomes: function 33 -/
def heap_Outcomes.l0 : Nat → List Int → List Int → List (S75) → Int → Int → Option (List Int × List Int × Int)
  | 0, _, _, _, _, _ => none
  | k + 1, x6, x7, x16, x17, x18 => if x18 < x17 then (if 0 ≤ x18 then (if x18 < (x16.length : Int) then (if x6.length < 17592186044416 then (if x7.length < 17592186044416 then (heap_Outcomes.l0 k (x6 ++ [(rd_T75 x16 x18).f0]) (x7 ++ [(rd_T75 x16 x18).f1]) x16 x17 (wrap64 (x18 + 1))) else (none)) else (none)) else (none)) else (none)) else (some (x6, x7, 0))
def heap_Outcomes.f (k : Nat) (l0 : List (List Int)) : Option (List Int × List Int × Int) := (heap_CheckGraph.f k l0).bind fun t285 => (if t285 = 0 then ((heap_outcomes.f k l0).bind fun t286 => (heap_Outcomes.l0 k ([] : List Int) ([] : List Int) t286 (t286.length : Int) 0)) else (some (([] : List Int), ([] : List Int), t285)))
theorem heap_Outcomes.mono_l : ∀ k, (∀ y0 y1 y2 y3 y4, LeO (heap_Outcomes.l0 k y0 y1 y2 y3 y4) (heap_Outcomes.l0 (k + 1) y0 y1 y2 y3 y4))
  | 0 => fun _ _ _ _ _ r h => by simp [heap_Outcomes.l0] at h
  | k + 1 => by
    have ih0 := heap_Outcomes.mono_l k
    · intro y0 y1 y2 y3 y4
      unfold heap_Outcomes.l0
      repeat' first
      | (with_reducible exact ih0 _ _ _ _ _)
      | (with_reducible exact heap_CheckGraph.mono _ _)
      | (with_reducible exact heap_outcomes.mono _ _)
      | (with_reducible exact LeO.refl _)
      | (with_reducible exact LeO.none _)
      | (with_reducible refine LeO.ite ?_ ?_)
      | (with_reducible refine LeO.bind ?_ (fun _ => ?_))
      | exact ih0 _ _ _ _ _
      | exact heap_CheckGraph.mono _ _
      | exact heap_outcomes.mono _ _
      | exact LeO.none _
      | refine LeO.ite ?_ ?_
      | refine LeO.bind ?_ (fun _ => ?_)
theorem heap_Outcomes.mono : ∀ a0 k, LeO (heap_Outcomes.f k a0) (heap_Outcomes.f (k + 1) a0) := by
  intro a0 k
  have ih0 := heap_Outcomes.mono_l k
  unfold heap_Outcomes.f
  repeat' first
      | (with_reducible exact ih0 _ _ _ _ _)
      | (with_reducible exact heap_CheckGraph.mono _ _)
      | (with_reducible exact heap_outcomes.mono _ _)
      | (with_reducible exact LeO.refl _)
      | (with_reducible exact LeO.none _)
      | (with_reducible refine LeO.ite ?_ ?_)
      | (with_reducible refine LeO.bind ?_ (fun _ => ?_))
      | exact ih0 _ _ _ _ _
      | exact heap_CheckGraph.mono _ _
      | exact heap_outcomes.mono _ _
      | exact LeO.none _
      | refine LeO.ite ?_ ?_
      | refine LeO.bind ?_ (fun _ => ?_)
set_option maxHeartbeats 8000000 in
set_option maxRecDepth 100000 in
theorem heap_Outcomes.calls (k : Nat) (A0 : Option Addr) (c0 : Nat) (l0 : List (List Int)) (r1 : List Int) (r2 : List Int) (r3 : Int) (w : World) (hr0 : Kd.C (Kd.slice 3 (Kd.int .i64)) w A0 l0.length l0) (hc0 : l0.length ≤ c0) (h : heap_Outcomes.f k l0 = some (r1, r2, r3)) :
    Calls Tryz.prog 33 #[.slice A0 l0.length c0] w fun e w' => ∃ v0_ v1_ : Value, e = .returned (.tuple #[v0_, v1_, .int .i64 r3]) ∧ Kd.R (Kd.int .i64) 3 w' w.heap.size (fun k_ => some k_ ≠ (v1_ : Value).ownBlock) v0_ r1 ∧ Kd.R (Kd.int .i64) 3 w' w.heap.size (fun k_ => some k_ ≠ (v0_ : Value).ownBlock) v1_ r2 ∧ Below w.heap.size w w' := by
  have hu75 := Tryz.underlying75
  have HR0 := Aside0.mk hr0
  have HC0 := Aside0.mk hc0
  clear hr0 hc0
  have HB := Aside0.mk (Below.refl w.heap.size w)
  have H : ((heap_CheckGraph.f k l0).bind fun t285 => (if t285 = 0 then ((heap_outcomes.f k l0).bind fun t286 => (heap_Outcomes.l0 k ([] : List Int) ([] : List Int) t286 (t286.length : Int) 0)) else (some (([] : List Int), ([] : List Int), t285)))) = some (r1, r2, r3) := h
  clear h
  replace H := Option.bind_eq_some_iff.mp H
  obtain ⟨t285, A20, H⟩ := H
  replace H : (if t285 = 0 then ((heap_outcomes.f k l0).bind fun t286 => (heap_Outcomes.l0 k ([] : List Int) ([] : List Int) t286 (t286.length : Int) 0)) else (some (([] : List Int), ([] : List Int), t285))) = some (r1, r2, r3) := H
  have A2 := Aside0.mk A20
  clear A20
  by_cases c3 : t285 = 0
  · rw [if_pos c3] at H
    have c3b0 : (t285 == 0) = true := beq_iff_eq.mpr c3
    have c3b1 : (t285 != 0) = false := bne_eq_false_iff_eq.mpr c3
    clear c3
    replace H := Option.bind_eq_some_iff.mp H
    obtain ⟨t286, A40, H⟩ := H
    replace H : (heap_Outcomes.l0 k ([] : List Int) ([] : List Int) t286 (t286.length : Int) 0) = some (r1, r2, r3) := H
    have A4 := Aside0.mk A40
    clear A40
    have H' := Aside0.mk H
    clear H
    go_enter Tryz.func33, Tryz.ntmps33
    go_wp2_with (first | ((with_reducible refine gate_callee (f := 46) rfl ?_); refine goesL_ (some 11) rfl rfl Tryz.func46 (by kernel_rfl) rfl #[.slice A0 l0.length c0] rfl (by (try simp only [List.map_toArray, List.map_cons, List.map_nil]); first | done | rfl | (simp only [List.length_drop, List.length_take]; rfl)) ?_; (with_reducible refine (heap_CheckGraph.calls k _ _ l0 t285 _ ?side1 ?side2 A2.out).mono ?_); (case side1 => repeat (first | exact HR0.out | (with_reducible refine Kd.C_alloc ?_ _) | (with_reducible refine Kd.C_drewN ?_ _) | (with_reducible refine Kd.C_drew ?_))); (case side2 => exact HC0.out); rintro e w' ⟨rfl, ⟨nd, rfl⟩⟩; refine ⟨_, rfl, ?_⟩) | ((with_reducible refine gate_callee (f := 47) rfl ?_); refine goesL_ (some 16) rfl rfl Tryz.func47 (by kernel_rfl) rfl #[.slice A0 l0.length c0] rfl (by (try simp only [List.map_toArray, List.map_cons, List.map_nil]); first | done | rfl | (simp only [List.length_drop, List.length_take]; rfl)) ?_; (with_reducible refine (heap_outcomes.calls k _ _ l0 t286 _ ?side1 ?side2 A4.out).mono ?_); (case side1 => repeat (first | exact HR0.out | (with_reducible refine Kd.C_alloc ?_ _) | (with_reducible refine Kd.C_drewN ?_ _) | (with_reducible refine Kd.C_drew ?_))); (case side2 => exact HC0.out); rintro e w5 ⟨v287, rfl, ho0, hb⟩; refine ⟨_, rfl, ?_⟩; have n0_ := Aside0.mk (Kd.R_lower ho0 (below_size (by repeat (first | (with_reducible first | exact HB.out | apply below_alloc | apply pw_below_drewN | apply below_drew1) | exact HB.out)))); have n1_ := Aside0.mk (below_step (by repeat (first | (with_reducible first | exact HB.out | apply below_alloc | apply pw_below_drewN | apply below_drew1) | exact HB.out)) hb); clear HB; have HO288 := n0_; have HB := n1_; clear n0_ n1_; (try clear hb); (try clear hb2); (try clear hk); (try clear hi); (try clear ho0); obtain ⟨Ao6, co6, eo6⟩ := Kd.R_slice HO288.out; subst eo6))
    go_loopg [6, 7, 18] k (fun kq v6 v7 v18 w' => ∃ (x6_1 : List Int) (x7_1 : List Int) (x18_1 : Int), v18 = .int .i64 x18_1 ∧ Aside0 (heap_Outcomes.l0 kq x6_1 x7_1 t286 (t286.length : Int) x18_1 = some (r1, r2, r3)) ∧ Aside0 (kq ≤ k) ∧ Aside0 (Kd.R (Kd.int .i64) 3 w' w.heap.size (fun k_ => some k_ ≠ (v7 : Value).ownBlock) v6 x6_1) ∧ Aside0 (Kd.R (Kd.int .i64) 3 w' w.heap.size (fun k_ => some k_ ≠ (v6 : Value).ownBlock) v7 x7_1) ∧ Aside0 (Kd.R k75 75 w' w.heap.size (fun _ => True) (.slice Ao6 t286.length co6) t286) ∧ Aside0 (Below w.heap.size w w'))
    case atStart => exact ⟨(([] : List Int)), (([] : List Int)), (0), (by first | rfl | (simp; done) | (simp [*]; done)), H', ⟨Nat.le_refl _⟩, ⟨by first | exact Kd.R_nil _ _ _ _ _ | exact Kd.N_nil _ _ _ _ _ | exact Kd.V_nil _ _ _ _ _ | exact Kd.Q_nil _ _ _ _ _ | exact Kd.S_nil _ _ _ _ _⟩, ⟨by first | exact Kd.R_nil _ _ _ _ _ | exact Kd.N_nil _ _ _ _ _ | exact Kd.V_nil _ _ _ _ _ | exact Kd.Q_nil _ _ _ _ _ | exact Kd.S_nil _ _ _ _ _⟩, ⟨by (with_reducible repeat (first | apply Kd.R_alloc | apply Kd.R_drewN | apply Kd.R_drew)); exact HO288.out⟩, ⟨by repeat (first | (with_reducible first | exact HB.out | apply below_alloc | apply pw_below_drewN | apply below_drew1) | exact HB.out)⟩⟩
    case round =>
      clear H'
      try clear p2
      try clear c3
      try clear c3b0
      try clear c3b1
      try clear c4
      obtain ⟨x6_1, x7_1, x18_1, rfl, HA, HK1, HO_6, HO_7, HO_16, HB⟩ := hrel
      cases gk with
      | zero => exact absurd HA.out (by simp [heap_Outcomes.l0])
      | succ k1 =>
        have H := HA.out
        clear HA
        simp only [heap_Outcomes.l0] at H
        by_cases c7 : x18_1 < (t286.length : Int)
        · rw [if_pos c7] at H
          have c7b0 : decide (x18_1 < (t286.length : Int)) = true := decide_eq_true c7
          clear c7
          by_cases c8 : 0 ≤ x18_1
          · rw [if_pos c8] at H
            have c8b0 : decide (0 ≤ x18_1) = true := decide_eq_true c8
            clear c8
            by_cases c9 : x18_1 < (t286.length : Int)
            · rw [if_pos c9] at H
              have c9b0 : decide (x18_1 < (t286.length : Int)) = true := decide_eq_true c9
              clear c9
              by_cases c10 : x6_1.length < 17592186044416
              · rw [if_pos c10] at H
                have LMc10 := Aside0.mk c10
                clear c10
                obtain ⟨y291, hy291⟩ : ∃ y_ : List Int, y_ = (x6_1 ++ [(rd_T75 t286 x18_1).f0]) := ⟨_, rfl⟩
                replace H : (if x7_1.length < 17592186044416 then (heap_Outcomes.l0 k1 y291 (x7_1 ++ [(rd_T75 t286 x18_1).f1]) t286 (t286.length : Int) (wrap64 (x18_1 + 1))) else (none)) = some (r1, r2, r3) := by first | (rw [hy291]; with_reducible exact H) | (have H2_ := (Option.bind_some _ _).symm.trans H; rw [hy291]; with_reducible exact H2_) | (have H2_ := (Option.bind_some _ _).symm.trans H; with_reducible exact H2_) | with_reducible exact H | (rw [hy291]; exact H) | exact H
                have Ny291 := Aside0.mk hy291
                clear hy291
                by_cases c11 : x7_1.length < 17592186044416
                · rw [if_pos c11] at H
                  have LMc11 := Aside0.mk c11
                  clear c11
                  obtain ⟨y294, hy294⟩ : ∃ y_ : List Int, y_ = (x7_1 ++ [(rd_T75 t286 x18_1).f1]) := ⟨_, rfl⟩
                  replace H : (heap_Outcomes.l0 k1 y291 y294 t286 (t286.length : Int) (wrap64 (x18_1 + 1))) = some (r1, r2, r3) := by first | (rw [hy294]; with_reducible exact H) | (have H2_ := (Option.bind_some _ _).symm.trans H; rw [hy294]; with_reducible exact H2_) | (have H2_ := (Option.bind_some _ _).symm.trans H; with_reducible exact H2_) | with_reducible exact H | (rw [hy294]; exact H) | exact H
                  have Ny294 := Aside0.mk hy294
                  clear hy294
                  have H' := Aside0.mk H
                  clear H
                  have p289 : 0 ≤ (x18_1 : Int) := of_decide_eq_true (by first | (with_reducible assumption) | assumption)
                  have q289 : x18_1 < (t286.length : Int) := of_decide_eq_true (by first | (with_reducible assumption) | assumption)
                  obtain ⟨ad289, e289, hx289_0, hx289_1⟩ := at_T75 (Kd.R_reads' HO_16.out).2.2 x18_1 p289 q289
                  cases e289
                  replace p289 := eq_true p289
                  replace q289 := eq_true q289
                  go_wp2_with (first | ((with_reducible refine gate_dst (N := 9) rfl ?_); refine box_event ?hg (N := 9) ?hd (cs := #[.int .i64 0, .int .i64 0]) (t := 75) ?hr ?_; (case hd => rfl); (case hg => rfl); (case hr => first | (go_simp; done) | (go_simp; rfl)); intro gb290 hg w12 hbox hb; have n0_ := Aside0.mk (Kd.R_below (by (with_reducible repeat (first | apply Kd.R_alloc | apply Kd.R_drewN | apply Kd.R_drew)); exact HO_6.out) hb); have n1_ := Aside0.mk (Kd.R_below (by (with_reducible repeat (first | apply Kd.R_alloc | apply Kd.R_drewN | apply Kd.R_drew)); exact HO_7.out) hb); have n2_ := Aside0.mk (Kd.R_below (Kd.R_elderB (by (with_reducible repeat (first | apply Kd.R_alloc | apply Kd.R_drewN | apply Kd.R_drew)); exact HO_16.out) gb290 (Nat.le_of_eq hg.symm)) hb); have n3_ := Aside0.mk (below_step (by repeat (first | (with_reducible first | exact HB.out | apply below_alloc | apply pw_below_drewN | apply below_drew1) | exact HB.out)) hb); have n4_ := Aside0.mk (hbox); have n5_ := Aside0.mk ((by rw [hg]; exact (below_size (by repeat (first | (with_reducible first | exact HB.out | apply below_alloc | apply pw_below_drewN | apply below_drew1) | exact HB.out))) : w.heap.size ≤ gb290)); have n6_ := Aside0.mk ((by rw [hg]; exact (below_size (by repeat (first | (with_reducible first | exact HB.out | apply below_alloc | apply pw_below_drewN | apply below_drew1) | exact HB.out))) : w.heap.size ≤ gb290)); clear HO_6; clear HO_7; clear HO_16; clear HB; have HO_6 := n0_; have HO_7 := n1_; have HO_16 := n2_; have HB := n3_; have BK290 := n4_; have GW290 := n5_; have GE290 := n6_; clear n0_ n1_ n2_ n3_ n4_ n5_ n6_; clear hb hbox hg; have hcz13_0 : w12.cell? ⟨gb290, 0, none⟩ = some (.int .i64 0) := (blk_cell BK290.out 0).trans rfl; have hcz13_1 : w12.cell? ⟨gb290, 1, none⟩ = some (.int .i64 0) := (blk_cell BK290.out 1).trans rfl; have hfz13_0 := blk_frozen BK290.out 0; have hfz13_1 := blk_frozen BK290.out 1) | ((with_reducible refine gate_builtin (b := .append) (xs := #[.tmp 22, .tmp 25]) rfl ?_); at_builtin; refine Kd.R_append (Kd.int .i64) (w0 := w) w.heap.size rfl (.tmp 22) (.tmp 25) 22 3 (.int .i64 0) 8 rfl Tryz.underlying22 info3 rfl (by decide) (by omega) u6 x6_1 ((rd_T75 t286 x18_1).f0) [.int .i64 ((rd_T75 t286 x18_1).f0)] (fun k_ => some k_ ≠ (u7 : Value).ownBlock) (fun _ => False) rfl (by first | (go_simp; done) | (go_simp; rfl)) ?aP (fun _ hk => hk.elim) ?aF ?aO ?aB ?aS ?aL ?_; (case aP => exact rfl); (case aB => exact (by repeat (first | (with_reducible first | exact HB.out | apply below_alloc | apply pw_below_drewN | apply below_drew1 | refine below_set ?_ GE290.out) | exact HB.out))); (case aF => exact (fun k_ hk => Kd.fresh' (Kd.R_lt (by (with_reducible repeat (first | apply Kd.R_alloc | apply Kd.R_drewN | apply Kd.R_drew)); exact (Kd.R_mono (Kd.R_far (p := ⟨gb290, 1, none⟩) (Kd.R_far (p := ⟨gb290, 0, none⟩) (Kd.R_types HO_7.out BK290.out (by decide)) (fun _ hk => hk.2) (.int .i64 ((rd_T75 t286 x18_1).f0))) (fun _ hk => hk.2) (.int .i64 ((rd_T75 t286 x18_1).f1))) (fun _ h_ => h_.1)))) k_ hk)); (case aO => exact (by (with_reducible repeat (first | apply Kd.R_alloc | apply Kd.R_drewN | apply Kd.R_drew)); exact Kd.R_mono (Kd.R_far (p := ⟨gb290, 1, none⟩) (Kd.R_far (p := ⟨gb290, 0, none⟩) (Kd.R_types HO_6.out BK290.out (by decide)) (fun _ hk => hk.2) (.int .i64 ((rd_T75 t286 x18_1).f0))) (fun _ hk => hk.2) (.int .i64 ((rd_T75 t286 x18_1).f1))) (fun _ hk => hk.1))); (case aS => exact (below_size (by repeat (first | (with_reducible first | exact HB.out | apply below_alloc | apply pw_below_drewN | apply below_drew1 | refine below_set ?_ GE290.out) | exact HB.out)))); (case aL => have := LMc10.out; omega); intro v292 w14 ho hb hg hat; rw [← Ny291.out] at ho; have n0_ := Aside0.mk (Kd.R_after (ok := (fun _ => True)) (by (with_reducible repeat (first | apply Kd.R_alloc | apply Kd.R_drewN | apply Kd.R_drew)); exact Kd.R_mono (Kd.R_far (p := ⟨gb290, 1, none⟩) (Kd.R_far (p := ⟨gb290, 0, none⟩) (Kd.R_types HO_7.out BK290.out (by decide)) (fun _ hk => hk.2) (.int .i64 ((rd_T75 t286 x18_1).f0))) (fun _ hk => hk.2) (.int .i64 ((rd_T75 t286 x18_1).f1))) (fun _ hk => ⟨trivial, hk.1⟩)) hg hat); have n1_ := Aside0.mk (Kd.R_over' (by (with_reducible repeat (first | apply Kd.R_alloc | apply Kd.R_drewN | apply Kd.R_drew)); exact (Kd.R_mono (Kd.R_far (p := ⟨gb290, 1, none⟩) (Kd.R_far (p := ⟨gb290, 0, none⟩) (Kd.R_mono HO_16.out (fun k_ hk => (⟨hk, hk.2⟩ : _ ∧ k_ ≠ gb290))) (fun _ hk => hk.2) (.int .i64 ((rd_T75 t286 x18_1).f0))) (fun _ hk => hk.2) (.int .i64 ((rd_T75 t286 x18_1).f1))) (fun _ h_ => h_.1))) (Kd.R_typed (by (with_reducible repeat (first | apply Kd.R_alloc | apply Kd.R_drewN | apply Kd.R_drew)); exact (Kd.R_mono (Kd.R_far (p := ⟨gb290, 1, none⟩) (Kd.R_far (p := ⟨gb290, 0, none⟩) (Kd.R_types HO_6.out BK290.out (by decide)) (fun _ hk => hk.2) (.int .i64 ((rd_T75 t286 x18_1).f0))) (fun _ hk => hk.2) (.int .i64 ((rd_T75 t286 x18_1).f1))) (fun _ h_ => h_.1)))) (by decide) hg); have n2_ := Aside0.mk (blk_grown (g := gb290) (o := .cells #[.int .i64 ((rd_T75 t286 x18_1).f0), .int .i64 ((rd_T75 t286 x18_1).f1)] 75 (0, 0)) (by (with_reducible repeat (first | refine blk_drewN ?_ _ | refine blk_drew ?_ | refine blk_alloc ?_ _)); refine blk_put (cs := #[.int .i64 ((rd_T75 t286 x18_1).f0), .int .i64 0]) ?_ 1 _ rfl; (with_reducible repeat (first | refine blk_drewN ?_ _ | refine blk_drew ?_ | refine blk_alloc ?_ _)); refine blk_put (cs := #[.int .i64 0, .int .i64 0]) ?_ 0 _ rfl; (with_reducible repeat (first | refine blk_drewN ?_ _ | refine blk_drew ?_ | refine blk_alloc ?_ _)); exact BK290.out) hg (Kd.R_ne HO_6.out BK290.out (by decide))); have n3_ := Aside0.mk (hb); have n4_ := Aside0.mk (ho); clear HO_7; clear HO_16; clear BK290; clear HB; clear HO_6; have HO_7 := n0_; have HO_16 := n1_; have BK290 := n2_; have HB := n3_; have HO293 := n4_; clear n0_ n1_ n2_ n3_ n4_; clear ho hb hg hat; have hcz15_0 : w14.cell? ⟨gb290, 0, none⟩ = some (.int .i64 ((rd_T75 t286 x18_1).f0)) := (blk_cell BK290.out 0).trans rfl; have hcz15_1 : w14.cell? ⟨gb290, 1, none⟩ = some (.int .i64 ((rd_T75 t286 x18_1).f1)) := (blk_cell BK290.out 1).trans rfl; have hfz15_0 := blk_frozen BK290.out 0; have hfz15_1 := blk_frozen BK290.out 1) | ((with_reducible refine gate_builtin (b := .append) (xs := #[.tmp 27, .tmp 30]) rfl ?_); at_builtin; refine Kd.R_append (Kd.int .i64) (w0 := w) w.heap.size rfl (.tmp 27) (.tmp 30) 22 3 (.int .i64 0) 8 rfl Tryz.underlying22 info3 rfl (by decide) (by omega) u7 x7_1 ((rd_T75 t286 x18_1).f1) [.int .i64 ((rd_T75 t286 x18_1).f1)] (fun k_ => some k_ ≠ (v292 : Value).ownBlock) (fun _ => False) rfl rfl ?aP (fun _ hk => hk.elim) ?aF ?aO ?aB ?aS ?aL ?_; (case aP => exact rfl); (case aB => exact (by repeat (first | (with_reducible first | exact HB.out | apply below_alloc | apply pw_below_drewN | apply below_drew1 | refine below_set ?_ GE290.out) | exact HB.out))); (case aF => exact (fun k_ hk => Kd.fresh' (Kd.R_lt (by (with_reducible repeat (first | apply Kd.R_alloc | apply Kd.R_drewN | apply Kd.R_drew)); exact HO293.out)) k_ hk)); (case aO => exact (by (with_reducible repeat (first | apply Kd.R_alloc | apply Kd.R_drewN | apply Kd.R_drew)); exact Kd.R_mono HO_7.out (fun _ hk => hk.2))); (case aS => exact (below_size (by repeat (first | (with_reducible first | exact HB.out | apply below_alloc | apply pw_below_drewN | apply below_drew1 | refine below_set ?_ GE290.out) | exact HB.out)))); (case aL => have := LMc11.out; omega); intro v295 w16 ho hb hg hat; rw [← Ny294.out] at ho; have n0_ := Aside0.mk (Kd.R_over' (by (with_reducible repeat (first | apply Kd.R_alloc | apply Kd.R_drewN | apply Kd.R_drew)); exact HO_16.out) (Kd.R_typed (by (with_reducible repeat (first | apply Kd.R_alloc | apply Kd.R_drewN | apply Kd.R_drew)); exact HO_7.out)) (by decide) hg); have n1_ := Aside0.mk (blk_grown (g := gb290) (o := .cells #[.int .i64 ((rd_T75 t286 x18_1).f0), .int .i64 ((rd_T75 t286 x18_1).f1)] 75 (0, 0)) (by (with_reducible repeat (first | refine blk_drewN ?_ _ | refine blk_drew ?_ | refine blk_alloc ?_ _)); exact BK290.out) hg (Kd.R_ne HO_7.out BK290.out (by decide))); have n2_ := Aside0.mk (Kd.R_after (ok := (fun _ => True)) (by (with_reducible repeat (first | apply Kd.R_alloc | apply Kd.R_drewN | apply Kd.R_drew)); exact Kd.R_mono HO293.out (fun _ hk => ⟨trivial, hk⟩)) hg hat); have n3_ := Aside0.mk (hb); have n4_ := Aside0.mk (ho); clear HO_16; clear BK290; clear HO293; clear HB; clear HO_7; have HO_16 := n0_; have BK290 := n1_; have HO293 := n2_; have HB := n3_; have HO296 := n4_; clear n0_ n1_ n2_ n3_ n4_; clear ho hb hg hat))
                  go_roundg k1
                  case measure => have := HK1.out; omega
                  case rel => exact ⟨(y291), (y294), (wrap64 (x18_1 + 1)), (by first | rfl | (simp; done) | (simp [*]; done)), H', ⟨by have := HK1.out; omega⟩, ⟨by (with_reducible repeat (first | apply Kd.R_alloc | apply Kd.R_drewN | apply Kd.R_drew)); exact Kd.R_mono HO293.out (fun _ hk => hk.2)⟩, ⟨by (with_reducible repeat (first | apply Kd.R_alloc | apply Kd.R_drewN | apply Kd.R_drew)); exact HO296.out⟩, ⟨by (with_reducible repeat (first | apply Kd.R_alloc | apply Kd.R_drewN | apply Kd.R_drew)); exact Kd.R_mono HO_16.out (fun _ hk => trivial)⟩, ⟨by repeat (first | (with_reducible first | exact HB.out | apply below_alloc | apply pw_below_drewN | apply below_drew1 | refine below_set ?_ GE290.out) | exact HB.out)⟩⟩
                · rw [if_neg c11] at H
                  exact absurd H (by simp)
              · rw [if_neg c10] at H
                exact absurd H (by simp)
            · rw [if_neg c9] at H
              exact absurd H (by simp)
          · rw [if_neg c8] at H
            exact absurd H (by simp)
        · rw [if_neg c7] at H
          have c7b0 : decide (x18_1 < (t286.length : Int)) = false := decide_eq_false c7
          clear c7
          simp only [Option.some.injEq, Prod.mk.injEq] at H
          obtain ⟨rfl, rfl, rfl⟩ := H
          go_wp2
          go_ret3
          exact ⟨_, _, by first | rfl | (simp [errW_none, errW_some] <;> rfl) | (simp [*, errW_none, errW_some] <;> rfl), by (with_reducible repeat (first | apply Kd.R_alloc | apply Kd.R_drewN | apply Kd.R_drew)); exact HO_6.out, by (with_reducible repeat (first | apply Kd.R_alloc | apply Kd.R_drewN | apply Kd.R_drew)); exact HO_7.out, by repeat (first | (with_reducible first | exact HB.out | apply below_alloc | apply pw_below_drewN | apply below_drew1) | exact HB.out)⟩
  · rw [if_neg c3] at H
    have c3b0 : (t285 == 0) = false := beq_eq_false_iff_ne.mpr c3
    have c3b1 : (t285 != 0) = true := bne_iff_ne.mpr c3
    simp only [Option.some.injEq, Prod.mk.injEq] at H
    obtain ⟨rfl, rfl, rfl⟩ := H
    go_enter Tryz.func33, Tryz.ntmps33
    go_wp2_with (first | ((with_reducible refine gate_callee (f := 46) rfl ?_); refine goesL_ (some 11) rfl rfl Tryz.func46 (by kernel_rfl) rfl #[.slice A0 l0.length c0] rfl (by (try simp only [List.map_toArray, List.map_cons, List.map_nil]); first | done | rfl | (simp only [List.length_drop, List.length_take]; rfl)) ?_; (with_reducible refine (heap_CheckGraph.calls k _ _ l0 t285 _ ?side1 ?side2 A2.out).mono ?_); (case side1 => repeat (first | exact HR0.out | (with_reducible refine Kd.C_alloc ?_ _) | (with_reducible refine Kd.C_drewN ?_ _) | (with_reducible refine Kd.C_drew ?_))); (case side2 => exact HC0.out); rintro e w' ⟨rfl, ⟨nd, rfl⟩⟩; refine ⟨_, rfl, ?_⟩))
    go_ret3
    exact ⟨_, _, by first | rfl | (simp [errW_none, errW_some] <;> rfl) | (simp [*, errW_none, errW_some] <;> rfl), by first | exact Kd.R_nil _ _ _ _ _ | exact Kd.N_nil _ _ _ _ _ | exact Kd.V_nil _ _ _ _ _ | exact Kd.Q_nil _ _ _ _ _ | exact Kd.S_nil _ _ _ _ _, by first | exact Kd.R_nil _ _ _ _ _ | exact Kd.N_nil _ _ _ _ _ | exact Kd.V_nil _ _ _ _ _ | exact Kd.Q_nil _ _ _ _ _ | exact Kd.S_nil _ _ _ _ _, by repeat (first | (with_reducible first | exact HB.out | apply below_alloc | apply pw_below_drewN | apply below_drew1) | exact HB.out)⟩

/-! ### staddalaw06_awake: function 8 -/
def staddalaw06_awake.f (k : Nat)  : Option (Bool) := (heap_Values.f (⟨#[48, 46, 55, 55]⟩ : ByteArray) 8).bind fun bt297 => ((heap_Times.f 2 3).bind fun bt301 => ((heap_Inverse.f k 2).bind fun bt303 => ((heap_Root.f k 3).bind fun bt305 => ((heap_Outcomes.f k (([(([1] : List Int)), (([0, 2] : List Int)), []] : List (List Int)))).bind fun bt316 => (if bt297.2 = 0 then (if bt301.2 = 0 then (if bt303.2 = 0 then (if bt305.2 = 0 then (if bt316.2.2 = 0 then (if (bt297.1.length : Int) = 9 then (if 8 < (bt297.1.length : Int) then (if (rd bt297.1 8) = 1 then (if bt301.1 = 1 then (if bt303.1 = 3 then (if bt305.1 = 2 then (if 0 < (bt316.1.length : Int) then (if (rd bt316.1 0) = 0 then (if 1 < (bt316.1.length : Int) then (if (rd bt316.1 1) = 1 then (if 0 < (bt316.2.1.length : Int) then (some ((rd bt316.2.1 0) == 2)) else (none)) else (some false)) else (none)) else (some false)) else (none)) else (some false)) else (some false)) else (some false)) else (some false)) else (none)) else (some false)) else (some false)) else (some false)) else (some false)) else (some false)) else (some false))))))
theorem staddalaw06_awake.mono : ∀ k, LeO (staddalaw06_awake.f k ) (staddalaw06_awake.f (k + 1) ) := by
  intro  k
  unfold staddalaw06_awake.f
  repeat' first
      | (with_reducible exact heap_Inverse.mono _ _)
      | (with_reducible exact heap_Outcomes.mono _ _)
      | (with_reducible exact heap_Root.mono _ _)
      | (with_reducible exact LeO.refl _)
      | (with_reducible exact LeO.none _)
      | (with_reducible refine LeO.ite ?_ ?_)
      | (with_reducible refine LeO.bind ?_ (fun _ => ?_))
      | exact heap_Inverse.mono _ _
      | exact heap_Outcomes.mono _ _
      | exact heap_Root.mono _ _
      | exact LeO.none _
      | refine LeO.ite ?_ ?_
      | refine LeO.bind ?_ (fun _ => ?_)
set_option maxHeartbeats 8000000 in
set_option maxRecDepth 100000 in
theorem staddalaw06_awake.calls_true (k : Nat) (w : World) (h : staddalaw06_awake.f k = some true) :
    Calls Tryz.prog 8 #[] w fun e w' => e = .returned (.bool true) ∧ Below w.heap.size w w' := by
  have HB := Aside0.mk (Below.refl w.heap.size w)
  have H : ((heap_Values.f (⟨#[48, 46, 55, 55]⟩ : ByteArray) 8).bind fun bt297 => ((heap_Times.f 2 3).bind fun bt301 => ((heap_Inverse.f k 2).bind fun bt303 => ((heap_Root.f k 3).bind fun bt305 => ((heap_Outcomes.f k (([(([1] : List Int)), (([0, 2] : List Int)), []] : List (List Int)))).bind fun bt316 => (if bt297.2 = 0 then (if bt301.2 = 0 then (if bt303.2 = 0 then (if bt305.2 = 0 then (if bt316.2.2 = 0 then (if (bt297.1.length : Int) = 9 then (if 8 < (bt297.1.length : Int) then (if (rd bt297.1 8) = 1 then (if bt301.1 = 1 then (if bt303.1 = 3 then (if bt305.1 = 2 then (if 0 < (bt316.1.length : Int) then (if (rd bt316.1 0) = 0 then (if 1 < (bt316.1.length : Int) then (if (rd bt316.1 1) = 1 then (if 0 < (bt316.2.1.length : Int) then (some ((rd bt316.2.1 0) == 2)) else (none)) else (some false)) else (none)) else (some false)) else (none)) else (some false)) else (some false)) else (some false)) else (some false)) else (none)) else (some false)) else (some false)) else (some false)) else (some false)) else (some false)) else (some false))))))) = some true := h
  clear h
  replace H := Option.bind_eq_some_iff.mp H
  obtain ⟨⟨t297, t298⟩, A10, H⟩ := H
  replace H : ((heap_Times.f 2 3).bind fun bt301 => ((heap_Inverse.f k 2).bind fun bt303 => ((heap_Root.f k 3).bind fun bt305 => ((heap_Outcomes.f k (([(([1] : List Int)), (([0, 2] : List Int)), []] : List (List Int)))).bind fun bt316 => (if t298 = 0 then (if bt301.2 = 0 then (if bt303.2 = 0 then (if bt305.2 = 0 then (if bt316.2.2 = 0 then (if (t297.length : Int) = 9 then (if 8 < (t297.length : Int) then (if (rd t297 8) = 1 then (if bt301.1 = 1 then (if bt303.1 = 3 then (if bt305.1 = 2 then (if 0 < (bt316.1.length : Int) then (if (rd bt316.1 0) = 0 then (if 1 < (bt316.1.length : Int) then (if (rd bt316.1 1) = 1 then (if 0 < (bt316.2.1.length : Int) then (some ((rd bt316.2.1 0) == 2)) else (none)) else (some false)) else (none)) else (some false)) else (none)) else (some false)) else (some false)) else (some false)) else (some false)) else (none)) else (some false)) else (some false)) else (some false)) else (some false)) else (some false)) else (some false)))))) = some true := H
  have A1 := Aside0.mk A10
  clear A10
  replace H := Option.bind_eq_some_iff.mp H
  obtain ⟨⟨t301, t302⟩, A20, H⟩ := H
  replace H : ((heap_Inverse.f k 2).bind fun bt303 => ((heap_Root.f k 3).bind fun bt305 => ((heap_Outcomes.f k (([(([1] : List Int)), (([0, 2] : List Int)), []] : List (List Int)))).bind fun bt316 => (if t298 = 0 then (if t302 = 0 then (if bt303.2 = 0 then (if bt305.2 = 0 then (if bt316.2.2 = 0 then (if (t297.length : Int) = 9 then (if 8 < (t297.length : Int) then (if (rd t297 8) = 1 then (if t301 = 1 then (if bt303.1 = 3 then (if bt305.1 = 2 then (if 0 < (bt316.1.length : Int) then (if (rd bt316.1 0) = 0 then (if 1 < (bt316.1.length : Int) then (if (rd bt316.1 1) = 1 then (if 0 < (bt316.2.1.length : Int) then (some ((rd bt316.2.1 0) == 2)) else (none)) else (some false)) else (none)) else (some false)) else (none)) else (some false)) else (some false)) else (some false)) else (some false)) else (none)) else (some false)) else (some false)) else (some false)) else (some false)) else (some false)) else (some false))))) = some true := H
  have A2 := Aside0.mk A20
  clear A20
  replace H := Option.bind_eq_some_iff.mp H
  obtain ⟨⟨t303, t304⟩, A30, H⟩ := H
  replace H : ((heap_Root.f k 3).bind fun bt305 => ((heap_Outcomes.f k (([(([1] : List Int)), (([0, 2] : List Int)), []] : List (List Int)))).bind fun bt316 => (if t298 = 0 then (if t302 = 0 then (if t304 = 0 then (if bt305.2 = 0 then (if bt316.2.2 = 0 then (if (t297.length : Int) = 9 then (if 8 < (t297.length : Int) then (if (rd t297 8) = 1 then (if t301 = 1 then (if t303 = 3 then (if bt305.1 = 2 then (if 0 < (bt316.1.length : Int) then (if (rd bt316.1 0) = 0 then (if 1 < (bt316.1.length : Int) then (if (rd bt316.1 1) = 1 then (if 0 < (bt316.2.1.length : Int) then (some ((rd bt316.2.1 0) == 2)) else (none)) else (some false)) else (none)) else (some false)) else (none)) else (some false)) else (some false)) else (some false)) else (some false)) else (none)) else (some false)) else (some false)) else (some false)) else (some false)) else (some false)) else (some false)))) = some true := H
  have A3 := Aside0.mk A30
  clear A30
  replace H := Option.bind_eq_some_iff.mp H
  obtain ⟨⟨t305, t306⟩, A40, H⟩ := H
  replace H : ((heap_Outcomes.f k (([(([1] : List Int)), (([0, 2] : List Int)), []] : List (List Int)))).bind fun bt316 => (if t298 = 0 then (if t302 = 0 then (if t304 = 0 then (if t306 = 0 then (if bt316.2.2 = 0 then (if (t297.length : Int) = 9 then (if 8 < (t297.length : Int) then (if (rd t297 8) = 1 then (if t301 = 1 then (if t303 = 3 then (if t305 = 2 then (if 0 < (bt316.1.length : Int) then (if (rd bt316.1 0) = 0 then (if 1 < (bt316.1.length : Int) then (if (rd bt316.1 1) = 1 then (if 0 < (bt316.2.1.length : Int) then (some ((rd bt316.2.1 0) == 2)) else (none)) else (some false)) else (none)) else (some false)) else (none)) else (some false)) else (some false)) else (some false)) else (some false)) else (none)) else (some false)) else (some false)) else (some false)) else (some false)) else (some false)) else (some false))) = some true := H
  have A4 := Aside0.mk A40
  clear A40
  obtain ⟨y307, hy307⟩ : ∃ y_ : List Int, y_ = (([1] : List Int)) := ⟨_, rfl⟩
  replace H : ((heap_Outcomes.f k (([y307, (([0, 2] : List Int)), []] : List (List Int)))).bind fun bt316 => (if t298 = 0 then (if t302 = 0 then (if t304 = 0 then (if t306 = 0 then (if bt316.2.2 = 0 then (if (t297.length : Int) = 9 then (if 8 < (t297.length : Int) then (if (rd t297 8) = 1 then (if t301 = 1 then (if t303 = 3 then (if t305 = 2 then (if 0 < (bt316.1.length : Int) then (if (rd bt316.1 0) = 0 then (if 1 < (bt316.1.length : Int) then (if (rd bt316.1 1) = 1 then (if 0 < (bt316.2.1.length : Int) then (some ((rd bt316.2.1 0) == 2)) else (none)) else (some false)) else (none)) else (some false)) else (none)) else (some false)) else (some false)) else (some false)) else (some false)) else (none)) else (some false)) else (some false)) else (some false)) else (some false)) else (some false)) else (some false))) = some true := by first | (rw [hy307]; with_reducible exact H) | (have H2_ := (Option.bind_some _ _).symm.trans H; rw [hy307]; with_reducible exact H2_) | (have H2_ := (Option.bind_some _ _).symm.trans H; with_reducible exact H2_) | with_reducible exact H | (rw [hy307]; exact H) | exact H
  have Ny307 := Aside0.mk hy307
  clear hy307
  obtain ⟨y310, hy310⟩ : ∃ y_ : List Int, y_ = (([0, 2] : List Int)) := ⟨_, rfl⟩
  replace H : ((heap_Outcomes.f k (([y307, y310, []] : List (List Int)))).bind fun bt316 => (if t298 = 0 then (if t302 = 0 then (if t304 = 0 then (if t306 = 0 then (if bt316.2.2 = 0 then (if (t297.length : Int) = 9 then (if 8 < (t297.length : Int) then (if (rd t297 8) = 1 then (if t301 = 1 then (if t303 = 3 then (if t305 = 2 then (if 0 < (bt316.1.length : Int) then (if (rd bt316.1 0) = 0 then (if 1 < (bt316.1.length : Int) then (if (rd bt316.1 1) = 1 then (if 0 < (bt316.2.1.length : Int) then (some ((rd bt316.2.1 0) == 2)) else (none)) else (some false)) else (none)) else (some false)) else (none)) else (some false)) else (some false)) else (some false)) else (some false)) else (none)) else (some false)) else (some false)) else (some false)) else (some false)) else (some false)) else (some false))) = some true := by first | (rw [hy310]; with_reducible exact H) | (have H2_ := (Option.bind_some _ _).symm.trans H; rw [hy310]; with_reducible exact H2_) | (have H2_ := (Option.bind_some _ _).symm.trans H; with_reducible exact H2_) | with_reducible exact H | (rw [hy310]; exact H) | exact H
  have Ny310 := Aside0.mk hy310
  clear hy310
  obtain ⟨y313, hy313⟩ : ∃ y_ : List (List Int), y_ = (([y307, y310, []] : List (List Int))) := ⟨_, rfl⟩
  replace H : ((heap_Outcomes.f k y313).bind fun bt316 => (if t298 = 0 then (if t302 = 0 then (if t304 = 0 then (if t306 = 0 then (if bt316.2.2 = 0 then (if (t297.length : Int) = 9 then (if 8 < (t297.length : Int) then (if (rd t297 8) = 1 then (if t301 = 1 then (if t303 = 3 then (if t305 = 2 then (if 0 < (bt316.1.length : Int) then (if (rd bt316.1 0) = 0 then (if 1 < (bt316.1.length : Int) then (if (rd bt316.1 1) = 1 then (if 0 < (bt316.2.1.length : Int) then (some ((rd bt316.2.1 0) == 2)) else (none)) else (some false)) else (none)) else (some false)) else (none)) else (some false)) else (some false)) else (some false)) else (some false)) else (none)) else (some false)) else (some false)) else (some false)) else (some false)) else (some false)) else (some false))) = some true := by first | (rw [hy313]; with_reducible exact H) | (have H2_ := (Option.bind_some _ _).symm.trans H; rw [hy313]; with_reducible exact H2_) | (have H2_ := (Option.bind_some _ _).symm.trans H; with_reducible exact H2_) | with_reducible exact H | (rw [hy313]; exact H) | exact H
  have Ny313 := Aside0.mk hy313
  clear hy313
  replace H := Option.bind_eq_some_iff.mp H
  obtain ⟨⟨t316, t317, t318⟩, A50, H⟩ := H
  replace H : (if t298 = 0 then (if t302 = 0 then (if t304 = 0 then (if t306 = 0 then (if t318 = 0 then (if (t297.length : Int) = 9 then (if 8 < (t297.length : Int) then (if (rd t297 8) = 1 then (if t301 = 1 then (if t303 = 3 then (if t305 = 2 then (if 0 < (t316.length : Int) then (if (rd t316 0) = 0 then (if 1 < (t316.length : Int) then (if (rd t316 1) = 1 then (if 0 < (t317.length : Int) then (some ((rd t317 0) == 2)) else (none)) else (some false)) else (none)) else (some false)) else (none)) else (some false)) else (some false)) else (some false)) else (some false)) else (none)) else (some false)) else (some false)) else (some false)) else (some false)) else (some false)) else (some false)) = some true := H
  have A5 := Aside0.mk A50
  clear A50
  by_cases c6 : t298 = 0
  · rw [if_pos c6] at H
    have c6b0 : (t298 == 0) = true := beq_iff_eq.mpr c6
    have c6b1 : (t298 != 0) = false := bne_eq_false_iff_eq.mpr c6
    clear c6
    by_cases c7 : t302 = 0
    · rw [if_pos c7] at H
      have c7b0 : (t302 == 0) = true := beq_iff_eq.mpr c7
      have c7b1 : (t302 != 0) = false := bne_eq_false_iff_eq.mpr c7
      clear c7
      by_cases c8 : t304 = 0
      · rw [if_pos c8] at H
        have c8b0 : (t304 == 0) = true := beq_iff_eq.mpr c8
        have c8b1 : (t304 != 0) = false := bne_eq_false_iff_eq.mpr c8
        clear c8
        by_cases c9 : t306 = 0
        · rw [if_pos c9] at H
          have c9b0 : (t306 == 0) = true := beq_iff_eq.mpr c9
          have c9b1 : (t306 != 0) = false := bne_eq_false_iff_eq.mpr c9
          clear c9
          by_cases c10 : t318 = 0
          · rw [if_pos c10] at H
            have c10b0 : (t318 == 0) = true := beq_iff_eq.mpr c10
            have c10b1 : (t318 != 0) = false := bne_eq_false_iff_eq.mpr c10
            clear c10
            by_cases c11 : (t297.length : Int) = 9
            · rw [if_pos c11] at H
              have c11b0 : ((t297.length : Int) == 9) = true := beq_iff_eq.mpr c11
              have c11b1 : ((t297.length : Int) != 9) = false := bne_eq_false_iff_eq.mpr c11
              clear c11
              by_cases c12 : 8 < (t297.length : Int)
              · rw [if_pos c12] at H
                have c12b0 : decide (8 < (t297.length : Int)) = true := decide_eq_true c12
                have c12b1 : decide (8 < t297.length) = true := decide_eq_true (by omega)
                clear c12
                by_cases c13 : (rd t297 8) = 1
                · rw [if_pos c13] at H
                  have c13b0 : ((rd t297 8) == 1) = true := beq_iff_eq.mpr c13
                  have c13b1 : ((rd t297 8) != 1) = false := bne_eq_false_iff_eq.mpr c13
                  clear c13
                  by_cases c14 : t301 = 1
                  · rw [if_pos c14] at H
                    have c14b0 : (t301 == 1) = true := beq_iff_eq.mpr c14
                    have c14b1 : (t301 != 1) = false := bne_eq_false_iff_eq.mpr c14
                    clear c14
                    by_cases c15 : t303 = 3
                    · rw [if_pos c15] at H
                      have c15b0 : (t303 == 3) = true := beq_iff_eq.mpr c15
                      have c15b1 : (t303 != 3) = false := bne_eq_false_iff_eq.mpr c15
                      clear c15
                      by_cases c16 : t305 = 2
                      · rw [if_pos c16] at H
                        have c16b0 : (t305 == 2) = true := beq_iff_eq.mpr c16
                        have c16b1 : (t305 != 2) = false := bne_eq_false_iff_eq.mpr c16
                        clear c16
                        by_cases c17 : 0 < (t316.length : Int)
                        · rw [if_pos c17] at H
                          have c17b0 : decide (0 < (t316.length : Int)) = true := decide_eq_true c17
                          have c17b1 : decide (0 < t316.length) = true := decide_eq_true (by omega)
                          clear c17
                          by_cases c18 : (rd t316 0) = 0
                          · rw [if_pos c18] at H
                            have c18b0 : ((rd t316 0) == 0) = true := beq_iff_eq.mpr c18
                            have c18b1 : ((rd t316 0) != 0) = false := bne_eq_false_iff_eq.mpr c18
                            clear c18
                            by_cases c19 : 1 < (t316.length : Int)
                            · rw [if_pos c19] at H
                              have c19b0 : decide (1 < (t316.length : Int)) = true := decide_eq_true c19
                              have c19b1 : decide (1 < t316.length) = true := decide_eq_true (by omega)
                              clear c19
                              by_cases c20 : (rd t316 1) = 1
                              · rw [if_pos c20] at H
                                have c20b0 : ((rd t316 1) == 1) = true := beq_iff_eq.mpr c20
                                have c20b1 : ((rd t316 1) != 1) = false := bne_eq_false_iff_eq.mpr c20
                                clear c20
                                by_cases c21 : 0 < (t317.length : Int)
                                · rw [if_pos c21] at H
                                  have c21b0 : decide (0 < (t317.length : Int)) = true := decide_eq_true c21
                                  have c21b1 : decide (0 < t317.length) = true := decide_eq_true (by omega)
                                  clear c21
                                  have hfin := Option.some.inj H
                                  go_enter Tryz.func8, Tryz.ntmps8
                                  go_wp2_with (first | ((with_reducible refine gate_callee (f := 29) rfl ?_); refine goesL_ (some 13) rfl rfl Tryz.func29 (by kernel_rfl) rfl #[.string (⟨#[48, 46, 55, 55]⟩ : ByteArray), .int .i64 8] rfl (by (try simp only [List.map_toArray, List.map_cons, List.map_nil]); first | done | rfl | (simp only [List.length_drop, List.length_take]; rfl)) ?_; (with_reducible refine (heap_Values.calls (⟨#[48, 46, 55, 55]⟩ : ByteArray) 8 t297 t298 _ A1.out).mono ?_); rintro e w22 ⟨v299, rfl, ho0, hb⟩; refine ⟨_, rfl, ?_⟩; have n0_ := Aside0.mk (Kd.R_lower ho0 (below_size (by repeat (first | (with_reducible first | exact HB.out | apply below_alloc | apply pw_below_drewN | apply below_drew1) | exact HB.out)))); have n1_ := Aside0.mk (below_step (by repeat (first | (with_reducible first | exact HB.out | apply below_alloc | apply pw_below_drewN | apply below_drew1) | exact HB.out)) hb); clear HB; have HO300 := n0_; have HB := n1_; clear n0_ n1_; (try clear hb); (try clear hb2); (try clear hk); (try clear hi); (try clear ho0)) | ((with_reducible refine gate_callee (f := 30) rfl ?_); refine goesL_ (some 17) rfl rfl Tryz.func30 (by kernel_rfl) rfl #[.int .i64 2, .int .i64 3] rfl (by (try simp only [List.map_toArray, List.map_cons, List.map_nil]); first | done | rfl | (simp only [List.length_drop, List.length_take]; rfl)) ?_; (with_reducible refine (heap_Times.calls 2 3 t301 t302 _ A2.out).mono ?_); rintro e w23 ⟨rfl, hb⟩; refine ⟨_, rfl, ?_⟩; have n0_ := Aside0.mk (Kd.R_below (by (with_reducible repeat (first | apply Kd.R_alloc | apply Kd.R_drewN | apply Kd.R_drew)); exact HO300.out) hb); have n1_ := Aside0.mk (below_step (by repeat (first | (with_reducible first | exact HB.out | apply below_alloc | apply pw_below_drewN | apply below_drew1) | exact HB.out)) hb); clear HO300; clear HB; have HO300 := n0_; have HB := n1_; clear n0_ n1_; (try clear hb); (try clear hb2); (try clear hk); (try clear hi)) | ((with_reducible refine gate_callee (f := 31) rfl ?_); refine goesL_ (some 21) rfl rfl Tryz.func31 (by kernel_rfl) rfl #[.int .i64 2] rfl (by (try simp only [List.map_toArray, List.map_cons, List.map_nil]); first | done | rfl | (simp only [List.length_drop, List.length_take]; rfl)) ?_; (with_reducible refine (heap_Inverse.calls k 2 t303 t304 _ A3.out).mono ?_); rintro e w24 ⟨rfl, hb⟩; refine ⟨_, rfl, ?_⟩; have n0_ := Aside0.mk (Kd.R_below (by (with_reducible repeat (first | apply Kd.R_alloc | apply Kd.R_drewN | apply Kd.R_drew)); exact HO300.out) hb); have n1_ := Aside0.mk (below_step (by repeat (first | (with_reducible first | exact HB.out | apply below_alloc | apply pw_below_drewN | apply below_drew1) | exact HB.out)) hb); clear HO300; clear HB; have HO300 := n0_; have HB := n1_; clear n0_ n1_; (try clear hb); (try clear hb2); (try clear hk); (try clear hi)) | ((with_reducible refine gate_callee (f := 32) rfl ?_); refine goesL_ (some 25) rfl rfl Tryz.func32 (by kernel_rfl) rfl #[.int .i64 3] rfl (by (try simp only [List.map_toArray, List.map_cons, List.map_nil]); first | done | rfl | (simp only [List.length_drop, List.length_take]; rfl)) ?_; (with_reducible refine (heap_Root.calls k 3 t305 t306 _ A4.out).mono ?_); rintro e w25 ⟨rfl, hb⟩; refine ⟨_, rfl, ?_⟩; have n0_ := Aside0.mk (Kd.R_below (by (with_reducible repeat (first | apply Kd.R_alloc | apply Kd.R_drewN | apply Kd.R_drew)); exact HO300.out) hb); have n1_ := Aside0.mk (below_step (by repeat (first | (with_reducible first | exact HB.out | apply below_alloc | apply pw_below_drewN | apply below_drew1) | exact HB.out)) hb); clear HO300; clear HB; have HO300 := n0_; have HB := n1_; clear n0_ n1_; (try clear hb); (try clear hb2); (try clear hk); (try clear hi)) | ((with_reducible refine gate_dst (N := 29) rfl ?_); (try (refine gate_guard (by rfl) ?_; dsimp only)); refine Kd.R_lit (Kd.int .i64) _ 3 ?hg (N := 29) ?hd (xs := ([1] : List Int)) (inner := [.int .i64 1]) (ok := fun _ => True) (okp := fun _ => True) ?hr ?hp (fun _ hk => hk) trivial (Below.refl _ _) (Nat.le_refl _) (by simp) ?_; (case hd => rfl); (case hg => rfl); (case hr => first | (go_simp; done) | (go_simp; rfl)); (case hp => exact (Reps.one (show Kd.M (Kd.int .i64) _ _ _ 1 [.int .i64 1] from rfl) (Reps.none _ _))); intro v308 w26 ho27 hb hg_ hnew_; clear hg_ hnew_; (first | rw [← Ny307.out] at ho27 | (simp only [Int.reduceToNat] at ho27; rw [← Ny307.out] at ho27)); have n0_ := Aside0.mk (Kd.R_elder' (by (with_reducible repeat (first | apply Kd.R_alloc | apply Kd.R_drewN | apply Kd.R_drew)); exact HO300.out) (Kd.R_base ho27) hb); have n1_ := Aside0.mk (Kd.R_lower (Kd.R_new' ho27 (Kd.R_lt (by (with_reducible repeat (first | apply Kd.R_alloc | apply Kd.R_drewN | apply Kd.R_drew)); exact HO300.out))) (below_size (by repeat (first | (with_reducible first | exact HB.out | apply below_alloc | apply pw_below_drewN | apply below_drew1) | exact HB.out)))); have n2_ := Aside0.mk (below_step (by repeat (first | (with_reducible first | exact HB.out | apply below_alloc | apply pw_below_drewN | apply below_drew1) | exact HB.out)) hb); clear HO300; clear HB; have HO300 := n0_; have HO309 := n1_; have HB := n2_; clear n0_ n1_ n2_; clear hb ho27) | ((with_reducible refine gate_dst (N := 30) rfl ?_); (try (refine gate_guard (by rfl) ?_; dsimp only)); refine Kd.R_lit (Kd.int .i64) _ 3 ?hg (N := 30) ?hd (xs := ([0, 2] : List Int)) (inner := [.int .i64 0, .int .i64 2]) (ok := fun _ => True) (okp := fun _ => True) ?hr ?hp (fun _ hk => hk) trivial (Below.refl _ _) (Nat.le_refl _) (by simp) ?_; (case hd => rfl); (case hg => rfl); (case hr => first | (go_simp; done) | (go_simp; rfl)); (case hp => exact (Reps.one (show Kd.M (Kd.int .i64) _ _ _ 0 [.int .i64 0] from rfl) (Reps.one (show Kd.M (Kd.int .i64) _ _ _ 2 [.int .i64 2] from rfl) (Reps.none _ _)))); intro v311 w28 ho29 hb hg_ hnew_; clear hg_ hnew_; (first | rw [← Ny310.out] at ho29 | (simp only [Int.reduceToNat] at ho29; rw [← Ny310.out] at ho29)); have n0_ := Aside0.mk (Kd.R_elder' (by (with_reducible repeat (first | apply Kd.R_alloc | apply Kd.R_drewN | apply Kd.R_drew)); exact HO300.out) (Kd.R_base ho29) hb); have n1_ := Aside0.mk (Kd.R_elder' (by (with_reducible repeat (first | apply Kd.R_alloc | apply Kd.R_drewN | apply Kd.R_drew)); exact HO309.out) (Kd.R_base ho29) hb); have n2_ := Aside0.mk (Kd.R_lower (Kd.R_new' (Kd.R_new' ho29 (Kd.R_lt (by (with_reducible repeat (first | apply Kd.R_alloc | apply Kd.R_drewN | apply Kd.R_drew)); exact HO300.out))) (Kd.R_lt (by (with_reducible repeat (first | apply Kd.R_alloc | apply Kd.R_drewN | apply Kd.R_drew)); exact HO309.out))) (below_size (by repeat (first | (with_reducible first | exact HB.out | apply below_alloc | apply pw_below_drewN | apply below_drew1) | exact HB.out)))); have n3_ := Aside0.mk (below_step (by repeat (first | (with_reducible first | exact HB.out | apply below_alloc | apply pw_below_drewN | apply below_drew1) | exact HB.out)) hb); clear HO300; clear HO309; clear HB; have HO300 := n0_; have HO309 := n1_; have HO312 := n2_; have HB := n3_; clear n0_ n1_ n2_ n3_; clear hb ho29; obtain ⟨Ao30, co30, eo30⟩ := Kd.R_slice HO309.out; subst eo30; obtain ⟨Ao31, co31, eo31⟩ := Kd.R_slice HO312.out; subst eo31) | ((with_reducible refine gate_dst (N := 31) rfl ?_); (try (refine gate_guard (by rfl) ?_; dsimp only)); refine Kd.N_lit (Kd.slice 3 (Kd.int .i64)) _ 22 ?hg (N' := 31) ?hd (xs := ([y307, y310, []] : List (List Int))) (inner := [.slice Ao30 y307.length co30, .slice Ao31 y310.length co31, .slice none 0 0]) (ok := (fun k_ => some k_ ≠ (v299 : Value).ownBlock)) (okp := (fun k_ => some k_ ≠ (v299 : Value).ownBlock)) ?hr ?hp (fun _ hk => hk) ((show ∀ k_, w28.heap.size ≤ k_ → (fun k_ => some k_ ≠ (v299 : Value).ownBlock) k_ from fun k_ hk => Kd.fresh' (Kd.R_lt (by (with_reducible repeat (first | apply Kd.R_alloc | apply Kd.R_drewN | apply Kd.R_drew)); exact HO300.out)) k_ hk) _ (Nat.le_refl _)) (Below.refl _ _) (Nat.le_refl _) (by simp) ?_; (case hd => rfl); (case hg => rfl); (case hr => first | (go_simp; done) | (go_simp; rfl)); (case hp => exact (Reps.one (show Kd.FK (Kd.slice 3 (Kd.int .i64)) _ _ y307 [.slice Ao30 y307.length co30] from (Kd.FK_slice_mk (Kd.R_reads' (Kd.R_mono (ok' := (fun k_ => some k_ ≠ (v299 : Value).ownBlock)) (HO309.out) (fun k_ hk => hk.1.2))).2.1 (Kd.R_F (Kd.R_mono (ok' := (fun k_ => some k_ ≠ (v299 : Value).ownBlock)) (HO309.out) (fun k_ hk => hk.1.2))))) (Reps.one (show Kd.FK (Kd.slice 3 (Kd.int .i64)) _ _ y310 [.slice Ao31 y310.length co31] from (Kd.FK_slice_mk (Kd.R_reads' (Kd.R_mono (ok' := (fun k_ => some k_ ≠ (v299 : Value).ownBlock)) (HO312.out) (fun k_ hk => hk.1.2))).2.1 (Kd.R_F (Kd.R_mono (ok' := (fun k_ => some k_ ≠ (v299 : Value).ownBlock)) (HO312.out) (fun k_ hk => hk.1.2))))) (Reps.one (show Kd.FK (Kd.slice 3 (Kd.int .i64)) _ _ [] [.slice none 0 0] from (Kd.FK_slice_mk (Nat.le_refl _) (Kd.F_nil _ _ _))) (Reps.none _ _))))); intro v314 w32 ho33 hb hg_ hnew_; clear hg_ hnew_; (first | rw [← Ny313.out] at ho33 | (simp only [Int.reduceToNat] at ho33; rw [← Ny313.out] at ho33)); have n0_ := Aside0.mk (Kd.R_below (by (with_reducible repeat (first | apply Kd.R_alloc | apply Kd.R_drewN | apply Kd.R_drew)); exact HO300.out) hb); have n1_ := Aside0.mk (Kd.N_lower ho33 (below_size (by repeat (first | (with_reducible first | exact HB.out | apply below_alloc | apply pw_below_drewN | apply below_drew1) | exact HB.out)))); have n2_ := Aside0.mk (below_step (by repeat (first | (with_reducible first | exact HB.out | apply below_alloc | apply pw_below_drewN | apply below_drew1) | exact HB.out)) hb); clear HO300; clear HB; clear HO309; clear HO312; have HO300 := n0_; have HO315 := n1_; have HB := n2_; clear n0_ n1_ n2_; clear hb ho33; obtain ⟨Ao34, co34, eo34⟩ := Kd.N_slice HO315.out; subst eo34) | ((with_reducible refine gate_callee (f := 33) rfl ?_); refine goesL_ (some 32) rfl rfl Tryz.func33 (by kernel_rfl) rfl #[.slice Ao34 y313.length co34] rfl (by (try simp only [List.map_toArray, List.map_cons, List.map_nil]); first | done | rfl | (simp only [List.length_drop, List.length_take]; rfl)) ?_; (with_reducible refine (heap_Outcomes.calls k _ _ y313 t316 t317 t318 _ ?side1 ?side2 A5.out).mono ?_); (case side1 => repeat (first | exact (Kd.N_reads' HO315.out).2.2 | (with_reducible refine Kd.C_alloc ?_ _) | (with_reducible refine Kd.C_drewN ?_ _) | (with_reducible refine Kd.C_drew ?_))); (case side2 => exact (Kd.N_reads' HO315.out).2.1); rintro e w35 ⟨v319, v321, rfl, ho0, ho1, hb⟩; refine ⟨_, rfl, ?_⟩; have n0_ := Aside0.mk (Kd.R_mono (Kd.R_told (Kd.R_told (Kd.R_old (by (with_reducible repeat (first | apply Kd.R_alloc | apply Kd.R_drewN | apply Kd.R_drew)); exact HO300.out) hb) (Kd.R_base ho0)) (Kd.R_base ho1)) (fun _ h_ => h_.1)); have n1_ := Aside0.mk (Kd.N_mono (Kd.N_told (Kd.N_told (Kd.N_old (by (with_reducible repeat (first | apply Kd.N_alloc | apply Kd.N_drewN | apply Kd.N_drew)); exact HO315.out) hb) (Kd.R_base ho0)) (Kd.R_base ho1)) (fun _ h_ => h_.1)); have n2_ := Aside0.mk (Kd.R_lower (Kd.R_new' ho0 (Kd.R_lt (by (with_reducible repeat (first | apply Kd.R_alloc | apply Kd.R_drewN | apply Kd.R_drew)); exact HO300.out))) (below_size (by repeat (first | (with_reducible first | exact HB.out | apply below_alloc | apply pw_below_drewN | apply below_drew1) | exact HB.out)))); have n3_ := Aside0.mk (Kd.R_lower (Kd.R_new' ho1 (Kd.R_lt (by (with_reducible repeat (first | apply Kd.R_alloc | apply Kd.R_drewN | apply Kd.R_drew)); exact HO300.out))) (below_size (by repeat (first | (with_reducible first | exact HB.out | apply below_alloc | apply pw_below_drewN | apply below_drew1) | exact HB.out)))); have n4_ := Aside0.mk (below_step (by repeat (first | (with_reducible first | exact HB.out | apply below_alloc | apply pw_below_drewN | apply below_drew1) | exact HB.out)) hb); clear HO300; clear HO315; clear HB; have HO300 := n0_; have HO315 := n1_; have HO320 := n2_; have HO322 := n3_; have HB := n4_; clear n0_ n1_ n2_ n3_ n4_; (try clear hb); (try clear hb2); (try clear hk); (try clear hi); (try clear ho0); (try clear ho1); obtain ⟨Ao36, co36, eo36⟩ := Kd.R_slice HO300.out; subst eo36; have p323 : 0 ≤ (8 : Int) := (by omega); have q323 : 8 < (t297.length : Int) := of_decide_eq_true (by first | (with_reducible assumption) | assumption); obtain ⟨ad323, e323, hx323_0⟩ := Kd.at_int (Kd.R_reads' HO300.out).2.2 8 p323 q323; cases e323; (try simp only [show (8 : Int).toNat = 8 from rfl, Nat.reduceMul, Nat.reduceEqDiff, Go.Addr.add, ↓reduceIte] at hx323_0); have qi323 : (8 < t297.length) = True := eq_true (by omega); (try rw [show ((8 : Int)).toNat = 8 from rfl] at hx323_0); replace p323 := eq_true p323; replace q323 := eq_true q323; obtain ⟨Ao37, co37, eo37⟩ := Kd.R_slice HO320.out; subst eo37; have p324 : 0 ≤ (0 : Int) := (by omega); have q324 : 0 < (t316.length : Int) := of_decide_eq_true (by first | (with_reducible assumption) | assumption); obtain ⟨ad324, e324, hx324_0⟩ := Kd.at_int (Kd.R_reads' HO320.out).2.2 0 p324 q324; cases e324; have qi324 : (0 < t316.length) = True := eq_true (by omega); (try rw [show ((0 : Int)).toNat = 0 from rfl] at hx324_0); (try rw [Addr.add_zero'] at hx324_0); replace p324 := eq_true p324; replace q324 := eq_true q324; have p325 : 0 ≤ (1 : Int) := (by omega); have q325 : 1 < (t316.length : Int) := of_decide_eq_true (by first | (with_reducible assumption) | assumption); obtain ⟨ad325, e325, hx325_0⟩ := Kd.at_int (Kd.R_reads' HO320.out).2.2 1 p325 q325; obtain rfl : ad324 = ad325 := (by injection e325); (try simp only [show (1 : Int).toNat = 1 from rfl, Nat.reduceMul, Nat.reduceEqDiff, Go.Addr.add, ↓reduceIte] at hx325_0); have qi325 : (1 < t316.length) = True := eq_true (by omega); (try rw [show ((1 : Int)).toNat = 1 from rfl] at hx325_0); replace p325 := eq_true p325; replace q325 := eq_true q325; obtain ⟨Ao38, co38, eo38⟩ := Kd.R_slice HO322.out; subst eo38; have p326 : 0 ≤ (0 : Int) := (by omega); have q326 : 0 < (t317.length : Int) := of_decide_eq_true (by first | (with_reducible assumption) | assumption); obtain ⟨ad326, e326, hx326_0⟩ := Kd.at_int (Kd.R_reads' HO322.out).2.2 0 p326 q326; cases e326; have qi326 : (0 < t317.length) = True := eq_true (by omega); (try rw [show ((0 : Int)).toNat = 0 from rfl] at hx326_0); (try rw [Addr.add_zero'] at hx326_0); replace p326 := eq_true p326; replace q326 := eq_true q326))
                                  go_ret
                                  exact ⟨by first | rfl | (simp [errW_none, errW_some] <;> rfl) | (simp [*, errW_none, errW_some] <;> rfl), by repeat (first | (with_reducible first | exact HB.out | apply below_alloc | apply pw_below_drewN | apply below_drew1) | exact HB.out)⟩
                                · rw [if_neg c21] at H
                                  exact absurd H (by simp)
                              · rw [if_neg c20] at H
                                exact absurd H (by simp)
                            · rw [if_neg c19] at H
                              exact absurd H (by simp)
                          · rw [if_neg c18] at H
                            exact absurd H (by simp)
                        · rw [if_neg c17] at H
                          exact absurd H (by simp)
                      · rw [if_neg c16] at H
                        exact absurd H (by simp)
                    · rw [if_neg c15] at H
                      exact absurd H (by simp)
                  · rw [if_neg c14] at H
                    exact absurd H (by simp)
                · rw [if_neg c13] at H
                  exact absurd H (by simp)
              · rw [if_neg c12] at H
                exact absurd H (by simp)
            · rw [if_neg c11] at H
              exact absurd H (by simp)
          · rw [if_neg c10] at H
            exact absurd H (by simp)
        · rw [if_neg c9] at H
          exact absurd H (by simp)
      · rw [if_neg c8] at H
        exact absurd H (by simp)
    · rw [if_neg c7] at H
      exact absurd H (by simp)
  · rw [if_neg c6] at H
    exact absurd H (by simp)
theorem staddalaw06_awake.up {k : Nat} {r : Bool} (h : staddalaw06_awake.f k = some r) : ∀ j, staddalaw06_awake.f (k + j) = some r
  | 0 => h
  | j + 1 => staddalaw06_awake.mono (k + j) _ (staddalaw06_awake.up h j)
set_option maxRecDepth 1000000 in
theorem staddalaw06_awake.is_true : staddalaw06_awake.f 200 = some true := by kernel_rfl
theorem staddalaw06_awake.calls (k : Nat) (r : Bool) (w : World) (h : staddalaw06_awake.f k = some r) :
    Calls Tryz.prog 8 #[] w fun e w' => e = .returned (.bool r) ∧ Below w.heap.size w w' := by
  have h1 := staddalaw06_awake.up h 200
  have h2 := staddalaw06_awake.up staddalaw06_awake.is_true k
  rw [Nat.add_comm] at h2
  obtain rfl : r = true := Option.some.inj (h1.symm.trans h2)
  exact staddalaw06_awake.calls_true k w h
end Go.Proofs.YtkfbdhlfajdpgaaGreatDoor.PHeapMoves
