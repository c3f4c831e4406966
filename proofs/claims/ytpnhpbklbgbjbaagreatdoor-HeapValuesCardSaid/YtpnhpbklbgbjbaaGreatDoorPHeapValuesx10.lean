-- printed by wip/pp.py (my patched run of the kit's printer)
import Derived.Test.YtpnhpbklbgbjbaaGreatDoorPHeapValuesx0
import Derived.Test.YtpnhpbklbgbjbaaGreatDoorPHeapValuesx2
import Derived.Test.YtpnhpbklbgbjbaaGreatDoorPHeapValuesx5
import Derived.Test.YtpnhpbklbgbjbaaGreatDoorPHeapValuesx6
import Derived.Test.YtpnhpbklbgbjbaaGreatDoorPHeapValuesx8
import Derived.Test.YtpnhpbklbgbjbaaGreatDoorPHeapValuesx9
namespace Go.Proofs.YtpnhpbklbgbjbaaGreatDoor.PHeapValues
open Go.RowKit Go.Proofs.YtpnhpbklbgbjbaaGreatDoorW.PrintWords Go.Proofs.YtpnhpbklbgbjbaaGreatDoorW.PrintLast Go.Proofs.YtpnhpbklbgbjbaaGreatDoorW.PrintMore
attribute [local go_sem] max2_int min2_int max_two min_two max_three min_three max_four min_four   -- for this text's walks alone
set_option linter.unusedVariables false
set_option linter.unusedSimpArgs false

/-! ### staddalaw06_HeapValues: function 4 -/
mutual
def staddalaw06_HeapValues.l0 : Nat → ByteArray → Int → ByteArray → Int → Option (Bool)
  | 0, _, _, _, _ => none
  | k + 1, x0, x1, x8, x9 => if x9 < 2 then ((staddaref06_Check.f k x8).bind fun t254 => ((heap_Check.f x8).bind fun t255 => (if t255 = t254 then ((heap_Values.f x8 x1).bind fun bt256 => (if t254 = 0 then (if x1 < 0 then (staddalaw06_HeapValues.j1 k x0 x1 x8 x9 t254 bt256.1 bt256.2 true) else (staddalaw06_HeapValues.j1 k x0 x1 x8 x9 t254 bt256.1 bt256.2 (decide (x1 > 2000)))) else (staddalaw06_HeapValues.j1 k x0 x1 x8 x9 t254 bt256.1 bt256.2 false))) else (some false)))) else ((staddalaw06_awake.f k).bind fun t253 => (some t253))
def staddalaw06_HeapValues.j1 : Nat → ByteArray → Int → ByteArray → Int → Int → List Int → Int → Bool → Option (Bool)
  | 0, _, _, _, _, _, _, _, _ => none
  | k + 1, x0, x1, x8, x9, x10, x11, x12, x58 => if x58 = true then (staddalaw06_HeapValues.j2 k x0 x1 x8 x9 1 x11 x12) else (staddalaw06_HeapValues.j2 k x0 x1 x8 x9 x10 x11 x12)
def staddalaw06_HeapValues.j2 : Nat → ByteArray → Int → ByteArray → Int → Int → List Int → Int → Option (Bool)
  | 0, _, _, _, _, _, _, _ => none
  | k + 1, x0, x1, x8, x9, x10, x11, x12 => if x10 = 0 then (if x12 = 0 then (if (x11.length : Int) = (wrap64 (x1 + 1)) then (if x1 ≤ 300 then ((staddaref06_Values.f k x8 x1).bind fun t260 => ((staddalaw06_same.f k x11 t260).bind fun t263 => (if t263 = true then (staddalaw06_HeapValues.j3 k x0 x1 x8 x9) else (some false)))) else (staddalaw06_HeapValues.j3 k x0 x1 x8 x9)) else (some false)) else (some false)) else (if x12 = x10 then (if (x11.length : Int) = 0 then (staddalaw06_HeapValues.j3 k x0 x1 x8 x9) else (some false)) else (some false))
def staddalaw06_HeapValues.j3 : Nat → ByteArray → Int → ByteArray → Int → Option (Bool)
  | 0, _, _, _, _ => none
  | k + 1, x0, x1, x8, x9 => (staddaref06_Check.f k x8).bind fun t264 => (if t264 = 0 then ((staddalaw06_code.f k x0).bind fun t265 => (staddalaw06_HeapValues.l0 k x0 (wrap64 (Int.tmod (IntKind.u64.wrap (x1)) 120)) t265 (wrap64 (x9 + 1)))) else ((heap_Period.f k x8 100).bind fun bt266 => ((heap_Moves.f x8 (([1] : List Int))).bind fun bt273 => (if bt266.2.2.2 = t264 then (if bt273.2 = t264 then (if bt266.2.2.1 = true then (some false) else (if (bt273.1.length : Int) = 0 then ((heap_IsPeriod.f k x8 100 0 1).bind fun t277 => (if t277 = true then (some false) else ((staddalaw06_code.f k x0).bind fun t278 => (staddalaw06_HeapValues.l0 k x0 (wrap64 (Int.tmod (IntKind.u64.wrap (x1)) 120)) t278 (wrap64 (x9 + 1)))))) else (some false))) else (some false)) else (some false)))))
end
def staddalaw06_HeapValues.f (k : Nat) (a0 : ByteArray) (a1 : Int) (l2 : List Int) : Option (Bool) := if 0 ≤ (mn (l2.length : Int) 40) then (if (mn (l2.length : Int) 40) ≤ (l2.length : Int) then (if ([] : List Int).length + (l2.take ((mn (l2.length : Int) 40) : Int).toNat).length < 17592186044416 then ((some (([] : List Int) ++ (l2.take ((mn (l2.length : Int) 40) : Int).toNat) : List Int)).bind fun y248 => ((heap_Missing.f k y248).bind fun t251 => ((staddaref06_Missing.f k y248).bind fun t252 => (if t251 = t252 then (staddalaw06_HeapValues.l0 k a0 a1 a0 0) else (some false))))) else (none)) else (none)) else (none)
theorem staddalaw06_HeapValues.mono_l : ∀ k, (∀ y0 y1 y2 y3, LeO (staddalaw06_HeapValues.l0 k y0 y1 y2 y3) (staddalaw06_HeapValues.l0 (k + 1) y0 y1 y2 y3)) ∧ (∀ y0 y1 y2 y3 y4 y5 y6 y7, LeO (staddalaw06_HeapValues.j1 k y0 y1 y2 y3 y4 y5 y6 y7) (staddalaw06_HeapValues.j1 (k + 1) y0 y1 y2 y3 y4 y5 y6 y7)) ∧ (∀ y0 y1 y2 y3 y4 y5 y6, LeO (staddalaw06_HeapValues.j2 k y0 y1 y2 y3 y4 y5 y6) (staddalaw06_HeapValues.j2 (k + 1) y0 y1 y2 y3 y4 y5 y6)) ∧ (∀ y0 y1 y2 y3, LeO (staddalaw06_HeapValues.j3 k y0 y1 y2 y3) (staddalaw06_HeapValues.j3 (k + 1) y0 y1 y2 y3))
  | 0 => ⟨fun _ _ _ _ r h => by simp [staddalaw06_HeapValues.l0] at h, fun _ _ _ _ _ _ _ _ r h => by simp [staddalaw06_HeapValues.j1] at h, fun _ _ _ _ _ _ _ r h => by simp [staddalaw06_HeapValues.j2] at h, fun _ _ _ _ r h => by simp [staddalaw06_HeapValues.j3] at h⟩
  | k + 1 => by
    obtain ⟨ih0, ih1, ih2, ih3⟩ := staddalaw06_HeapValues.mono_l k
    refine ⟨?_, ?_, ?_, ?_⟩
    · intro y0 y1 y2 y3
      unfold staddalaw06_HeapValues.l0
      repeat' first
      | (with_reducible exact ih0 _ _ _ _)
      | (with_reducible exact ih1 _ _ _ _ _ _ _ _)
      | (with_reducible exact ih2 _ _ _ _ _ _ _)
      | (with_reducible exact ih3 _ _ _ _)
      | (with_reducible exact heap_IsPeriod.mono _ _ _ _ _)
      | (with_reducible exact heap_Missing.mono _ _)
      | (with_reducible exact heap_Period.mono _ _ _)
      | (with_reducible exact staddalaw06_awake.mono _)
      | (with_reducible exact staddalaw06_code.mono _ _)
      | (with_reducible exact staddalaw06_same.mono _ _ _)
      | (with_reducible exact staddaref06_Check.mono _ _)
      | (with_reducible exact staddaref06_Missing.mono _ _)
      | (with_reducible exact staddaref06_Values.mono _ _ _)
      | (with_reducible exact LeO.refl _)
      | (with_reducible exact LeO.none _)
      | (with_reducible refine LeO.ite ?_ ?_)
      | (with_reducible refine LeO.bind ?_ (fun _ => ?_))
      | exact ih0 _ _ _ _
      | exact ih1 _ _ _ _ _ _ _ _
      | exact ih2 _ _ _ _ _ _ _
      | exact ih3 _ _ _ _
      | exact heap_IsPeriod.mono _ _ _ _ _
      | exact heap_Missing.mono _ _
      | exact heap_Period.mono _ _ _
      | exact staddalaw06_awake.mono _
      | exact staddalaw06_code.mono _ _
      | exact staddalaw06_same.mono _ _ _
      | exact staddaref06_Check.mono _ _
      | exact staddaref06_Missing.mono _ _
      | exact staddaref06_Values.mono _ _ _
      | exact LeO.none _
      | refine LeO.ite ?_ ?_
      | refine LeO.bind ?_ (fun _ => ?_)
    · intro y0 y1 y2 y3 y4 y5 y6 y7
      unfold staddalaw06_HeapValues.j1
      repeat' first
      | (with_reducible exact ih0 _ _ _ _)
      | (with_reducible exact ih1 _ _ _ _ _ _ _ _)
      | (with_reducible exact ih2 _ _ _ _ _ _ _)
      | (with_reducible exact ih3 _ _ _ _)
      | (with_reducible exact heap_IsPeriod.mono _ _ _ _ _)
      | (with_reducible exact heap_Missing.mono _ _)
      | (with_reducible exact heap_Period.mono _ _ _)
      | (with_reducible exact staddalaw06_awake.mono _)
      | (with_reducible exact staddalaw06_code.mono _ _)
      | (with_reducible exact staddalaw06_same.mono _ _ _)
      | (with_reducible exact staddaref06_Check.mono _ _)
      | (with_reducible exact staddaref06_Missing.mono _ _)
      | (with_reducible exact staddaref06_Values.mono _ _ _)
      | (with_reducible exact LeO.refl _)
      | (with_reducible exact LeO.none _)
      | (with_reducible refine LeO.ite ?_ ?_)
      | (with_reducible refine LeO.bind ?_ (fun _ => ?_))
      | exact ih0 _ _ _ _
      | exact ih1 _ _ _ _ _ _ _ _
      | exact ih2 _ _ _ _ _ _ _
      | exact ih3 _ _ _ _
      | exact heap_IsPeriod.mono _ _ _ _ _
      | exact heap_Missing.mono _ _
      | exact heap_Period.mono _ _ _
      | exact staddalaw06_awake.mono _
      | exact staddalaw06_code.mono _ _
      | exact staddalaw06_same.mono _ _ _
      | exact staddaref06_Check.mono _ _
      | exact staddaref06_Missing.mono _ _
      | exact staddaref06_Values.mono _ _ _
      | exact LeO.none _
      | refine LeO.ite ?_ ?_
      | refine LeO.bind ?_ (fun _ => ?_)
    · intro y0 y1 y2 y3 y4 y5 y6
      unfold staddalaw06_HeapValues.j2
      repeat' first
      | (with_reducible exact ih0 _ _ _ _)
      | (with_reducible exact ih1 _ _ _ _ _ _ _ _)
      | (with_reducible exact ih2 _ _ _ _ _ _ _)
      | (with_reducible exact ih3 _ _ _ _)
      | (with_reducible exact heap_IsPeriod.mono _ _ _ _ _)
      | (with_reducible exact heap_Missing.mono _ _)
      | (with_reducible exact heap_Period.mono _ _ _)
      | (with_reducible exact staddalaw06_awake.mono _)
      | (with_reducible exact staddalaw06_code.mono _ _)
      | (with_reducible exact staddalaw06_same.mono _ _ _)
      | (with_reducible exact staddaref06_Check.mono _ _)
      | (with_reducible exact staddaref06_Missing.mono _ _)
      | (with_reducible exact staddaref06_Values.mono _ _ _)
      | (with_reducible exact LeO.refl _)
      | (with_reducible exact LeO.none _)
      | (with_reducible refine LeO.ite ?_ ?_)
      | (with_reducible refine LeO.bind ?_ (fun _ => ?_))
      | exact ih0 _ _ _ _
      | exact ih1 _ _ _ _ _ _ _ _
      | exact ih2 _ _ _ _ _ _ _
      | exact ih3 _ _ _ _
      | exact heap_IsPeriod.mono _ _ _ _ _
      | exact heap_Missing.mono _ _
      | exact heap_Period.mono _ _ _
      | exact staddalaw06_awake.mono _
      | exact staddalaw06_code.mono _ _
      | exact staddalaw06_same.mono _ _ _
      | exact staddaref06_Check.mono _ _
      | exact staddaref06_Missing.mono _ _
      | exact staddaref06_Values.mono _ _ _
      | exact LeO.none _
      | refine LeO.ite ?_ ?_
      | refine LeO.bind ?_ (fun _ => ?_)
    · intro y0 y1 y2 y3
      unfold staddalaw06_HeapValues.j3
      repeat' first
      | (with_reducible exact ih0 _ _ _ _)
      | (with_reducible exact ih1 _ _ _ _ _ _ _ _)
      | (with_reducible exact ih2 _ _ _ _ _ _ _)
      | (with_reducible exact ih3 _ _ _ _)
      | (with_reducible exact heap_IsPeriod.mono _ _ _ _ _)
      | (with_reducible exact heap_Missing.mono _ _)
      | (with_reducible exact heap_Period.mono _ _ _)
      | (with_reducible exact staddalaw06_awake.mono _)
      | (with_reducible exact staddalaw06_code.mono _ _)
      | (with_reducible exact staddalaw06_same.mono _ _ _)
      | (with_reducible exact staddaref06_Check.mono _ _)
      | (with_reducible exact staddaref06_Missing.mono _ _)
      | (with_reducible exact staddaref06_Values.mono _ _ _)
      | (with_reducible exact LeO.refl _)
      | (with_reducible exact LeO.none _)
      | (with_reducible refine LeO.ite ?_ ?_)
      | (with_reducible refine LeO.bind ?_ (fun _ => ?_))
      | exact ih0 _ _ _ _
      | exact ih1 _ _ _ _ _ _ _ _
      | exact ih2 _ _ _ _ _ _ _
      | exact ih3 _ _ _ _
      | exact heap_IsPeriod.mono _ _ _ _ _
      | exact heap_Missing.mono _ _
      | exact heap_Period.mono _ _ _
      | exact staddalaw06_awake.mono _
      | exact staddalaw06_code.mono _ _
      | exact staddalaw06_same.mono _ _ _
      | exact staddaref06_Check.mono _ _
      | exact staddaref06_Missing.mono _ _
      | exact staddaref06_Values.mono _ _ _
      | exact LeO.none _
      | refine LeO.ite ?_ ?_
      | refine LeO.bind ?_ (fun _ => ?_)
theorem staddalaw06_HeapValues.mono : ∀ a0 a1 a2 k, LeO (staddalaw06_HeapValues.f k a0 a1 a2) (staddalaw06_HeapValues.f (k + 1) a0 a1 a2) := by
  intro a0 a1 a2 k
  obtain ⟨ih0, ih1, ih2, ih3⟩ := staddalaw06_HeapValues.mono_l k
  unfold staddalaw06_HeapValues.f
  repeat' first
      | (with_reducible exact ih0 _ _ _ _)
      | (with_reducible exact ih1 _ _ _ _ _ _ _ _)
      | (with_reducible exact ih2 _ _ _ _ _ _ _)
      | (with_reducible exact ih3 _ _ _ _)
      | (with_reducible exact heap_IsPeriod.mono _ _ _ _ _)
      | (with_reducible exact heap_Missing.mono _ _)
      | (with_reducible exact heap_Period.mono _ _ _)
      | (with_reducible exact staddalaw06_awake.mono _)
      | (with_reducible exact staddalaw06_code.mono _ _)
      | (with_reducible exact staddalaw06_same.mono _ _ _)
      | (with_reducible exact staddaref06_Check.mono _ _)
      | (with_reducible exact staddaref06_Missing.mono _ _)
      | (with_reducible exact staddaref06_Values.mono _ _ _)
      | (with_reducible exact LeO.refl _)
      | (with_reducible exact LeO.none _)
      | (with_reducible refine LeO.ite ?_ ?_)
      | (with_reducible refine LeO.bind ?_ (fun _ => ?_))
      | exact ih0 _ _ _ _
      | exact ih1 _ _ _ _ _ _ _ _
      | exact ih2 _ _ _ _ _ _ _
      | exact ih3 _ _ _ _
      | exact heap_IsPeriod.mono _ _ _ _ _
      | exact heap_Missing.mono _ _
      | exact heap_Period.mono _ _ _
      | exact staddalaw06_awake.mono _
      | exact staddalaw06_code.mono _ _
      | exact staddalaw06_same.mono _ _ _
      | exact staddaref06_Check.mono _ _
      | exact staddaref06_Missing.mono _ _
      | exact staddaref06_Values.mono _ _ _
      | exact LeO.none _
      | refine LeO.ite ?_ ?_
      | refine LeO.bind ?_ (fun _ => ?_)
set_option maxHeartbeats 8000000 in
set_option maxRecDepth 100000 in
theorem staddalaw06_HeapValues.calls (k : Nat) (a0 : ByteArray) (a1 : Int) (A2 : Option Addr) (c2 : Nat) (l2 : List Int) (r : Bool) (w : World) (hr2 : Kd.C (Kd.int .i64) w A2 l2.length l2) (hc2 : l2.length ≤ c2) (h : staddalaw06_HeapValues.f k a0 a1 l2 = some r) :
    Calls Tryz.prog 4 #[.string a0, .int .i64 a1, .slice A2 l2.length c2] w fun e w' => e = .returned (.bool r) ∧ Below w.heap.size w w' := by
  have HR2 := Aside0.mk hr2
  have HC2 := Aside0.mk hc2
  clear hr2 hc2
  have HB := Aside0.mk (Below.refl w.heap.size w)
  have H : (if 0 ≤ (mn (l2.length : Int) 40) then (if (mn (l2.length : Int) 40) ≤ (l2.length : Int) then (if ([] : List Int).length + (l2.take ((mn (l2.length : Int) 40) : Int).toNat).length < 17592186044416 then ((some (([] : List Int) ++ (l2.take ((mn (l2.length : Int) 40) : Int).toNat) : List Int)).bind fun y248 => ((heap_Missing.f k y248).bind fun t251 => ((staddaref06_Missing.f k y248).bind fun t252 => (if t251 = t252 then (staddalaw06_HeapValues.l0 k a0 a1 a0 0) else (some false))))) else (none)) else (none)) else (none)) = some r := h
  clear h
  obtain ⟨ji4, hji4⟩ : ∃ j_ : Int, (mn (l2.length : Int) 40) = j_ := ⟨_, rfl⟩
  replace H : (if 0 ≤ (ji4) then (if (ji4) ≤ (l2.length : Int) then (if ([] : List Int).length + (l2.take ((ji4) : Int).toNat).length < 17592186044416 then ((some (([] : List Int) ++ (l2.take ((ji4) : Int).toNat) : List Int)).bind fun y248 => ((heap_Missing.f k y248).bind fun t251 => ((staddaref06_Missing.f k y248).bind fun t252 => (if t251 = t252 then (staddalaw06_HeapValues.l0 k a0 a1 a0 0) else (some false))))) else (none)) else (none)) else (none)) = some r := by first | (rw [hji4] at H; exact H) | (simp only [hji4] at H ⊢; exact H)
  (try (have hji4h : ji4 ≤ 40 := by (rw [← hji4]; unfold mn; (repeat' split) <;> omega)))
  (try (have hji4g : ji4 ≤ 64 := by omega))
  (try (have hji4l : 0 ≤ ji4 := by (rw [← hji4]; unfold mn; (repeat' split) <;> omega)))
  (try (have hji4m : 0 ≤ ji4 := by omega))
  have hji4_ : (if 40 < (l2.length : Int) then 40 else (l2.length : Int)) = ji4 := hji4
  by_cases c5 : 0 ≤ (ji4)
  · rw [if_pos c5] at H
    have c5b0 := eq_true c5
    have c5b1 : decide (0 ≤ (ji4)) = true := decide_eq_true c5
    clear c5
    by_cases c6 : (ji4) ≤ (l2.length : Int)
    · rw [if_pos c6] at H
      have c6b0 := eq_true c6
      have c6b1 : decide ((ji4) ≤ (l2.length : Int)) = true := decide_eq_true c6
      clear c6
      by_cases c7 : ([] : List Int).length + (l2.take ((ji4) : Int).toNat).length < 17592186044416
      · rw [if_pos c7] at H
        have LMc7 := Aside0.mk c7
        clear c7
        obtain ⟨y248, hy248⟩ : ∃ y_ : List Int, y_ = (([] : List Int) ++ (l2.take ((ji4) : Int).toNat)) := ⟨_, rfl⟩
        replace H : ((heap_Missing.f k y248).bind fun t251 => ((staddaref06_Missing.f k y248).bind fun t252 => (if t251 = t252 then (staddalaw06_HeapValues.l0 k a0 a1 a0 0) else (some false)))) = some r := by first | (rw [hy248]; with_reducible exact H) | (have H2_ := (Option.bind_some _ _).symm.trans H; rw [hy248]; with_reducible exact H2_) | (have H2_ := (Option.bind_some _ _).symm.trans H; with_reducible exact H2_) | with_reducible exact H | (rw [hy248]; exact H) | exact H
        have Ny248 := Aside0.mk hy248
        clear hy248
        replace H := Option.bind_eq_some_iff.mp H
        obtain ⟨t251, A80, H⟩ := H
        replace H : ((staddaref06_Missing.f k y248).bind fun t252 => (if t251 = t252 then (staddalaw06_HeapValues.l0 k a0 a1 a0 0) else (some false))) = some r := H
        have A8 := Aside0.mk A80
        clear A80
        replace H := Option.bind_eq_some_iff.mp H
        obtain ⟨t252, A90, H⟩ := H
        replace H : (if t251 = t252 then (staddalaw06_HeapValues.l0 k a0 a1 a0 0) else (some false)) = some r := H
        have A9 := Aside0.mk A90
        clear A90
        by_cases c10 : t251 = t252
        · rw [if_pos c10] at H
          have c10b0 : (t251 == t252) = true := beq_iff_eq.mpr c10
          have c10b1 : (t251 != t252) = false := bne_eq_false_iff_eq.mpr c10
          clear c10
          have H' := Aside0.mk H
          clear H
          obtain ⟨i011, hi011, _, hsz11, _⟩ := info_parts info3
          obtain ⟨hcut11, hA11, hC11⟩ := print_take_of (P := Tryz.prog) (Value.int .i64) 0 22 3 .i64 Tryz.underlying22 hi011 hsz11 A2 c2 l2 (ji4) (of_decide_eq_true (by first | (with_reducible assumption) | assumption)) (of_decide_eq_true (by first | (with_reducible assumption) | assumption)) HC2.out
          have HR247 := Aside0.mk (Kd.C_of_reads (h1 := fun _ => rfl) (hA11 _ (Kd.reads_of_C HR2.out)))
          have HC247 := Aside0.mk hC11
          clear hA11 hC11 hi011 hsz11
          go_enter Tryz.func4, Tryz.ntmps4
          go_wp2_with (first | ((with_reducible refine gate_builtin (b := .append) (xs := #[.tmp 20, .tmp 25]) rfl ?_); (try (refine gate_guard (by rfl) ?_; dsimp only)); at_builtin; refine Kd.R_append_rows (Kd.int .i64) (w0 := w) w.heap.size rfl (.tmp 20) (.tmp 25) 22 3 (.int .i64 0) 8 rfl Tryz.underlying22 info3 rfl (by decide) (by omega) (.slice none 0 0) ([] : List Int) (l2.take ((ji4) : Int).toNat) _ _ _ (fun _ => True) (fun _ => False) rfl rfl ?aO ?aR (fun _ _ h => h) (fun _ h => h.elim) ?aF ?aB ?aS ?aL ?_; (case aR => first | (have hq_ : (l2.take ((ji4) : Int).toNat).length = (ji4).toNat := (by rw [List.length_take]; have h_ : ((ji4) : Int) ≤ (l2.length : Int) := of_decide_eq_true (by first | (with_reducible assumption) | assumption); omega); have hz_ := HR247.out; rw [hq_] at hz_; exact hz_) | (rw [← show (l2.take ((ji4) : Int).toNat).length = (ji4).toNat from (by rw [List.length_take]; have h_ : ((ji4) : Int) ≤ (l2.length : Int) := of_decide_eq_true (by first | (with_reducible assumption) | assumption); omega)]; repeat (first | exact HR247.out | (with_reducible refine Kd.C_alloc ?_ _) | (with_reducible refine Kd.C_drewN ?_ _) | (with_reducible refine Kd.C_drew ?_))) | (repeat (first | exact HR247.out | (with_reducible refine Kd.C_alloc ?_ _) | (with_reducible refine Kd.C_drewN ?_ _) | (with_reducible refine Kd.C_drew ?_)))); (case aB => exact (by repeat (first | (with_reducible first | exact HB.out | apply below_alloc | apply pw_below_drewN | apply below_drew1) | exact HB.out))); (case aF => exact (fun _ _ => trivial)); (case aO => exact ((Kd.R_nil _ _ _ _ (fun _ => True)))); (case aS => exact (below_size (by repeat (first | (with_reducible first | exact HB.out | apply below_alloc | apply pw_below_drewN | apply below_drew1) | exact HB.out)))); (case aL => have := LMc7.out; have hlx_ := (show (l2.take ((ji4) : Int).toNat).length = (ji4).toNat from (by rw [List.length_take]; have h_ : ((ji4) : Int) ≤ (l2.length : Int) := of_decide_eq_true (by first | (with_reducible assumption) | assumption); omega)); omega); intro v249 w12 ho hb hg hat; rw [← Ny248.out] at ho; have n0_ := Aside0.mk (hb); have n1_ := Aside0.mk (ho); clear HB; have HB := n0_; have HO250 := n1_; clear n0_ n1_; clear ho hb hg hat; obtain ⟨Ao13, co13, eo13⟩ := Kd.R_slice HO250.out; subst eo13) | ((with_reducible refine gate_callee (f := 10) rfl ?_); refine goesL_ (some 28) rfl rfl Tryz.func10 (by kernel_rfl) rfl #[.slice Ao13 y248.length co13] rfl (by (try simp only [List.map_toArray, List.map_cons, List.map_nil]); first | done | rfl | (simp only [List.length_drop, List.length_take]; rfl)) ?_; (with_reducible refine (heap_Missing.calls k _ _ y248 t251 _ ?side1 ?side2 A8.out).mono ?_); (case side1 => repeat (first | exact (Kd.R_reads' HO250.out).2.2 | (with_reducible refine Kd.C_alloc ?_ _) | (with_reducible refine Kd.C_drewN ?_ _) | (with_reducible refine Kd.C_drew ?_))); (case side2 => exact (Kd.R_reads' HO250.out).2.1); rintro e w14 ⟨rfl, hb⟩; refine ⟨_, rfl, ?_⟩; have n0_ := Aside0.mk (Kd.R_below (by (with_reducible repeat (first | apply Kd.R_alloc | apply Kd.R_drewN | apply Kd.R_drew)); exact HO250.out) hb); have n1_ := Aside0.mk (below_step (by repeat (first | (with_reducible first | exact HB.out | apply below_alloc | apply pw_below_drewN | apply below_drew1) | exact HB.out)) hb); clear HO250; clear HB; have HO250 := n0_; have HB := n1_; clear n0_ n1_; (try clear hb); (try clear hb2); (try clear hk); (try clear hi)) | ((with_reducible refine gate_callee (f := 11) rfl ?_); refine goesL_ (some 30) rfl rfl Tryz.func11 (by kernel_rfl) rfl #[.slice Ao13 y248.length co13] rfl (by (try simp only [List.map_toArray, List.map_cons, List.map_nil]); first | done | rfl | (simp only [List.length_drop, List.length_take]; rfl)) ?_; (with_reducible refine (staddaref06_Missing.calls k _ _ y248 t252 _ ?side1 ?side2 A9.out).mono ?_); (case side1 => repeat (first | exact (Kd.R_reads' HO250.out).2.2 | (with_reducible refine Kd.C_alloc ?_ _) | (with_reducible refine Kd.C_drewN ?_ _) | (with_reducible refine Kd.C_drew ?_))); (case side2 => exact (Kd.R_reads' HO250.out).2.1); rintro e w' ⟨rfl, ⟨nd, rfl⟩⟩; refine ⟨_, rfl, ?_⟩))
          go_loopg [1, 8, 9] k (fun kq v1 v8 v9 w' => ∃ (x1_1 : Int) (x8_1 : ByteArray) (x9_1 : Int), v1 = .int .i64 x1_1 ∧ v8 = .string x8_1 ∧ v9 = .int .i64 x9_1 ∧ Aside0 (staddalaw06_HeapValues.l0 kq a0 x1_1 x8_1 x9_1 = some r) ∧ Aside0 (kq ≤ k) ∧ Aside0 (Below w.heap.size w w'))
          case atStart => exact ⟨(a1), (a0), (0), (by first | rfl | (simp; done) | (simp [*]; done)), (by first | rfl | (simp; done) | (simp [*]; done)), (by first | rfl | (simp; done) | (simp [*]; done)), H', ⟨Nat.le_refl _⟩, ⟨by repeat (first | (with_reducible first | exact HB.out | apply below_alloc | apply pw_below_drewN | apply below_drew1) | exact HB.out)⟩⟩
          case round =>
            clear H'
            try clear c1
            try clear c2
            try clear p2
            try clear c4
            try clear c5
            try clear c5b0
            try clear c5b1
            try clear c6
            try clear c6b0
            try clear c6b1
            try clear c7
            try clear c10
            try clear c10b0
            try clear c10b1
            try clear c11
            obtain ⟨x1_1, x8_1, x9_1, rfl, rfl, rfl, HA, HK1, HB⟩ := hrel
            cases gk with
            | zero => exact absurd HA.out (by simp [staddalaw06_HeapValues.l0])
            | succ k1 =>
              have H := HA.out
              clear HA
              simp only [staddalaw06_HeapValues.l0] at H
              by_cases c15 : x9_1 < 2
              · rw [if_pos c15] at H
                have c15b0 : decide (x9_1 < 2) = true := decide_eq_true c15
                clear c15
                replace H := Option.bind_eq_some_iff.mp H
                obtain ⟨t254, A160, H⟩ := H
                replace H : ((heap_Check.f x8_1).bind fun t255 => (if t255 = t254 then ((heap_Values.f x8_1 x1_1).bind fun bt256 => (if t254 = 0 then (if x1_1 < 0 then (staddalaw06_HeapValues.j1 k1 a0 x1_1 x8_1 x9_1 t254 bt256.1 bt256.2 true) else (staddalaw06_HeapValues.j1 k1 a0 x1_1 x8_1 x9_1 t254 bt256.1 bt256.2 (decide (x1_1 > 2000)))) else (staddalaw06_HeapValues.j1 k1 a0 x1_1 x8_1 x9_1 t254 bt256.1 bt256.2 false))) else (some false))) = some r := H
                have A16 := Aside0.mk A160
                clear A160
                replace H := Option.bind_eq_some_iff.mp H
                obtain ⟨t255, A170, H⟩ := H
                replace H : (if t255 = t254 then ((heap_Values.f x8_1 x1_1).bind fun bt256 => (if t254 = 0 then (if x1_1 < 0 then (staddalaw06_HeapValues.j1 k1 a0 x1_1 x8_1 x9_1 t254 bt256.1 bt256.2 true) else (staddalaw06_HeapValues.j1 k1 a0 x1_1 x8_1 x9_1 t254 bt256.1 bt256.2 (decide (x1_1 > 2000)))) else (staddalaw06_HeapValues.j1 k1 a0 x1_1 x8_1 x9_1 t254 bt256.1 bt256.2 false))) else (some false)) = some r := H
                have A17 := Aside0.mk A170
                clear A170
                by_cases c18 : t255 = t254
                · rw [if_pos c18] at H
                  have c18b0 : (t255 == t254) = true := beq_iff_eq.mpr c18
                  have c18b1 : (t255 != t254) = false := bne_eq_false_iff_eq.mpr c18
                  clear c18
                  replace H := Option.bind_eq_some_iff.mp H
                  obtain ⟨⟨t256, t257⟩, A190, H⟩ := H
                  replace H : (if t254 = 0 then (if x1_1 < 0 then (staddalaw06_HeapValues.j1 k1 a0 x1_1 x8_1 x9_1 t254 t256 t257 true) else (staddalaw06_HeapValues.j1 k1 a0 x1_1 x8_1 x9_1 t254 t256 t257 (decide (x1_1 > 2000)))) else (staddalaw06_HeapValues.j1 k1 a0 x1_1 x8_1 x9_1 t254 t256 t257 false)) = some r := H
                  have A19 := Aside0.mk A190
                  clear A190
                  have HC20 := Aside0.mk H
                  clear H
                  go_upto_region 13 with (first | ((with_reducible refine gate_callee (f := 12) rfl ?_); refine goesL_ (some 38) rfl rfl Tryz.func12 (by kernel_rfl) rfl #[.string x8_1] rfl (by (try simp only [List.map_toArray, List.map_cons, List.map_nil]); first | done | rfl | (simp only [List.length_drop, List.length_take]; rfl)) ?_; (with_reducible refine (staddaref06_Check.calls k1 x8_1 t254 _ A16.out).mono ?_); rintro e w' ⟨rfl, ⟨nd, rfl⟩⟩; refine ⟨_, rfl, ?_⟩) | ((with_reducible refine gate_callee (f := 13) rfl ?_); refine goesL_ (some 40) rfl rfl Tryz.func13 (by kernel_rfl) rfl #[.string x8_1] rfl (by (try simp only [List.map_toArray, List.map_cons, List.map_nil]); first | done | rfl | (simp only [List.length_drop, List.length_take]; rfl)) ?_; (with_reducible refine (heap_Check.calls x8_1 t255 _ A17.out).mono ?_); rintro e w21 ⟨rfl, hb⟩; refine ⟨_, rfl, ?_⟩; have n0_ := Aside0.mk (below_step (by repeat (first | (with_reducible first | exact HB.out | apply below_alloc | apply pw_below_drewN | apply below_drew1) | exact HB.out)) hb); clear HB; have HB := n0_; clear n0_; (try clear hb); (try clear hb2); (try clear hk); (try clear hi)) | ((with_reducible refine gate_callee (f := 14) rfl ?_); refine goesL_ (some 46) rfl rfl Tryz.func14 (by kernel_rfl) rfl #[.string x8_1, .int .i64 x1_1] rfl (by (try simp only [List.map_toArray, List.map_cons, List.map_nil]); first | done | rfl | (simp only [List.length_drop, List.length_take]; rfl)) ?_; (with_reducible refine (heap_Values.calls x8_1 x1_1 t256 t257 _ A19.out).mono ?_); rintro e w22 ⟨v258, rfl, ho0, hb⟩; refine ⟨_, rfl, ?_⟩; have n0_ := Aside0.mk (Kd.R_lower ho0 (below_size (by repeat (first | (with_reducible first | exact HB.out | apply below_alloc | apply pw_below_drewN | apply below_drew1) | exact HB.out)))); have n1_ := Aside0.mk (below_step (by repeat (first | (with_reducible first | exact HB.out | apply below_alloc | apply pw_below_drewN | apply below_drew1) | exact HB.out)) hb); clear HB; have HO259 := n0_; have HB := n1_; clear n0_ n1_; (try clear hb); (try clear hb2); (try clear hk); (try clear hi); (try clear ho0)))
                  (try simp only [Act.put, List.setIfInBounds_toArray, List.set_cons_zero, List.set_cons_succ])
                  go_cut [58] (fun v58 wc => ∃ (kq : Nat) (x58_19 : Bool), v58 = .bool x58_19 ∧ Aside0 (staddalaw06_HeapValues.j1 kq a0 x1_1 x8_1 x9_1 t254 t256 t257 x58_19 = some r) ∧ Aside0 (kq ≤ k1) ∧ Aside0 (Kd.R (Kd.int .i64) 3 wc w.heap.size (fun _ => True) v258 t256) ∧ Aside0 (Below w.heap.size w wc))
                  case first =>
                    have H := HC20.out
                    clear HC20
                    by_cases c23 : t254 = 0
                    · rw [if_pos c23] at H
                      have c23b0 : (t254 == 0) = true := beq_iff_eq.mpr c23
                      have c23b1 : (t254 != 0) = false := bne_eq_false_iff_eq.mpr c23
                      clear c23
                      (first | rw [c23b0] | (simp only [i64_w, i32_w]; rw [c23b0]) | skip)
                      by_cases c24 : x1_1 < 0
                      · rw [if_pos c24] at H
                        have c24b0 : decide (x1_1 < 0) = true := decide_eq_true c24
                        clear c24
                        have H' := Aside0.mk H
                        clear H
                        go_wp2
                        go_meet
                        case rel => exact ⟨_, (true), (by first | rfl | (simp; done) | (simp [*]; done)), H', ⟨by have := HK1.out; first | omega | exact Nat.le_refl _⟩, ⟨by (with_reducible repeat (first | apply Kd.R_alloc | apply Kd.R_drewN | apply Kd.R_drew)); exact HO259.out⟩, ⟨by repeat (first | (with_reducible first | exact HB.out | apply below_alloc | apply pw_below_drewN | apply below_drew1) | exact HB.out)⟩⟩
                      · rw [if_neg c24] at H
                        have c24b0 : decide (x1_1 < 0) = false := decide_eq_false c24
                        clear c24
                        have H' := Aside0.mk H
                        clear H
                        go_wp2
                        go_meet
                        case rel => exact ⟨_, (decide (x1_1 > 2000)), (by first | rfl | (simp; done) | (simp [*]; done)), H', ⟨by have := HK1.out; first | omega | exact Nat.le_refl _⟩, ⟨by (with_reducible repeat (first | apply Kd.R_alloc | apply Kd.R_drewN | apply Kd.R_drew)); exact HO259.out⟩, ⟨by repeat (first | (with_reducible first | exact HB.out | apply below_alloc | apply pw_below_drewN | apply below_drew1) | exact HB.out)⟩⟩
                    · rw [if_neg c23] at H
                      have c23b0 : (t254 == 0) = false := beq_eq_false_iff_ne.mpr c23
                      have c23b1 : (t254 != 0) = true := bne_iff_ne.mpr c23
                      (first | rw [c23b0] | (simp only [i64_w, i32_w]; rw [c23b0]) | skip)
                      have H' := Aside0.mk H
                      clear H
                      go_wp2
                      go_meet
                      case rel => exact ⟨_, (false), (by first | rfl | (simp; done) | (simp [*]; done)), H', ⟨by have := HK1.out; first | omega | exact Nat.le_refl _⟩, ⟨by (with_reducible repeat (first | apply Kd.R_alloc | apply Kd.R_drewN | apply Kd.R_drew)); exact HO259.out⟩, ⟨by repeat (first | (with_reducible first | exact HB.out | apply below_alloc | apply pw_below_drewN | apply below_drew1) | exact HB.out)⟩⟩
                  case rest =>
                    clear HC20
                    try clear c1
                    try clear c2
                    try clear p2
                    try clear c4
                    try clear c5
                    try clear c5b0
                    try clear c5b1
                    try clear c6
                    try clear c6b0
                    try clear c6b1
                    try clear c7
                    try clear c10
                    try clear c10b0
                    try clear c10b1
                    try clear c11
                    try clear c12
                    try clear c13
                    try clear c14
                    try clear c15
                    try clear c15b0
                    try clear c18
                    try clear c18b0
                    try clear c18b1
                    try clear c23
                    try clear c23b0
                    try clear c23b1
                    try clear c24
                    try clear c24b0
                    try clear p2
                    obtain ⟨kq, x58_19, rfl, HA, HJ19, HO_11, HB⟩ := hcut
                    cases kq with
                    | zero => exact absurd HA.out (by simp [staddalaw06_HeapValues.j1])
                    | succ kj19 =>
                      have H := HA.out
                      clear HA
                      simp only [staddalaw06_HeapValues.j1] at H
                      have HC25 := Aside0.mk H
                      clear H
                      go_upto_if 58 with (fail)
                      go_cut [10] (fun v10 wc => ∃ (kq : Nat) (x10_24 : Int), v10 = .int .i64 x10_24 ∧ Aside0 (staddalaw06_HeapValues.j2 kq a0 x1_1 x8_1 x9_1 x10_24 t256 t257 = some r) ∧ Aside0 (kq ≤ kj19) ∧ Aside0 (Kd.R (Kd.int .i64) 3 wc w.heap.size (fun _ => True) v258 t256) ∧ Aside0 (Below w.heap.size w wc))
                      case first =>
                        have H := HC25.out
                        clear HC25
                        by_cases c26 : x58_19 = true
                        · subst c26
                          have H1 : (staddalaw06_HeapValues.j2 kj19 a0 x1_1 x8_1 x9_1 1 t256 t257) = some r := by rw [if_pos rfl] at H; exact H
                          clear H
                          have H := H1
                          clear H1
                          have H' := Aside0.mk H
                          clear H
                          go_wp2
                          go_meet
                          case rel => exact ⟨_, (1), (by first | rfl | (simp; done) | (simp [*]; done)), H', ⟨by have := HK1.out; have := HJ19.out; first | omega | exact Nat.le_refl _⟩, ⟨by (with_reducible repeat (first | apply Kd.R_alloc | apply Kd.R_drewN | apply Kd.R_drew)); exact HO_11.out⟩, ⟨by repeat (first | (with_reducible first | exact HB.out | apply below_alloc | apply pw_below_drewN | apply below_drew1) | exact HB.out)⟩⟩
                        · replace c26 := Bool.eq_false_iff.mpr c26
                          subst c26
                          have H1 : (staddalaw06_HeapValues.j2 kj19 a0 x1_1 x8_1 x9_1 t254 t256 t257) = some r := by rw [if_neg (show ¬ (false = true) by decide)] at H; exact H
                          clear H
                          have H := H1
                          clear H1
                          have H' := Aside0.mk H
                          clear H
                          go_wp2
                          go_meet
                          case rel => exact ⟨_, (t254), (by first | rfl | (simp; done) | (simp [*]; done)), H', ⟨by have := HK1.out; have := HJ19.out; first | omega | exact Nat.le_refl _⟩, ⟨by (with_reducible repeat (first | apply Kd.R_alloc | apply Kd.R_drewN | apply Kd.R_drew)); exact HO_11.out⟩, ⟨by repeat (first | (with_reducible first | exact HB.out | apply below_alloc | apply pw_below_drewN | apply below_drew1) | exact HB.out)⟩⟩
                      case rest =>
                        clear HC25
                        try clear c1
                        try clear c2
                        try clear p2
                        try clear c4
                        try clear c5
                        try clear c5b0
                        try clear c5b1
                        try clear c6
                        try clear c6b0
                        try clear c6b1
                        try clear c7
                        try clear c10
                        try clear c10b0
                        try clear c10b1
                        try clear c11
                        try clear c12
                        try clear c13
                        try clear c14
                        try clear c15
                        try clear c15b0
                        try clear c18
                        try clear c18b0
                        try clear c18b1
                        try clear c23
                        try clear c23b0
                        try clear c23b1
                        try clear c24
                        try clear c24b0
                        try clear c26
                        try clear p2
                        obtain ⟨kq, x10_24, rfl, HA, HJ24, HO_11, HB⟩ := hcut
                        cases kq with
                        | zero => exact absurd HA.out (by simp [staddalaw06_HeapValues.j2])
                        | succ kj24 =>
                          have H := HA.out
                          clear HA
                          simp only [staddalaw06_HeapValues.j2] at H
                          have HC27 := Aside0.mk H
                          clear H
                          go_upto_if 60 with (fail)
                          go_cut [] (fun wc => ∃ (kq : Nat), Aside0 (staddalaw06_HeapValues.j3 kq a0 x1_1 x8_1 x9_1 = some r) ∧ Aside0 (kq ≤ kj24) ∧ Aside0 (Below w.heap.size w wc))
                          case first =>
                            have H := HC27.out
                            clear HC27
                            by_cases c28 : x10_24 = 0
                            · rw [if_pos c28] at H
                              have c28b0 : (x10_24 == 0) = true := beq_iff_eq.mpr c28
                              have c28b1 : (x10_24 != 0) = false := bne_eq_false_iff_eq.mpr c28
                              clear c28
                              (first | rw [c28b0] | (simp only [i64_w, i32_w]; rw [c28b0]) | skip)
                              by_cases c29 : t257 = 0
                              · rw [if_pos c29] at H
                                have c29b0 : (t257 == 0) = true := beq_iff_eq.mpr c29
                                have c29b1 : (t257 != 0) = false := bne_eq_false_iff_eq.mpr c29
                                clear c29
                                by_cases c30 : (t256.length : Int) = (wrap64 (x1_1 + 1))
                                · rw [if_pos c30] at H
                                  have c30b0 : ((t256.length : Int) == (wrap64 (x1_1 + 1))) = true := beq_iff_eq.mpr c30
                                  have c30b1 : ((t256.length : Int) != (wrap64 (x1_1 + 1))) = false := bne_eq_false_iff_eq.mpr c30
                                  clear c30
                                  by_cases c31 : x1_1 ≤ 300
                                  · rw [if_pos c31] at H
                                    have c31b0 : decide (x1_1 ≤ 300) = true := decide_eq_true c31
                                    clear c31
                                    replace H := Option.bind_eq_some_iff.mp H
                                    obtain ⟨t260, A320, H⟩ := H
                                    replace H : ((staddalaw06_same.f kj24 t256 t260).bind fun t263 => (if t263 = true then (staddalaw06_HeapValues.j3 kj24 a0 x1_1 x8_1 x9_1) else (some false))) = some r := H
                                    have A32 := Aside0.mk A320
                                    clear A320
                                    replace H := Option.bind_eq_some_iff.mp H
                                    obtain ⟨t263, A330, H⟩ := H
                                    replace H : (if t263 = true then (staddalaw06_HeapValues.j3 kj24 a0 x1_1 x8_1 x9_1) else (some false)) = some r := H
                                    have A33 := Aside0.mk A330
                                    clear A330
                                    by_cases c34 : t263 = true
                                    · subst c34
                                      have H1 : (staddalaw06_HeapValues.j3 kj24 a0 x1_1 x8_1 x9_1) = some r := by rw [if_pos rfl] at H; exact H
                                      clear H
                                      have H := H1
                                      clear H1
                                      have H' := Aside0.mk H
                                      clear H
                                      obtain ⟨Ao35, co35, eo35⟩ := Kd.R_slice HO_11.out
                                      subst eo35
                                      go_wp2_with (first | (go_at_call 15; (with_reducible refine (staddaref06_Values.calls kj24 x8_1 x1_1 t260 _ A32.out).mono ?_); rintro e w36 ⟨v261, rfl, ho0, hb⟩; have n0_ := Aside0.mk (Kd.R_elder' (by (with_reducible repeat (first | apply Kd.R_alloc | apply Kd.R_drewN | apply Kd.R_drew)); exact HO_11.out) (Kd.R_base ho0) hb); have n1_ := Aside0.mk (Kd.R_lower (Kd.R_new' ho0 (Kd.R_lt (by (with_reducible repeat (first | apply Kd.R_alloc | apply Kd.R_drewN | apply Kd.R_drew)); exact HO_11.out))) (below_size (by repeat (first | (with_reducible first | exact HB.out | apply below_alloc | apply pw_below_drewN | apply below_drew1) | exact HB.out)))); have n2_ := Aside0.mk (below_step (by repeat (first | (with_reducible first | exact HB.out | apply below_alloc | apply pw_below_drewN | apply below_drew1) | exact HB.out)) hb); clear HO_11; clear HB; have HO_11 := n0_; have HO262 := n1_; have HB := n2_; clear n0_ n1_ n2_; (try clear hb); (try clear hb2); (try clear hk); (try clear hi); (try clear ho0); obtain ⟨Ao37, co37, eo37⟩ := Kd.R_slice HO262.out; subst eo37) | (go_at_call 8; (with_reducible refine (staddalaw06_same.calls kj24 _ _ t256 _ _ t260 true _ ?side1 ?side2 ?side3 ?side4 A33.out).mono ?_); (case side1 => repeat (first | exact (Kd.R_reads' HO_11.out).2.2 | (with_reducible refine Kd.C_alloc ?_ _) | (with_reducible refine Kd.C_drewN ?_ _) | (with_reducible refine Kd.C_drew ?_))); (case side2 => exact (Kd.R_reads' HO_11.out).2.1); (case side3 => repeat (first | exact (Kd.R_reads' HO262.out).2.2 | (with_reducible refine Kd.C_alloc ?_ _) | (with_reducible refine Kd.C_drewN ?_ _) | (with_reducible refine Kd.C_drew ?_))); (case side4 => exact (Kd.R_reads' HO262.out).2.1); rintro e w' ⟨rfl, ⟨nd, rfl⟩⟩))
                                      go_meet
                                      case rel => exact ⟨_, H', ⟨by have := HK1.out; have := HJ19.out; have := HJ24.out; first | omega | exact Nat.le_refl _⟩, ⟨by repeat (first | (with_reducible first | exact HB.out | apply below_alloc | apply pw_below_drewN | apply below_drew1) | exact HB.out)⟩⟩
                                    · replace c34 := Bool.eq_false_iff.mpr c34
                                      subst c34
                                      have H1 : (some false) = some r := by rw [if_neg (show ¬ (false = true) by decide)] at H; exact H
                                      clear H
                                      have H := H1
                                      clear H1
                                      obtain rfl := Option.some.inj H
                                      obtain ⟨Ao38, co38, eo38⟩ := Kd.R_slice HO_11.out
                                      subst eo38
                                      go_wp2_with (first | (go_at_call 15; (with_reducible refine (staddaref06_Values.calls kj24 x8_1 x1_1 t260 _ A32.out).mono ?_); rintro e w39 ⟨v261, rfl, ho0, hb⟩; have n0_ := Aside0.mk (Kd.R_elder' (by (with_reducible repeat (first | apply Kd.R_alloc | apply Kd.R_drewN | apply Kd.R_drew)); exact HO_11.out) (Kd.R_base ho0) hb); have n1_ := Aside0.mk (Kd.R_lower (Kd.R_new' ho0 (Kd.R_lt (by (with_reducible repeat (first | apply Kd.R_alloc | apply Kd.R_drewN | apply Kd.R_drew)); exact HO_11.out))) (below_size (by repeat (first | (with_reducible first | exact HB.out | apply below_alloc | apply pw_below_drewN | apply below_drew1) | exact HB.out)))); have n2_ := Aside0.mk (below_step (by repeat (first | (with_reducible first | exact HB.out | apply below_alloc | apply pw_below_drewN | apply below_drew1) | exact HB.out)) hb); clear HO_11; clear HB; have HO_11 := n0_; have HO262 := n1_; have HB := n2_; clear n0_ n1_ n2_; (try clear hb); (try clear hb2); (try clear hk); (try clear hi); (try clear ho0); obtain ⟨Ao40, co40, eo40⟩ := Kd.R_slice HO262.out; subst eo40) | (go_at_call 8; (with_reducible refine (staddalaw06_same.calls kj24 _ _ t256 _ _ t260 false _ ?side1 ?side2 ?side3 ?side4 A33.out).mono ?_); (case side1 => repeat (first | exact (Kd.R_reads' HO_11.out).2.2 | (with_reducible refine Kd.C_alloc ?_ _) | (with_reducible refine Kd.C_drewN ?_ _) | (with_reducible refine Kd.C_drew ?_))); (case side2 => exact (Kd.R_reads' HO_11.out).2.1); (case side3 => repeat (first | exact (Kd.R_reads' HO262.out).2.2 | (with_reducible refine Kd.C_alloc ?_ _) | (with_reducible refine Kd.C_drewN ?_ _) | (with_reducible refine Kd.C_drew ?_))); (case side4 => exact (Kd.R_reads' HO262.out).2.1); rintro e w' ⟨rfl, ⟨nd, rfl⟩⟩))
                                      go_ret
                                      exact ⟨by first | rfl | (simp [errW_none, errW_some] <;> rfl) | (simp only [← hji4]; first | rfl | (simp [errW_none, errW_some] <;> rfl)) | (simp [*, errW_none, errW_some] <;> rfl), by repeat (first | (with_reducible first | exact HB.out | apply below_alloc | apply pw_below_drewN | apply below_drew1) | exact HB.out)⟩
                                  · rw [if_neg c31] at H
                                    have c31b0 : decide (x1_1 ≤ 300) = false := decide_eq_false c31
                                    clear c31
                                    have H' := Aside0.mk H
                                    clear H
                                    obtain ⟨Ao41, co41, eo41⟩ := Kd.R_slice HO_11.out
                                    subst eo41
                                    go_wp2
                                    go_meet
                                    case rel => exact ⟨_, H', ⟨by have := HK1.out; have := HJ19.out; have := HJ24.out; first | omega | exact Nat.le_refl _⟩, ⟨by repeat (first | (with_reducible first | exact HB.out | apply below_alloc | apply pw_below_drewN | apply below_drew1) | exact HB.out)⟩⟩
                                · rw [if_neg c30] at H
                                  have c30b0 : ((t256.length : Int) == (wrap64 (x1_1 + 1))) = false := beq_eq_false_iff_ne.mpr c30
                                  have c30b1 : ((t256.length : Int) != (wrap64 (x1_1 + 1))) = true := bne_iff_ne.mpr c30
                                  obtain rfl := Option.some.inj H
                                  obtain ⟨Ao42, co42, eo42⟩ := Kd.R_slice HO_11.out
                                  subst eo42
                                  go_wp2
                                  go_ret
                                  exact ⟨by first | rfl | (simp [errW_none, errW_some] <;> rfl) | (simp only [← hji4]; first | rfl | (simp [errW_none, errW_some] <;> rfl)) | (simp [*, errW_none, errW_some] <;> rfl), by repeat (first | (with_reducible first | exact HB.out | apply below_alloc | apply pw_below_drewN | apply below_drew1) | exact HB.out)⟩
                              · rw [if_neg c29] at H
                                have c29b0 : (t257 == 0) = false := beq_eq_false_iff_ne.mpr c29
                                have c29b1 : (t257 != 0) = true := bne_iff_ne.mpr c29
                                obtain rfl := Option.some.inj H
                                go_wp2
                                go_ret
                                exact ⟨by first | rfl | (simp [errW_none, errW_some] <;> rfl) | (simp only [← hji4]; first | rfl | (simp [errW_none, errW_some] <;> rfl)) | (simp [*, errW_none, errW_some] <;> rfl), by repeat (first | (with_reducible first | exact HB.out | apply below_alloc | apply pw_below_drewN | apply below_drew1) | exact HB.out)⟩
                            · rw [if_neg c28] at H
                              have c28b0 : (x10_24 == 0) = false := beq_eq_false_iff_ne.mpr c28
                              have c28b1 : (x10_24 != 0) = true := bne_iff_ne.mpr c28
                              (first | rw [c28b0] | (simp only [i64_w, i32_w]; rw [c28b0]) | skip)
                              by_cases c43 : t257 = x10_24
                              · rw [if_pos c43] at H
                                have c43b0 : (t257 == x10_24) = true := beq_iff_eq.mpr c43
                                have c43b1 : (t257 != x10_24) = false := bne_eq_false_iff_eq.mpr c43
                                clear c43
                                by_cases c44 : (t256.length : Int) = 0
                                · rw [if_pos c44] at H
                                  have c44b0 : ((t256.length : Int) == 0) = true := beq_iff_eq.mpr c44
                                  have c44b1 : ((t256.length : Int) != 0) = false := bne_eq_false_iff_eq.mpr c44
                                  clear c44
                                  have H' := Aside0.mk H
                                  clear H
                                  obtain ⟨Ao45, co45, eo45⟩ := Kd.R_slice HO_11.out
                                  subst eo45
                                  go_wp2
                                  go_meet
                                  case rel => exact ⟨_, H', ⟨by have := HK1.out; have := HJ19.out; have := HJ24.out; first | omega | exact Nat.le_refl _⟩, ⟨by repeat (first | (with_reducible first | exact HB.out | apply below_alloc | apply pw_below_drewN | apply below_drew1) | exact HB.out)⟩⟩
                                · rw [if_neg c44] at H
                                  have c44b0 : ((t256.length : Int) == 0) = false := beq_eq_false_iff_ne.mpr c44
                                  have c44b1 : ((t256.length : Int) != 0) = true := bne_iff_ne.mpr c44
                                  have c44b2 : ¬ (t256 = []) := fun h_ => c44 (by rw [h_]; rfl)
                                  obtain rfl := Option.some.inj H
                                  obtain ⟨Ao46, co46, eo46⟩ := Kd.R_slice HO_11.out
                                  subst eo46
                                  go_wp2
                                  go_ret
                                  exact ⟨by first | rfl | (simp [errW_none, errW_some] <;> rfl) | (simp only [← hji4]; first | rfl | (simp [errW_none, errW_some] <;> rfl)) | (simp [*, errW_none, errW_some] <;> rfl), by repeat (first | (with_reducible first | exact HB.out | apply below_alloc | apply pw_below_drewN | apply below_drew1) | exact HB.out)⟩
                              · rw [if_neg c43] at H
                                have c43b0 : (t257 == x10_24) = false := beq_eq_false_iff_ne.mpr c43
                                have c43b1 : (t257 != x10_24) = true := bne_iff_ne.mpr c43
                                obtain rfl := Option.some.inj H
                                go_wp2
                                go_ret
                                exact ⟨by first | rfl | (simp [errW_none, errW_some] <;> rfl) | (simp only [← hji4]; first | rfl | (simp [errW_none, errW_some] <;> rfl)) | (simp [*, errW_none, errW_some] <;> rfl), by repeat (first | (with_reducible first | exact HB.out | apply below_alloc | apply pw_below_drewN | apply below_drew1) | exact HB.out)⟩
                          case rest =>
                            clear HC27
                            try clear c1
                            try clear c2
                            try clear p2
                            try clear c3
                            try clear c4
                            try clear c5
                            try clear c5b0
                            try clear c5b1
                            try clear c6
                            try clear c6b0
                            try clear c6b1
                            try clear p6
                            try clear c7
                            try clear c10
                            try clear c10b0
                            try clear c10b1
                            try clear c11
                            try clear c12
                            try clear c13
                            try clear c14
                            try clear c15
                            try clear c15b0
                            try clear c18
                            try clear c18b0
                            try clear c18b1
                            try clear c23
                            try clear c23b0
                            try clear c23b1
                            try clear c24
                            try clear c24b0
                            try clear c26
                            try clear c28
                            try clear c28b0
                            try clear c28b1
                            try clear c29
                            try clear c29b0
                            try clear c29b1
                            try clear c30
                            try clear c30b0
                            try clear c30b1
                            try clear c31
                            try clear c31b0
                            try clear c34
                            try clear c43
                            try clear c43b0
                            try clear c43b1
                            try clear c44
                            try clear c44b0
                            try clear c44b1
                            try clear c44b2
                            try clear p2
                            obtain ⟨kq, HA, HJ26, HB⟩ := hcut
                            cases kq with
                            | zero => exact absurd HA.out (by simp [staddalaw06_HeapValues.j3])
                            | succ kj26 =>
                              have H := HA.out
                              clear HA
                              simp only [staddalaw06_HeapValues.j3] at H
                              replace H := Option.bind_eq_some_iff.mp H
                              obtain ⟨t264, A470, H⟩ := H
                              replace H : (if t264 = 0 then ((staddalaw06_code.f kj26 a0).bind fun t265 => (staddalaw06_HeapValues.l0 kj26 a0 (wrap64 (Int.tmod (IntKind.u64.wrap (x1_1)) 120)) t265 (wrap64 (x9_1 + 1)))) else ((heap_Period.f kj26 x8_1 100).bind fun bt266 => ((heap_Moves.f x8_1 (([1] : List Int))).bind fun bt273 => (if bt266.2.2.2 = t264 then (if bt273.2 = t264 then (if bt266.2.2.1 = true then (some false) else (if (bt273.1.length : Int) = 0 then ((heap_IsPeriod.f kj26 x8_1 100 0 1).bind fun t277 => (if t277 = true then (some false) else ((staddalaw06_code.f kj26 a0).bind fun t278 => (staddalaw06_HeapValues.l0 kj26 a0 (wrap64 (Int.tmod (IntKind.u64.wrap (x1_1)) 120)) t278 (wrap64 (x9_1 + 1)))))) else (some false))) else (some false)) else (some false))))) = some r := H
                              have A47 := Aside0.mk A470
                              clear A470
                              by_cases c48 : t264 = 0
                              · rw [if_pos c48] at H
                                have c48b0 : (t264 == 0) = true := beq_iff_eq.mpr c48
                                have c48b1 : (t264 != 0) = false := bne_eq_false_iff_eq.mpr c48
                                clear c48
                                replace H := Option.bind_eq_some_iff.mp H
                                obtain ⟨t265, A490, H⟩ := H
                                replace H : (staddalaw06_HeapValues.l0 kj26 a0 (wrap64 (Int.tmod (IntKind.u64.wrap (x1_1)) 120)) t265 (wrap64 (x9_1 + 1))) = some r := H
                                have A49 := Aside0.mk A490
                                clear A490
                                have H' := Aside0.mk H
                                clear H
                                go_wp2_with (first | ((with_reducible refine gate_callee (f := 12) rfl ?_); refine goesL_ (some 91) rfl rfl Tryz.func12 (by kernel_rfl) rfl #[.string x8_1] rfl (by (try simp only [List.map_toArray, List.map_cons, List.map_nil]); first | done | rfl | (simp only [List.length_drop, List.length_take]; rfl)) ?_; (with_reducible refine (staddaref06_Check.calls kj26 x8_1 t264 _ A47.out).mono ?_); rintro e w' ⟨rfl, ⟨nd, rfl⟩⟩; refine ⟨_, rfl, ?_⟩) | ((with_reducible refine gate_callee (f := 5) rfl ?_); refine goesL_ (some 128) rfl rfl Tryz.func5 (by kernel_rfl) rfl #[.string a0] rfl (by (try simp only [List.map_toArray, List.map_cons, List.map_nil]); first | done | rfl | (simp only [List.length_drop, List.length_take]; rfl)) ?_; (with_reducible refine (staddalaw06_code.calls kj26 a0 t265 _ A49.out).mono ?_); rintro e w50 ⟨rfl, hb⟩; refine ⟨_, rfl, ?_⟩; have n0_ := Aside0.mk (below_step (by repeat (first | (with_reducible first | exact HB.out | apply below_alloc | apply pw_below_drewN | apply below_drew1) | exact HB.out)) hb); clear HB; have HB := n0_; clear n0_; (try clear hb); (try clear hb2); (try clear hk); (try clear hi)))
                                go_roundg kj26
                                case measure => have := HK1.out; have := HJ19.out; have := HJ24.out; have := HJ26.out; omega
                                case rel => exact ⟨(wrap64 (Int.tmod (IntKind.u64.wrap (x1_1)) 120)), (t265), (wrap64 (x9_1 + 1)), (by first | rfl | (simp; done) | (simp [*]; done)), (by first | rfl | (simp; done) | (simp [*]; done)), (by first | rfl | (simp; done) | (simp [*]; done)), H', ⟨by have := HK1.out; have := HJ19.out; have := HJ24.out; have := HJ26.out; omega⟩, ⟨by repeat (first | (with_reducible first | exact HB.out | apply below_alloc | apply pw_below_drewN | apply below_drew1) | exact HB.out)⟩⟩
                              · rw [if_neg c48] at H
                                have c48b0 : (t264 == 0) = false := beq_eq_false_iff_ne.mpr c48
                                have c48b1 : (t264 != 0) = true := bne_iff_ne.mpr c48
                                replace H := Option.bind_eq_some_iff.mp H
                                obtain ⟨⟨t266, t267, t268, t269⟩, A510, H⟩ := H
                                replace H : ((heap_Moves.f x8_1 (([1] : List Int))).bind fun bt273 => (if t269 = t264 then (if bt273.2 = t264 then (if t268 = true then (some false) else (if (bt273.1.length : Int) = 0 then ((heap_IsPeriod.f kj26 x8_1 100 0 1).bind fun t277 => (if t277 = true then (some false) else ((staddalaw06_code.f kj26 a0).bind fun t278 => (staddalaw06_HeapValues.l0 kj26 a0 (wrap64 (Int.tmod (IntKind.u64.wrap (x1_1)) 120)) t278 (wrap64 (x9_1 + 1)))))) else (some false))) else (some false)) else (some false))) = some r := H
                                have A51 := Aside0.mk A510
                                clear A510
                                obtain ⟨y270, hy270⟩ : ∃ y_ : List Int, y_ = (([1] : List Int)) := ⟨_, rfl⟩
                                replace H : ((heap_Moves.f x8_1 y270).bind fun bt273 => (if t269 = t264 then (if bt273.2 = t264 then (if t268 = true then (some false) else (if (bt273.1.length : Int) = 0 then ((heap_IsPeriod.f kj26 x8_1 100 0 1).bind fun t277 => (if t277 = true then (some false) else ((staddalaw06_code.f kj26 a0).bind fun t278 => (staddalaw06_HeapValues.l0 kj26 a0 (wrap64 (Int.tmod (IntKind.u64.wrap (x1_1)) 120)) t278 (wrap64 (x9_1 + 1)))))) else (some false))) else (some false)) else (some false))) = some r := by first | (rw [hy270]; with_reducible exact H) | (have H2_ := (Option.bind_some _ _).symm.trans H; rw [hy270]; with_reducible exact H2_) | (have H2_ := (Option.bind_some _ _).symm.trans H; with_reducible exact H2_) | with_reducible exact H | (rw [hy270]; exact H) | exact H
                                have Ny270 := Aside0.mk hy270
                                clear hy270
                                replace H := Option.bind_eq_some_iff.mp H
                                obtain ⟨⟨t273, t274⟩, A520, H⟩ := H
                                replace H : (if t269 = t264 then (if t274 = t264 then (if t268 = true then (some false) else (if (t273.length : Int) = 0 then ((heap_IsPeriod.f kj26 x8_1 100 0 1).bind fun t277 => (if t277 = true then (some false) else ((staddalaw06_code.f kj26 a0).bind fun t278 => (staddalaw06_HeapValues.l0 kj26 a0 (wrap64 (Int.tmod (IntKind.u64.wrap (x1_1)) 120)) t278 (wrap64 (x9_1 + 1)))))) else (some false))) else (some false)) else (some false)) = some r := H
                                have A52 := Aside0.mk A520
                                clear A520
                                by_cases c53 : t269 = t264
                                · rw [if_pos c53] at H
                                  have c53b0 : (t269 == t264) = true := beq_iff_eq.mpr c53
                                  have c53b1 : (t269 != t264) = false := bne_eq_false_iff_eq.mpr c53
                                  clear c53
                                  by_cases c54 : t274 = t264
                                  · rw [if_pos c54] at H
                                    have c54b0 : (t274 == t264) = true := beq_iff_eq.mpr c54
                                    have c54b1 : (t274 != t264) = false := bne_eq_false_iff_eq.mpr c54
                                    clear c54
                                    by_cases c55 : t268 = true
                                    · subst c55
                                      have H1 : (some false) = some r := by rw [if_pos rfl] at H; exact H
                                      clear H
                                      have H := H1
                                      clear H1
                                      obtain rfl := Option.some.inj H
                                      go_wp2_with (first | ((with_reducible refine gate_callee (f := 12) rfl ?_); refine goesL_ (some 91) rfl rfl Tryz.func12 (by kernel_rfl) rfl #[.string x8_1] rfl (by (try simp only [List.map_toArray, List.map_cons, List.map_nil]); first | done | rfl | (simp only [List.length_drop, List.length_take]; rfl)) ?_; (with_reducible refine (staddaref06_Check.calls kj26 x8_1 t264 _ A47.out).mono ?_); rintro e w' ⟨rfl, ⟨nd, rfl⟩⟩; refine ⟨_, rfl, ?_⟩) | ((with_reducible refine gate_callee (f := 16) rfl ?_); refine goesL_ (some 96) rfl rfl Tryz.func16 (by kernel_rfl) rfl #[.string x8_1, .int .i64 100] rfl (by (try simp only [List.map_toArray, List.map_cons, List.map_nil]); first | done | rfl | (simp only [List.length_drop, List.length_take]; rfl)) ?_; (with_reducible refine (heap_Period.calls kj26 x8_1 100 t266 t267 true t269 _ A51.out).mono ?_); rintro e w56 ⟨rfl, hb⟩; refine ⟨_, rfl, ?_⟩; have n0_ := Aside0.mk (below_step (by repeat (first | (with_reducible first | exact HB.out | apply below_alloc | apply pw_below_drewN | apply below_drew1) | exact HB.out)) hb); clear HB; have HB := n0_; clear n0_; (try clear hb); (try clear hb2); (try clear hk); (try clear hi)) | ((with_reducible refine gate_dst (N := 103) rfl ?_); (try (refine gate_guard (by rfl) ?_; dsimp only)); refine Kd.R_lit (Kd.int .i64) _ 3 ?hg (N := 103) ?hd (xs := ([1] : List Int)) (inner := [.int .i64 1]) (ok := fun _ => True) (okp := fun _ => True) ?hr ?hp (fun _ hk => hk) trivial (Below.refl _ _) (Nat.le_refl _) (by simp) ?_; (case hd => rfl); (case hg => rfl); (case hr => first | (go_simp; done) | (go_simp; rfl)); (case hp => exact (Reps.one (show Kd.M (Kd.int .i64) _ _ _ 1 [.int .i64 1] from rfl) (Reps.none _ _))); intro v271 w57 ho58 hb hg_ hnew_; clear hg_ hnew_; (first | rw [← Ny270.out] at ho58 | (simp only [Int.reduceToNat] at ho58; rw [← Ny270.out] at ho58)); have n0_ := Aside0.mk (Kd.R_lower ho58 (below_size (by repeat (first | (with_reducible first | exact HB.out | apply below_alloc | apply pw_below_drewN | apply below_drew1) | exact HB.out)))); have n1_ := Aside0.mk (below_step (by repeat (first | (with_reducible first | exact HB.out | apply below_alloc | apply pw_below_drewN | apply below_drew1) | exact HB.out)) hb); clear HB; have HO272 := n0_; have HB := n1_; clear n0_ n1_; clear hb ho58; obtain ⟨Ao59, co59, eo59⟩ := Kd.R_slice HO272.out; subst eo59) | ((with_reducible refine gate_callee (f := 6) rfl ?_); refine goesL_ (some 104) rfl rfl Tryz.func6 (by kernel_rfl) rfl #[.string x8_1, .slice Ao59 y270.length co59] rfl (by (try simp only [List.map_toArray, List.map_cons, List.map_nil]); first | done | rfl | (simp only [List.length_drop, List.length_take]; rfl)) ?_; (with_reducible refine (heap_Moves.calls x8_1 _ _ y270 t273 t274 _ ?side1 ?side2 A52.out).mono ?_); (case side1 => repeat (first | exact (Kd.R_reads' HO272.out).2.2 | (with_reducible refine Kd.C_alloc ?_ _) | (with_reducible refine Kd.C_drewN ?_ _) | (with_reducible refine Kd.C_drew ?_))); (case side2 => exact (Kd.R_reads' HO272.out).2.1); rintro e w60 ⟨v275, rfl, ho0, hb⟩; refine ⟨_, rfl, ?_⟩; have n0_ := Aside0.mk (Kd.R_below (by (with_reducible repeat (first | apply Kd.R_alloc | apply Kd.R_drewN | apply Kd.R_drew)); exact HO272.out) hb); have n1_ := Aside0.mk (Kd.S_lower (Kd.S_new' ho0 (Kd.R_lt (by (with_reducible repeat (first | apply Kd.R_alloc | apply Kd.R_drewN | apply Kd.R_drew)); exact HO272.out))) (below_size (by repeat (first | (with_reducible first | exact HB.out | apply below_alloc | apply pw_below_drewN | apply below_drew1) | exact HB.out)))); have n2_ := Aside0.mk (below_step (by repeat (first | (with_reducible first | exact HB.out | apply below_alloc | apply pw_below_drewN | apply below_drew1) | exact HB.out)) hb); clear HO272; clear HB; have HO272 := n0_; have HO276 := n1_; have HB := n2_; clear n0_ n1_ n2_; (try clear hb); (try clear hb2); (try clear hk); (try clear hi); (try clear ho0)))
                                      go_ret
                                      exact ⟨by first | rfl | (simp [errW_none, errW_some] <;> rfl) | (simp only [← hji4]; first | rfl | (simp [errW_none, errW_some] <;> rfl)) | (simp [*, errW_none, errW_some] <;> rfl), by repeat (first | (with_reducible first | exact HB.out | apply below_alloc | apply pw_below_drewN | apply below_drew1) | exact HB.out)⟩
                                    · replace c55 := Bool.eq_false_iff.mpr c55
                                      subst c55
                                      have H1 : (if (t273.length : Int) = 0 then ((heap_IsPeriod.f kj26 x8_1 100 0 1).bind fun t277 => (if t277 = true then (some false) else ((staddalaw06_code.f kj26 a0).bind fun t278 => (staddalaw06_HeapValues.l0 kj26 a0 (wrap64 (Int.tmod (IntKind.u64.wrap (x1_1)) 120)) t278 (wrap64 (x9_1 + 1)))))) else (some false)) = some r := by rw [if_neg (show ¬ (false = true) by decide)] at H; exact H
                                      clear H
                                      have H := H1
                                      clear H1
                                      by_cases c61 : (t273.length : Int) = 0
                                      · rw [if_pos c61] at H
                                        have c61b0 : ((t273.length : Int) == 0) = true := beq_iff_eq.mpr c61
                                        have c61b1 : ((t273.length : Int) != 0) = false := bne_eq_false_iff_eq.mpr c61
                                        clear c61
                                        replace H := Option.bind_eq_some_iff.mp H
                                        obtain ⟨t277, A620, H⟩ := H
                                        replace H : (if t277 = true then (some false) else ((staddalaw06_code.f kj26 a0).bind fun t278 => (staddalaw06_HeapValues.l0 kj26 a0 (wrap64 (Int.tmod (IntKind.u64.wrap (x1_1)) 120)) t278 (wrap64 (x9_1 + 1))))) = some r := H
                                        have A62 := Aside0.mk A620
                                        clear A620
                                        by_cases c63 : t277 = true
                                        · subst c63
                                          have H1 : (some false) = some r := by rw [if_pos rfl] at H; exact H
                                          clear H
                                          have H := H1
                                          clear H1
                                          obtain rfl := Option.some.inj H
                                          go_wp2_with (first | ((with_reducible refine gate_callee (f := 12) rfl ?_); refine goesL_ (some 91) rfl rfl Tryz.func12 (by kernel_rfl) rfl #[.string x8_1] rfl (by (try simp only [List.map_toArray, List.map_cons, List.map_nil]); first | done | rfl | (simp only [List.length_drop, List.length_take]; rfl)) ?_; (with_reducible refine (staddaref06_Check.calls kj26 x8_1 t264 _ A47.out).mono ?_); rintro e w' ⟨rfl, ⟨nd, rfl⟩⟩; refine ⟨_, rfl, ?_⟩) | ((with_reducible refine gate_callee (f := 16) rfl ?_); refine goesL_ (some 96) rfl rfl Tryz.func16 (by kernel_rfl) rfl #[.string x8_1, .int .i64 100] rfl (by (try simp only [List.map_toArray, List.map_cons, List.map_nil]); first | done | rfl | (simp only [List.length_drop, List.length_take]; rfl)) ?_; (with_reducible refine (heap_Period.calls kj26 x8_1 100 t266 t267 false t269 _ A51.out).mono ?_); rintro e w64 ⟨rfl, hb⟩; refine ⟨_, rfl, ?_⟩; have n0_ := Aside0.mk (below_step (by repeat (first | (with_reducible first | exact HB.out | apply below_alloc | apply pw_below_drewN | apply below_drew1) | exact HB.out)) hb); clear HB; have HB := n0_; clear n0_; (try clear hb); (try clear hb2); (try clear hk); (try clear hi)) | ((with_reducible refine gate_dst (N := 103) rfl ?_); (try (refine gate_guard (by rfl) ?_; dsimp only)); refine Kd.R_lit (Kd.int .i64) _ 3 ?hg (N := 103) ?hd (xs := ([1] : List Int)) (inner := [.int .i64 1]) (ok := fun _ => True) (okp := fun _ => True) ?hr ?hp (fun _ hk => hk) trivial (Below.refl _ _) (Nat.le_refl _) (by simp) ?_; (case hd => rfl); (case hg => rfl); (case hr => first | (go_simp; done) | (go_simp; rfl)); (case hp => exact (Reps.one (show Kd.M (Kd.int .i64) _ _ _ 1 [.int .i64 1] from rfl) (Reps.none _ _))); intro v271 w65 ho66 hb hg_ hnew_; clear hg_ hnew_; (first | rw [← Ny270.out] at ho66 | (simp only [Int.reduceToNat] at ho66; rw [← Ny270.out] at ho66)); have n0_ := Aside0.mk (Kd.R_lower ho66 (below_size (by repeat (first | (with_reducible first | exact HB.out | apply below_alloc | apply pw_below_drewN | apply below_drew1) | exact HB.out)))); have n1_ := Aside0.mk (below_step (by repeat (first | (with_reducible first | exact HB.out | apply below_alloc | apply pw_below_drewN | apply below_drew1) | exact HB.out)) hb); clear HB; have HO272 := n0_; have HB := n1_; clear n0_ n1_; clear hb ho66; obtain ⟨Ao67, co67, eo67⟩ := Kd.R_slice HO272.out; subst eo67) | ((with_reducible refine gate_callee (f := 6) rfl ?_); refine goesL_ (some 104) rfl rfl Tryz.func6 (by kernel_rfl) rfl #[.string x8_1, .slice Ao67 y270.length co67] rfl (by (try simp only [List.map_toArray, List.map_cons, List.map_nil]); first | done | rfl | (simp only [List.length_drop, List.length_take]; rfl)) ?_; (with_reducible refine (heap_Moves.calls x8_1 _ _ y270 t273 t274 _ ?side1 ?side2 A52.out).mono ?_); (case side1 => repeat (first | exact (Kd.R_reads' HO272.out).2.2 | (with_reducible refine Kd.C_alloc ?_ _) | (with_reducible refine Kd.C_drewN ?_ _) | (with_reducible refine Kd.C_drew ?_))); (case side2 => exact (Kd.R_reads' HO272.out).2.1); rintro e w68 ⟨v275, rfl, ho0, hb⟩; refine ⟨_, rfl, ?_⟩; have n0_ := Aside0.mk (Kd.R_below (by (with_reducible repeat (first | apply Kd.R_alloc | apply Kd.R_drewN | apply Kd.R_drew)); exact HO272.out) hb); have n1_ := Aside0.mk (Kd.S_lower (Kd.S_new' ho0 (Kd.R_lt (by (with_reducible repeat (first | apply Kd.R_alloc | apply Kd.R_drewN | apply Kd.R_drew)); exact HO272.out))) (below_size (by repeat (first | (with_reducible first | exact HB.out | apply below_alloc | apply pw_below_drewN | apply below_drew1) | exact HB.out)))); have n2_ := Aside0.mk (below_step (by repeat (first | (with_reducible first | exact HB.out | apply below_alloc | apply pw_below_drewN | apply below_drew1) | exact HB.out)) hb); clear HO272; clear HB; have HO272 := n0_; have HO276 := n1_; have HB := n2_; clear n0_ n1_ n2_; (try clear hb); (try clear hb2); (try clear hk); (try clear hi); (try clear ho0); obtain ⟨Ao69, co69, eo69⟩ := Kd.S_slice HO276.out; subst eo69) | (go_at_call 17; (with_reducible refine (heap_IsPeriod.calls kj26 x8_1 100 0 1 true _ A62.out).mono ?_); rintro e w70 ⟨rfl, hb⟩; have n0_ := Aside0.mk (Kd.R_below (by (with_reducible repeat (first | apply Kd.R_alloc | apply Kd.R_drewN | apply Kd.R_drew)); exact HO272.out) hb); have n1_ := Aside0.mk (Kd.S_below (by (with_reducible repeat (first | apply Kd.S_alloc | apply Kd.S_drewN | apply Kd.S_drew)); exact HO276.out) hb); have n2_ := Aside0.mk (below_step (by repeat (first | (with_reducible first | exact HB.out | apply below_alloc | apply pw_below_drewN | apply below_drew1) | exact HB.out)) hb); clear HO272; clear HO276; clear HB; have HO272 := n0_; have HO276 := n1_; have HB := n2_; clear n0_ n1_ n2_; (try clear hb); (try clear hb2); (try clear hk); (try clear hi)))
                                          go_ret
                                          exact ⟨by first | rfl | (simp [errW_none, errW_some] <;> rfl) | (simp only [← hji4]; first | rfl | (simp [errW_none, errW_some] <;> rfl)) | (simp [*, errW_none, errW_some] <;> rfl), by repeat (first | (with_reducible first | exact HB.out | apply below_alloc | apply pw_below_drewN | apply below_drew1) | exact HB.out)⟩
                                        · replace c63 := Bool.eq_false_iff.mpr c63
                                          subst c63
                                          have H1 : ((staddalaw06_code.f kj26 a0).bind fun t278 => (staddalaw06_HeapValues.l0 kj26 a0 (wrap64 (Int.tmod (IntKind.u64.wrap (x1_1)) 120)) t278 (wrap64 (x9_1 + 1)))) = some r := by rw [if_neg (show ¬ (false = true) by decide)] at H; exact H
                                          clear H
                                          have H := H1
                                          clear H1
                                          replace H := Option.bind_eq_some_iff.mp H
                                          obtain ⟨t278, A710, H⟩ := H
                                          replace H : (staddalaw06_HeapValues.l0 kj26 a0 (wrap64 (Int.tmod (IntKind.u64.wrap (x1_1)) 120)) t278 (wrap64 (x9_1 + 1))) = some r := H
                                          have A71 := Aside0.mk A710
                                          clear A710
                                          have H' := Aside0.mk H
                                          clear H
                                          go_wp2_with (first | ((with_reducible refine gate_callee (f := 12) rfl ?_); refine goesL_ (some 91) rfl rfl Tryz.func12 (by kernel_rfl) rfl #[.string x8_1] rfl (by (try simp only [List.map_toArray, List.map_cons, List.map_nil]); first | done | rfl | (simp only [List.length_drop, List.length_take]; rfl)) ?_; (with_reducible refine (staddaref06_Check.calls kj26 x8_1 t264 _ A47.out).mono ?_); rintro e w' ⟨rfl, ⟨nd, rfl⟩⟩; refine ⟨_, rfl, ?_⟩) | ((with_reducible refine gate_callee (f := 16) rfl ?_); refine goesL_ (some 96) rfl rfl Tryz.func16 (by kernel_rfl) rfl #[.string x8_1, .int .i64 100] rfl (by (try simp only [List.map_toArray, List.map_cons, List.map_nil]); first | done | rfl | (simp only [List.length_drop, List.length_take]; rfl)) ?_; (with_reducible refine (heap_Period.calls kj26 x8_1 100 t266 t267 false t269 _ A51.out).mono ?_); rintro e w72 ⟨rfl, hb⟩; refine ⟨_, rfl, ?_⟩; have n0_ := Aside0.mk (below_step (by repeat (first | (with_reducible first | exact HB.out | apply below_alloc | apply pw_below_drewN | apply below_drew1) | exact HB.out)) hb); clear HB; have HB := n0_; clear n0_; (try clear hb); (try clear hb2); (try clear hk); (try clear hi)) | ((with_reducible refine gate_dst (N := 103) rfl ?_); (try (refine gate_guard (by rfl) ?_; dsimp only)); refine Kd.R_lit (Kd.int .i64) _ 3 ?hg (N := 103) ?hd (xs := ([1] : List Int)) (inner := [.int .i64 1]) (ok := fun _ => True) (okp := fun _ => True) ?hr ?hp (fun _ hk => hk) trivial (Below.refl _ _) (Nat.le_refl _) (by simp) ?_; (case hd => rfl); (case hg => rfl); (case hr => first | (go_simp; done) | (go_simp; rfl)); (case hp => exact (Reps.one (show Kd.M (Kd.int .i64) _ _ _ 1 [.int .i64 1] from rfl) (Reps.none _ _))); intro v271 w73 ho74 hb hg_ hnew_; clear hg_ hnew_; (first | rw [← Ny270.out] at ho74 | (simp only [Int.reduceToNat] at ho74; rw [← Ny270.out] at ho74)); have n0_ := Aside0.mk (Kd.R_lower ho74 (below_size (by repeat (first | (with_reducible first | exact HB.out | apply below_alloc | apply pw_below_drewN | apply below_drew1) | exact HB.out)))); have n1_ := Aside0.mk (below_step (by repeat (first | (with_reducible first | exact HB.out | apply below_alloc | apply pw_below_drewN | apply below_drew1) | exact HB.out)) hb); clear HB; have HO272 := n0_; have HB := n1_; clear n0_ n1_; clear hb ho74; obtain ⟨Ao75, co75, eo75⟩ := Kd.R_slice HO272.out; subst eo75) | ((with_reducible refine gate_callee (f := 6) rfl ?_); refine goesL_ (some 104) rfl rfl Tryz.func6 (by kernel_rfl) rfl #[.string x8_1, .slice Ao75 y270.length co75] rfl (by (try simp only [List.map_toArray, List.map_cons, List.map_nil]); first | done | rfl | (simp only [List.length_drop, List.length_take]; rfl)) ?_; (with_reducible refine (heap_Moves.calls x8_1 _ _ y270 t273 t274 _ ?side1 ?side2 A52.out).mono ?_); (case side1 => repeat (first | exact (Kd.R_reads' HO272.out).2.2 | (with_reducible refine Kd.C_alloc ?_ _) | (with_reducible refine Kd.C_drewN ?_ _) | (with_reducible refine Kd.C_drew ?_))); (case side2 => exact (Kd.R_reads' HO272.out).2.1); rintro e w76 ⟨v275, rfl, ho0, hb⟩; refine ⟨_, rfl, ?_⟩; have n0_ := Aside0.mk (Kd.R_below (by (with_reducible repeat (first | apply Kd.R_alloc | apply Kd.R_drewN | apply Kd.R_drew)); exact HO272.out) hb); have n1_ := Aside0.mk (Kd.S_lower (Kd.S_new' ho0 (Kd.R_lt (by (with_reducible repeat (first | apply Kd.R_alloc | apply Kd.R_drewN | apply Kd.R_drew)); exact HO272.out))) (below_size (by repeat (first | (with_reducible first | exact HB.out | apply below_alloc | apply pw_below_drewN | apply below_drew1) | exact HB.out)))); have n2_ := Aside0.mk (below_step (by repeat (first | (with_reducible first | exact HB.out | apply below_alloc | apply pw_below_drewN | apply below_drew1) | exact HB.out)) hb); clear HO272; clear HB; have HO272 := n0_; have HO276 := n1_; have HB := n2_; clear n0_ n1_ n2_; (try clear hb); (try clear hb2); (try clear hk); (try clear hi); (try clear ho0); obtain ⟨Ao77, co77, eo77⟩ := Kd.S_slice HO276.out; subst eo77) | (go_at_call 17; (with_reducible refine (heap_IsPeriod.calls kj26 x8_1 100 0 1 false _ A62.out).mono ?_); rintro e w78 ⟨rfl, hb⟩; have n0_ := Aside0.mk (Kd.R_below (by (with_reducible repeat (first | apply Kd.R_alloc | apply Kd.R_drewN | apply Kd.R_drew)); exact HO272.out) hb); have n1_ := Aside0.mk (Kd.S_below (by (with_reducible repeat (first | apply Kd.S_alloc | apply Kd.S_drewN | apply Kd.S_drew)); exact HO276.out) hb); have n2_ := Aside0.mk (below_step (by repeat (first | (with_reducible first | exact HB.out | apply below_alloc | apply pw_below_drewN | apply below_drew1) | exact HB.out)) hb); clear HO272; clear HO276; clear HB; have HO272 := n0_; have HO276 := n1_; have HB := n2_; clear n0_ n1_ n2_; (try clear hb); (try clear hb2); (try clear hk); (try clear hi)) | ((with_reducible refine gate_callee (f := 5) rfl ?_); refine goesL_ (some 128) rfl rfl Tryz.func5 (by kernel_rfl) rfl #[.string a0] rfl (by (try simp only [List.map_toArray, List.map_cons, List.map_nil]); first | done | rfl | (simp only [List.length_drop, List.length_take]; rfl)) ?_; (with_reducible refine (staddalaw06_code.calls kj26 a0 t278 _ A71.out).mono ?_); rintro e w79 ⟨rfl, hb⟩; refine ⟨_, rfl, ?_⟩; have n0_ := Aside0.mk (Kd.R_below (by (with_reducible repeat (first | apply Kd.R_alloc | apply Kd.R_drewN | apply Kd.R_drew)); exact HO272.out) hb); have n1_ := Aside0.mk (Kd.S_below (by (with_reducible repeat (first | apply Kd.S_alloc | apply Kd.S_drewN | apply Kd.S_drew)); exact HO276.out) hb); have n2_ := Aside0.mk (below_step (by repeat (first | (with_reducible first | exact HB.out | apply below_alloc | apply pw_below_drewN | apply below_drew1) | exact HB.out)) hb); clear HO272; clear HO276; clear HB; have HO272 := n0_; have HO276 := n1_; have HB := n2_; clear n0_ n1_ n2_; (try clear hb); (try clear hb2); (try clear hk); (try clear hi)))
                                          go_roundg kj26
                                          case measure => have := HK1.out; have := HJ19.out; have := HJ24.out; have := HJ26.out; omega
                                          case rel => exact ⟨(wrap64 (Int.tmod (IntKind.u64.wrap (x1_1)) 120)), (t278), (wrap64 (x9_1 + 1)), (by first | rfl | (simp; done) | (simp [*]; done)), (by first | rfl | (simp; done) | (simp [*]; done)), (by first | rfl | (simp; done) | (simp [*]; done)), H', ⟨by have := HK1.out; have := HJ19.out; have := HJ24.out; have := HJ26.out; omega⟩, ⟨by repeat (first | (with_reducible first | exact HB.out | apply below_alloc | apply pw_below_drewN | apply below_drew1) | exact HB.out)⟩⟩
                                      · rw [if_neg c61] at H
                                        have c61b0 : ((t273.length : Int) == 0) = false := beq_eq_false_iff_ne.mpr c61
                                        have c61b1 : ((t273.length : Int) != 0) = true := bne_iff_ne.mpr c61
                                        have c61b2 : ¬ (t273 = []) := fun h_ => c61 (by rw [h_]; rfl)
                                        obtain rfl := Option.some.inj H
                                        go_wp2_with (first | ((with_reducible refine gate_callee (f := 12) rfl ?_); refine goesL_ (some 91) rfl rfl Tryz.func12 (by kernel_rfl) rfl #[.string x8_1] rfl (by (try simp only [List.map_toArray, List.map_cons, List.map_nil]); first | done | rfl | (simp only [List.length_drop, List.length_take]; rfl)) ?_; (with_reducible refine (staddaref06_Check.calls kj26 x8_1 t264 _ A47.out).mono ?_); rintro e w' ⟨rfl, ⟨nd, rfl⟩⟩; refine ⟨_, rfl, ?_⟩) | ((with_reducible refine gate_callee (f := 16) rfl ?_); refine goesL_ (some 96) rfl rfl Tryz.func16 (by kernel_rfl) rfl #[.string x8_1, .int .i64 100] rfl (by (try simp only [List.map_toArray, List.map_cons, List.map_nil]); first | done | rfl | (simp only [List.length_drop, List.length_take]; rfl)) ?_; (with_reducible refine (heap_Period.calls kj26 x8_1 100 t266 t267 false t269 _ A51.out).mono ?_); rintro e w80 ⟨rfl, hb⟩; refine ⟨_, rfl, ?_⟩; have n0_ := Aside0.mk (below_step (by repeat (first | (with_reducible first | exact HB.out | apply below_alloc | apply pw_below_drewN | apply below_drew1) | exact HB.out)) hb); clear HB; have HB := n0_; clear n0_; (try clear hb); (try clear hb2); (try clear hk); (try clear hi)) | ((with_reducible refine gate_dst (N := 103) rfl ?_); (try (refine gate_guard (by rfl) ?_; dsimp only)); refine Kd.R_lit (Kd.int .i64) _ 3 ?hg (N := 103) ?hd (xs := ([1] : List Int)) (inner := [.int .i64 1]) (ok := fun _ => True) (okp := fun _ => True) ?hr ?hp (fun _ hk => hk) trivial (Below.refl _ _) (Nat.le_refl _) (by simp) ?_; (case hd => rfl); (case hg => rfl); (case hr => first | (go_simp; done) | (go_simp; rfl)); (case hp => exact (Reps.one (show Kd.M (Kd.int .i64) _ _ _ 1 [.int .i64 1] from rfl) (Reps.none _ _))); intro v271 w81 ho82 hb hg_ hnew_; clear hg_ hnew_; (first | rw [← Ny270.out] at ho82 | (simp only [Int.reduceToNat] at ho82; rw [← Ny270.out] at ho82)); have n0_ := Aside0.mk (Kd.R_lower ho82 (below_size (by repeat (first | (with_reducible first | exact HB.out | apply below_alloc | apply pw_below_drewN | apply below_drew1) | exact HB.out)))); have n1_ := Aside0.mk (below_step (by repeat (first | (with_reducible first | exact HB.out | apply below_alloc | apply pw_below_drewN | apply below_drew1) | exact HB.out)) hb); clear HB; have HO272 := n0_; have HB := n1_; clear n0_ n1_; clear hb ho82; obtain ⟨Ao83, co83, eo83⟩ := Kd.R_slice HO272.out; subst eo83) | ((with_reducible refine gate_callee (f := 6) rfl ?_); refine goesL_ (some 104) rfl rfl Tryz.func6 (by kernel_rfl) rfl #[.string x8_1, .slice Ao83 y270.length co83] rfl (by (try simp only [List.map_toArray, List.map_cons, List.map_nil]); first | done | rfl | (simp only [List.length_drop, List.length_take]; rfl)) ?_; (with_reducible refine (heap_Moves.calls x8_1 _ _ y270 t273 t274 _ ?side1 ?side2 A52.out).mono ?_); (case side1 => repeat (first | exact (Kd.R_reads' HO272.out).2.2 | (with_reducible refine Kd.C_alloc ?_ _) | (with_reducible refine Kd.C_drewN ?_ _) | (with_reducible refine Kd.C_drew ?_))); (case side2 => exact (Kd.R_reads' HO272.out).2.1); rintro e w84 ⟨v275, rfl, ho0, hb⟩; refine ⟨_, rfl, ?_⟩; have n0_ := Aside0.mk (Kd.R_below (by (with_reducible repeat (first | apply Kd.R_alloc | apply Kd.R_drewN | apply Kd.R_drew)); exact HO272.out) hb); have n1_ := Aside0.mk (Kd.S_lower (Kd.S_new' ho0 (Kd.R_lt (by (with_reducible repeat (first | apply Kd.R_alloc | apply Kd.R_drewN | apply Kd.R_drew)); exact HO272.out))) (below_size (by repeat (first | (with_reducible first | exact HB.out | apply below_alloc | apply pw_below_drewN | apply below_drew1) | exact HB.out)))); have n2_ := Aside0.mk (below_step (by repeat (first | (with_reducible first | exact HB.out | apply below_alloc | apply pw_below_drewN | apply below_drew1) | exact HB.out)) hb); clear HO272; clear HB; have HO272 := n0_; have HO276 := n1_; have HB := n2_; clear n0_ n1_ n2_; (try clear hb); (try clear hb2); (try clear hk); (try clear hi); (try clear ho0); obtain ⟨Ao85, co85, eo85⟩ := Kd.S_slice HO276.out; subst eo85))
                                        go_ret
                                        exact ⟨by first | rfl | (simp [errW_none, errW_some] <;> rfl) | (simp only [← hji4]; first | rfl | (simp [errW_none, errW_some] <;> rfl)) | (simp [*, errW_none, errW_some] <;> rfl), by repeat (first | (with_reducible first | exact HB.out | apply below_alloc | apply pw_below_drewN | apply below_drew1) | exact HB.out)⟩
                                  · rw [if_neg c54] at H
                                    have c54b0 : (t274 == t264) = false := beq_eq_false_iff_ne.mpr c54
                                    have c54b1 : (t274 != t264) = true := bne_iff_ne.mpr c54
                                    obtain rfl := Option.some.inj H
                                    go_wp2_with (first | ((with_reducible refine gate_callee (f := 12) rfl ?_); refine goesL_ (some 91) rfl rfl Tryz.func12 (by kernel_rfl) rfl #[.string x8_1] rfl (by (try simp only [List.map_toArray, List.map_cons, List.map_nil]); first | done | rfl | (simp only [List.length_drop, List.length_take]; rfl)) ?_; (with_reducible refine (staddaref06_Check.calls kj26 x8_1 t264 _ A47.out).mono ?_); rintro e w' ⟨rfl, ⟨nd, rfl⟩⟩; refine ⟨_, rfl, ?_⟩) | ((with_reducible refine gate_callee (f := 16) rfl ?_); refine goesL_ (some 96) rfl rfl Tryz.func16 (by kernel_rfl) rfl #[.string x8_1, .int .i64 100] rfl (by (try simp only [List.map_toArray, List.map_cons, List.map_nil]); first | done | rfl | (simp only [List.length_drop, List.length_take]; rfl)) ?_; (with_reducible refine (heap_Period.calls kj26 x8_1 100 t266 t267 t268 t269 _ A51.out).mono ?_); rintro e w86 ⟨rfl, hb⟩; refine ⟨_, rfl, ?_⟩; have n0_ := Aside0.mk (below_step (by repeat (first | (with_reducible first | exact HB.out | apply below_alloc | apply pw_below_drewN | apply below_drew1) | exact HB.out)) hb); clear HB; have HB := n0_; clear n0_; (try clear hb); (try clear hb2); (try clear hk); (try clear hi)) | ((with_reducible refine gate_dst (N := 103) rfl ?_); (try (refine gate_guard (by rfl) ?_; dsimp only)); refine Kd.R_lit (Kd.int .i64) _ 3 ?hg (N := 103) ?hd (xs := ([1] : List Int)) (inner := [.int .i64 1]) (ok := fun _ => True) (okp := fun _ => True) ?hr ?hp (fun _ hk => hk) trivial (Below.refl _ _) (Nat.le_refl _) (by simp) ?_; (case hd => rfl); (case hg => rfl); (case hr => first | (go_simp; done) | (go_simp; rfl)); (case hp => exact (Reps.one (show Kd.M (Kd.int .i64) _ _ _ 1 [.int .i64 1] from rfl) (Reps.none _ _))); intro v271 w87 ho88 hb hg_ hnew_; clear hg_ hnew_; (first | rw [← Ny270.out] at ho88 | (simp only [Int.reduceToNat] at ho88; rw [← Ny270.out] at ho88)); have n0_ := Aside0.mk (Kd.R_lower ho88 (below_size (by repeat (first | (with_reducible first | exact HB.out | apply below_alloc | apply pw_below_drewN | apply below_drew1) | exact HB.out)))); have n1_ := Aside0.mk (below_step (by repeat (first | (with_reducible first | exact HB.out | apply below_alloc | apply pw_below_drewN | apply below_drew1) | exact HB.out)) hb); clear HB; have HO272 := n0_; have HB := n1_; clear n0_ n1_; clear hb ho88; obtain ⟨Ao89, co89, eo89⟩ := Kd.R_slice HO272.out; subst eo89) | ((with_reducible refine gate_callee (f := 6) rfl ?_); refine goesL_ (some 104) rfl rfl Tryz.func6 (by kernel_rfl) rfl #[.string x8_1, .slice Ao89 y270.length co89] rfl (by (try simp only [List.map_toArray, List.map_cons, List.map_nil]); first | done | rfl | (simp only [List.length_drop, List.length_take]; rfl)) ?_; (with_reducible refine (heap_Moves.calls x8_1 _ _ y270 t273 t274 _ ?side1 ?side2 A52.out).mono ?_); (case side1 => repeat (first | exact (Kd.R_reads' HO272.out).2.2 | (with_reducible refine Kd.C_alloc ?_ _) | (with_reducible refine Kd.C_drewN ?_ _) | (with_reducible refine Kd.C_drew ?_))); (case side2 => exact (Kd.R_reads' HO272.out).2.1); rintro e w90 ⟨v275, rfl, ho0, hb⟩; refine ⟨_, rfl, ?_⟩; have n0_ := Aside0.mk (Kd.R_below (by (with_reducible repeat (first | apply Kd.R_alloc | apply Kd.R_drewN | apply Kd.R_drew)); exact HO272.out) hb); have n1_ := Aside0.mk (Kd.S_lower (Kd.S_new' ho0 (Kd.R_lt (by (with_reducible repeat (first | apply Kd.R_alloc | apply Kd.R_drewN | apply Kd.R_drew)); exact HO272.out))) (below_size (by repeat (first | (with_reducible first | exact HB.out | apply below_alloc | apply pw_below_drewN | apply below_drew1) | exact HB.out)))); have n2_ := Aside0.mk (below_step (by repeat (first | (with_reducible first | exact HB.out | apply below_alloc | apply pw_below_drewN | apply below_drew1) | exact HB.out)) hb); clear HO272; clear HB; have HO272 := n0_; have HO276 := n1_; have HB := n2_; clear n0_ n1_ n2_; (try clear hb); (try clear hb2); (try clear hk); (try clear hi); (try clear ho0)))
                                    go_ret
                                    exact ⟨by first | rfl | (simp [errW_none, errW_some] <;> rfl) | (simp only [← hji4]; first | rfl | (simp [errW_none, errW_some] <;> rfl)) | (simp [*, errW_none, errW_some] <;> rfl), by repeat (first | (with_reducible first | exact HB.out | apply below_alloc | apply pw_below_drewN | apply below_drew1) | exact HB.out)⟩
                                · rw [if_neg c53] at H
                                  have c53b0 : (t269 == t264) = false := beq_eq_false_iff_ne.mpr c53
                                  have c53b1 : (t269 != t264) = true := bne_iff_ne.mpr c53
                                  obtain rfl := Option.some.inj H
                                  go_wp2_with (first | ((with_reducible refine gate_callee (f := 12) rfl ?_); refine goesL_ (some 91) rfl rfl Tryz.func12 (by kernel_rfl) rfl #[.string x8_1] rfl (by (try simp only [List.map_toArray, List.map_cons, List.map_nil]); first | done | rfl | (simp only [List.length_drop, List.length_take]; rfl)) ?_; (with_reducible refine (staddaref06_Check.calls kj26 x8_1 t264 _ A47.out).mono ?_); rintro e w' ⟨rfl, ⟨nd, rfl⟩⟩; refine ⟨_, rfl, ?_⟩) | ((with_reducible refine gate_callee (f := 16) rfl ?_); refine goesL_ (some 96) rfl rfl Tryz.func16 (by kernel_rfl) rfl #[.string x8_1, .int .i64 100] rfl (by (try simp only [List.map_toArray, List.map_cons, List.map_nil]); first | done | rfl | (simp only [List.length_drop, List.length_take]; rfl)) ?_; (with_reducible refine (heap_Period.calls kj26 x8_1 100 t266 t267 t268 t269 _ A51.out).mono ?_); rintro e w91 ⟨rfl, hb⟩; refine ⟨_, rfl, ?_⟩; have n0_ := Aside0.mk (below_step (by repeat (first | (with_reducible first | exact HB.out | apply below_alloc | apply pw_below_drewN | apply below_drew1) | exact HB.out)) hb); clear HB; have HB := n0_; clear n0_; (try clear hb); (try clear hb2); (try clear hk); (try clear hi)) | ((with_reducible refine gate_dst (N := 103) rfl ?_); (try (refine gate_guard (by rfl) ?_; dsimp only)); refine Kd.R_lit (Kd.int .i64) _ 3 ?hg (N := 103) ?hd (xs := ([1] : List Int)) (inner := [.int .i64 1]) (ok := fun _ => True) (okp := fun _ => True) ?hr ?hp (fun _ hk => hk) trivial (Below.refl _ _) (Nat.le_refl _) (by simp) ?_; (case hd => rfl); (case hg => rfl); (case hr => first | (go_simp; done) | (go_simp; rfl)); (case hp => exact (Reps.one (show Kd.M (Kd.int .i64) _ _ _ 1 [.int .i64 1] from rfl) (Reps.none _ _))); intro v271 w92 ho93 hb hg_ hnew_; clear hg_ hnew_; (first | rw [← Ny270.out] at ho93 | (simp only [Int.reduceToNat] at ho93; rw [← Ny270.out] at ho93)); have n0_ := Aside0.mk (Kd.R_lower ho93 (below_size (by repeat (first | (with_reducible first | exact HB.out | apply below_alloc | apply pw_below_drewN | apply below_drew1) | exact HB.out)))); have n1_ := Aside0.mk (below_step (by repeat (first | (with_reducible first | exact HB.out | apply below_alloc | apply pw_below_drewN | apply below_drew1) | exact HB.out)) hb); clear HB; have HO272 := n0_; have HB := n1_; clear n0_ n1_; clear hb ho93; obtain ⟨Ao94, co94, eo94⟩ := Kd.R_slice HO272.out; subst eo94) | ((with_reducible refine gate_callee (f := 6) rfl ?_); refine goesL_ (some 104) rfl rfl Tryz.func6 (by kernel_rfl) rfl #[.string x8_1, .slice Ao94 y270.length co94] rfl (by (try simp only [List.map_toArray, List.map_cons, List.map_nil]); first | done | rfl | (simp only [List.length_drop, List.length_take]; rfl)) ?_; (with_reducible refine (heap_Moves.calls x8_1 _ _ y270 t273 t274 _ ?side1 ?side2 A52.out).mono ?_); (case side1 => repeat (first | exact (Kd.R_reads' HO272.out).2.2 | (with_reducible refine Kd.C_alloc ?_ _) | (with_reducible refine Kd.C_drewN ?_ _) | (with_reducible refine Kd.C_drew ?_))); (case side2 => exact (Kd.R_reads' HO272.out).2.1); rintro e w95 ⟨v275, rfl, ho0, hb⟩; refine ⟨_, rfl, ?_⟩; have n0_ := Aside0.mk (Kd.R_below (by (with_reducible repeat (first | apply Kd.R_alloc | apply Kd.R_drewN | apply Kd.R_drew)); exact HO272.out) hb); have n1_ := Aside0.mk (Kd.S_lower (Kd.S_new' ho0 (Kd.R_lt (by (with_reducible repeat (first | apply Kd.R_alloc | apply Kd.R_drewN | apply Kd.R_drew)); exact HO272.out))) (below_size (by repeat (first | (with_reducible first | exact HB.out | apply below_alloc | apply pw_below_drewN | apply below_drew1) | exact HB.out)))); have n2_ := Aside0.mk (below_step (by repeat (first | (with_reducible first | exact HB.out | apply below_alloc | apply pw_below_drewN | apply below_drew1) | exact HB.out)) hb); clear HO272; clear HB; have HO272 := n0_; have HO276 := n1_; have HB := n2_; clear n0_ n1_ n2_; (try clear hb); (try clear hb2); (try clear hk); (try clear hi); (try clear ho0)))
                                  go_ret
                                  exact ⟨by first | rfl | (simp [errW_none, errW_some] <;> rfl) | (simp only [← hji4]; first | rfl | (simp [errW_none, errW_some] <;> rfl)) | (simp [*, errW_none, errW_some] <;> rfl), by repeat (first | (with_reducible first | exact HB.out | apply below_alloc | apply pw_below_drewN | apply below_drew1) | exact HB.out)⟩
                · rw [if_neg c18] at H
                  have c18b0 : (t255 == t254) = false := beq_eq_false_iff_ne.mpr c18
                  have c18b1 : (t255 != t254) = true := bne_iff_ne.mpr c18
                  obtain rfl := Option.some.inj H
                  go_wp2_with (first | ((with_reducible refine gate_callee (f := 12) rfl ?_); refine goesL_ (some 38) rfl rfl Tryz.func12 (by kernel_rfl) rfl #[.string x8_1] rfl (by (try simp only [List.map_toArray, List.map_cons, List.map_nil]); first | done | rfl | (simp only [List.length_drop, List.length_take]; rfl)) ?_; (with_reducible refine (staddaref06_Check.calls k1 x8_1 t254 _ A16.out).mono ?_); rintro e w' ⟨rfl, ⟨nd, rfl⟩⟩; refine ⟨_, rfl, ?_⟩) | ((with_reducible refine gate_callee (f := 13) rfl ?_); refine goesL_ (some 40) rfl rfl Tryz.func13 (by kernel_rfl) rfl #[.string x8_1] rfl (by (try simp only [List.map_toArray, List.map_cons, List.map_nil]); first | done | rfl | (simp only [List.length_drop, List.length_take]; rfl)) ?_; (with_reducible refine (heap_Check.calls x8_1 t255 _ A17.out).mono ?_); rintro e w96 ⟨rfl, hb⟩; refine ⟨_, rfl, ?_⟩; have n0_ := Aside0.mk (below_step (by repeat (first | (with_reducible first | exact HB.out | apply below_alloc | apply pw_below_drewN | apply below_drew1) | exact HB.out)) hb); clear HB; have HB := n0_; clear n0_; (try clear hb); (try clear hb2); (try clear hk); (try clear hi)))
                  go_ret
                  exact ⟨by first | rfl | (simp [errW_none, errW_some] <;> rfl) | (simp only [← hji4]; first | rfl | (simp [errW_none, errW_some] <;> rfl)) | (simp [*, errW_none, errW_some] <;> rfl), by repeat (first | (with_reducible first | exact HB.out | apply below_alloc | apply pw_below_drewN | apply below_drew1) | exact HB.out)⟩
              · rw [if_neg c15] at H
                have c15b0 : decide (x9_1 < 2) = false := decide_eq_false c15
                clear c15
                replace H := Option.bind_eq_some_iff.mp H
                obtain ⟨t253, A970, H⟩ := H
                replace H : (some t253) = some r := H
                have A97 := Aside0.mk A970
                clear A970
                obtain rfl := Option.some.inj H
                go_wp2_with (first | ((with_reducible refine gate_callee (f := 9) rfl ?_); refine goesL_ (some 133) rfl rfl Tryz.func9 (by kernel_rfl) rfl #[] rfl (by (try simp only [List.map_toArray, List.map_cons, List.map_nil]); first | done | rfl | (simp only [List.length_drop, List.length_take]; rfl)) ?_; (with_reducible refine (staddalaw06_awake.calls k1  t253 _ A97.out).mono ?_); rintro e w98 ⟨rfl, hb⟩; refine ⟨_, rfl, ?_⟩; have n0_ := Aside0.mk (below_step (by repeat (first | (with_reducible first | exact HB.out | apply below_alloc | apply pw_below_drewN | apply below_drew1) | exact HB.out)) hb); clear HB; have HB := n0_; clear n0_; (try clear hb); (try clear hb2); (try clear hk); (try clear hi)))
                go_ret
                exact ⟨by first | rfl | (simp [errW_none, errW_some] <;> rfl) | (simp only [← hji4]; first | rfl | (simp [errW_none, errW_some] <;> rfl)) | (simp [*, errW_none, errW_some] <;> rfl), by repeat (first | (with_reducible first | exact HB.out | apply below_alloc | apply pw_below_drewN | apply below_drew1) | exact HB.out)⟩
        · rw [if_neg c10] at H
          have c10b0 : (t251 == t252) = false := beq_eq_false_iff_ne.mpr c10
          have c10b1 : (t251 != t252) = true := bne_iff_ne.mpr c10
          obtain rfl := Option.some.inj H
          obtain ⟨i099, hi099, _, hsz99, _⟩ := info_parts info3
          obtain ⟨hcut99, hA99, hC99⟩ := print_take_of (P := Tryz.prog) (Value.int .i64) 0 22 3 .i64 Tryz.underlying22 hi099 hsz99 A2 c2 l2 (ji4) (of_decide_eq_true (by first | (with_reducible assumption) | assumption)) (of_decide_eq_true (by first | (with_reducible assumption) | assumption)) HC2.out
          have HR247 := Aside0.mk (Kd.C_of_reads (h1 := fun _ => rfl) (hA99 _ (Kd.reads_of_C HR2.out)))
          have HC247 := Aside0.mk hC99
          clear hA99 hC99 hi099 hsz99
          go_enter Tryz.func4, Tryz.ntmps4
          go_wp2_with (first | ((with_reducible refine gate_builtin (b := .append) (xs := #[.tmp 20, .tmp 25]) rfl ?_); (try (refine gate_guard (by rfl) ?_; dsimp only)); at_builtin; refine Kd.R_append_rows (Kd.int .i64) (w0 := w) w.heap.size rfl (.tmp 20) (.tmp 25) 22 3 (.int .i64 0) 8 rfl Tryz.underlying22 info3 rfl (by decide) (by omega) (.slice none 0 0) ([] : List Int) (l2.take ((ji4) : Int).toNat) _ _ _ (fun _ => True) (fun _ => False) rfl rfl ?aO ?aR (fun _ _ h => h) (fun _ h => h.elim) ?aF ?aB ?aS ?aL ?_; (case aR => first | (have hq_ : (l2.take ((ji4) : Int).toNat).length = (ji4).toNat := (by rw [List.length_take]; have h_ : ((ji4) : Int) ≤ (l2.length : Int) := of_decide_eq_true (by first | (with_reducible assumption) | assumption); omega); have hz_ := HR247.out; rw [hq_] at hz_; exact hz_) | (rw [← show (l2.take ((ji4) : Int).toNat).length = (ji4).toNat from (by rw [List.length_take]; have h_ : ((ji4) : Int) ≤ (l2.length : Int) := of_decide_eq_true (by first | (with_reducible assumption) | assumption); omega)]; repeat (first | exact HR247.out | (with_reducible refine Kd.C_alloc ?_ _) | (with_reducible refine Kd.C_drewN ?_ _) | (with_reducible refine Kd.C_drew ?_))) | (repeat (first | exact HR247.out | (with_reducible refine Kd.C_alloc ?_ _) | (with_reducible refine Kd.C_drewN ?_ _) | (with_reducible refine Kd.C_drew ?_)))); (case aB => exact (by repeat (first | (with_reducible first | exact HB.out | apply below_alloc | apply pw_below_drewN | apply below_drew1) | exact HB.out))); (case aF => exact (fun _ _ => trivial)); (case aO => exact ((Kd.R_nil _ _ _ _ (fun _ => True)))); (case aS => exact (below_size (by repeat (first | (with_reducible first | exact HB.out | apply below_alloc | apply pw_below_drewN | apply below_drew1) | exact HB.out)))); (case aL => have := LMc7.out; have hlx_ := (show (l2.take ((ji4) : Int).toNat).length = (ji4).toNat from (by rw [List.length_take]; have h_ : ((ji4) : Int) ≤ (l2.length : Int) := of_decide_eq_true (by first | (with_reducible assumption) | assumption); omega)); omega); intro v249 w100 ho hb hg hat; rw [← Ny248.out] at ho; have n0_ := Aside0.mk (hb); have n1_ := Aside0.mk (ho); clear HB; have HB := n0_; have HO250 := n1_; clear n0_ n1_; clear ho hb hg hat; obtain ⟨Ao101, co101, eo101⟩ := Kd.R_slice HO250.out; subst eo101) | ((with_reducible refine gate_callee (f := 10) rfl ?_); refine goesL_ (some 28) rfl rfl Tryz.func10 (by kernel_rfl) rfl #[.slice Ao101 y248.length co101] rfl (by (try simp only [List.map_toArray, List.map_cons, List.map_nil]); first | done | rfl | (simp only [List.length_drop, List.length_take]; rfl)) ?_; (with_reducible refine (heap_Missing.calls k _ _ y248 t251 _ ?side1 ?side2 A8.out).mono ?_); (case side1 => repeat (first | exact (Kd.R_reads' HO250.out).2.2 | (with_reducible refine Kd.C_alloc ?_ _) | (with_reducible refine Kd.C_drewN ?_ _) | (with_reducible refine Kd.C_drew ?_))); (case side2 => exact (Kd.R_reads' HO250.out).2.1); rintro e w102 ⟨rfl, hb⟩; refine ⟨_, rfl, ?_⟩; have n0_ := Aside0.mk (Kd.R_below (by (with_reducible repeat (first | apply Kd.R_alloc | apply Kd.R_drewN | apply Kd.R_drew)); exact HO250.out) hb); have n1_ := Aside0.mk (below_step (by repeat (first | (with_reducible first | exact HB.out | apply below_alloc | apply pw_below_drewN | apply below_drew1) | exact HB.out)) hb); clear HO250; clear HB; have HO250 := n0_; have HB := n1_; clear n0_ n1_; (try clear hb); (try clear hb2); (try clear hk); (try clear hi)) | ((with_reducible refine gate_callee (f := 11) rfl ?_); refine goesL_ (some 30) rfl rfl Tryz.func11 (by kernel_rfl) rfl #[.slice Ao101 y248.length co101] rfl (by (try simp only [List.map_toArray, List.map_cons, List.map_nil]); first | done | rfl | (simp only [List.length_drop, List.length_take]; rfl)) ?_; (with_reducible refine (staddaref06_Missing.calls k _ _ y248 t252 _ ?side1 ?side2 A9.out).mono ?_); (case side1 => repeat (first | exact (Kd.R_reads' HO250.out).2.2 | (with_reducible refine Kd.C_alloc ?_ _) | (with_reducible refine Kd.C_drewN ?_ _) | (with_reducible refine Kd.C_drew ?_))); (case side2 => exact (Kd.R_reads' HO250.out).2.1); rintro e w' ⟨rfl, ⟨nd, rfl⟩⟩; refine ⟨_, rfl, ?_⟩))
          go_ret
          exact ⟨by first | rfl | (simp [errW_none, errW_some] <;> rfl) | (simp only [← hji4]; first | rfl | (simp [errW_none, errW_some] <;> rfl)) | (simp [*, errW_none, errW_some] <;> rfl), by repeat (first | (with_reducible first | exact HB.out | apply below_alloc | apply pw_below_drewN | apply below_drew1) | exact HB.out)⟩
      · rw [if_neg c7] at H
        exact absurd H (by simp)
    · rw [if_neg c6] at H
      exact absurd H (by simp)
  · rw [if_neg c5] at H
    exact absurd H (by simp)

/-- THE ONE PURE STATEMENT of staddalaw06_HeapValues: yours. -/
def staddalaw06_HeapValues.Pure : Prop := ∀ (a0 : ByteArray) (a1 : Int) (l2 : List Int), a0.size ≤ 140737488351232 → (Lit.int .i64 a1).wf = true → l2.length ≤ maxLen → l2.length * 8 ≤ 140737488351232 → (∀ x ∈ l2, (Lit.int .i64 x).wf = true) → ∃ k, staddalaw06_HeapValues.f k a0 a1 l2 = some true
theorem staddalaw06_HeapValues.walk (P : staddalaw06_HeapValues.Pure) (a0 : ByteArray) (a1 : Int) (a2 : Option Addr) (len2 cap2 : Nat) (z2 : List Int) (w : World) (w0 : a0.size ≤ 140737488351232) (w1 : (Lit.int .i64 a1).wf = true) (w2 : (a2 = none ∧ len2 = 0 ∧ cap2 = 0 ∧ z2 = []) ∨ ∃ x, a2 = some x ∧ len2 ≤ cap2 ∧ cap2 ≤ maxLen ∧ z2.length = cap2 ∧ (∀ i, i < z2.length → w.cell? (x.add i) = some (.int .i64 (z2.getD i 0))) ∧ ∀ n ∈ z2, (Lit.int .i64 n).wf = true) (y2 : len2 * 8 ≤ 140737488351232) :
    Calls Tryz.prog 4 #[.string a0, .int .i64 a1, .slice a2 len2 cap2] w fun e w' => e = .returned (.bool true) ∧ Below w.heap.size w w' := by
  obtain ⟨l2, rfl, hr2, hm2, hw2, hc2⟩ := ReadsInt.ofRowC w2
  obtain ⟨k, h⟩ := P a0 a1 l2 w0 w1 hm2 y2 hw2
  refine (staddalaw06_HeapValues.calls k a0 a1 _ _ l2 true w (Kd.C_of_reads (d := (0 : Int)) (h1 := fun _ => rfl) hr2) hc2 h).mono ?_
  rintro e w' ⟨rfl, hd⟩
  exact ⟨rfl, hd⟩

end Go.Proofs.YtpnhpbklbgbjbaaGreatDoor.PHeapValues
