-- printed by wip/pp.py (my patched run of the kit's printer)
import Derived.Test.YtkfbdhlfajdpgaaDoorPHeapWinsx0
import Derived.Test.YtkfbdhlfajdpgaaDoorPHeapWinsx2
import Derived.Test.YtkfbdhlfajdpgaaDoorPHeapWinsx5
namespace Go.Proofs.YtkfbdhlfajdpgaaDoor.PHeapWins
open Go.RowKit Go.Proofs.YtkfbdhlfajdpgaaDoorW.PrintWords Go.Proofs.YtkfbdhlfajdpgaaDoorW.PrintLast Go.Proofs.YtkfbdhlfajdpgaaDoorW.PrintMore
attribute [local go_sem] max2_int min2_int max_two min_two max_three min_three max_four min_four   -- for this text's walks alone
set_option linter.unusedVariables false
set_option linter.unusedSimpArgs false

/-! ### staddalaw06_HeapWins: function 3 -/
mutual
def staddalaw06_HeapWins.j0 : Nat → List Int → ByteArray → List Int → Bool → Option (Bool)
  | 0, _, _, _, _ => none
  | k + 1, x1, x5, x6, x30 => if x30 = true then (some false) else (staddalaw06_HeapWins.l0 k x1 x5 x6 0 ([] : List Int) 0)
def staddalaw06_HeapWins.j2 : Nat → ByteArray → List Int → Int → List Int → Option (Bool)
  | 0, _, _, _, _ => none
  | k + 1, x5, x6, x8, x9 => (heap_Moves.f x5 x9).bind fun bt201 => (if bt201.2 = 0 then (staddalaw06_HeapWins.j3 k x6 bt201.1 ((decide ((bt201.1.length : Int) > 0)) != (x8 != 0))) else (staddalaw06_HeapWins.j3 k x6 bt201.1 true))
def staddalaw06_HeapWins.j3 : Nat → List Int → List (List Int) → Bool → Option (Bool)
  | 0, _, _, _ => none
  | k + 1, x6, x12, x73 => if x73 = true then (some false) else (staddalaw06_HeapWins.l1 k x6 x12 0)
def staddalaw06_HeapWins.l1 : Nat → List Int → List (List Int) → Int → Option (Bool)
  | 0, _, _, _ => none
  | k + 1, x6, x12, x14 => if x14 < (x12.length : Int) then (staddalaw06_HeapWins.l2 k x6 x12 x14 0 0) else ((staddalaw06_awake.f k).bind fun t205 => (some t205))
def staddalaw06_HeapWins.l2 : Nat → List Int → List (List Int) → Int → Int → Int → Option (Bool)
  | 0, _, _, _, _, _ => none
  | k + 1, x6, x12, x14, x15, x16 => if 0 ≤ x14 then (if x14 < (x12.length : Int) then (if x16 < ((rd_L2 x12 x14).length : Int) then (if 0 ≤ x16 then (if (rd (rd_L2 x12 x14) x16) < 1 then (some false) else (if (rd (rd_L2 x12 x14) x16) > 30 then (some false) else (if 0 ≤ (rd (rd_L2 x12 x14) x16) then (if (rd (rd_L2 x12 x14) x16) < (x6.length : Int) then (staddalaw06_HeapWins.l2 k x6 x12 x14 (Go.bits .xor .i64 x15 (rd x6 (rd (rd_L2 x12 x14) x16))) (wrap64 (x16 + 1))) else (none)) else (none)))) else (none)) else (if x15 = 0 then (staddalaw06_HeapWins.l1 k x6 x12 (wrap64 (x14 + 1))) else (some false))) else (none)) else (none)
def staddalaw06_HeapWins.l0 : Nat → List Int → ByteArray → List Int → Int → List Int → Int → Option (Bool)
  | 0, _, _, _, _, _, _ => none
  | k + 1, x1, x5, x6, x8, x9, x10 => if x10 < (x1.length : Int) then (if x10 < 5 then (if 0 ≤ x10 then (if x9.length < 17592186044416 then (if 0 ≤ (wrap64 (Int.tmod (IntKind.u64.wrap (rd x1 x10)) 31)) then (if (wrap64 (Int.tmod (IntKind.u64.wrap (rd x1 x10)) 31)) < (x6.length : Int) then (staddalaw06_HeapWins.l0 k x1 x5 x6 (Go.bits .xor .i64 x8 (rd x6 (wrap64 (Int.tmod (IntKind.u64.wrap (rd x1 x10)) 31)))) (x9 ++ [wrap64 (Int.tmod (IntKind.u64.wrap (rd x1 x10)) 31)]) (wrap64 (x10 + 1))) else (none)) else (none)) else (none)) else (none)) else (staddalaw06_HeapWins.j2 k x5 x6 x8 x9)) else (staddalaw06_HeapWins.j2 k x5 x6 x8 x9)
end
def staddalaw06_HeapWins.f (k : Nat) (a0 : ByteArray) (l1 : List Int) : Option (Bool) := (staddalaw06_code.f k a0).bind fun t191 => ((heap_Values.f t191 30).bind fun bt192 => (if bt192.2 = 0 then (staddalaw06_HeapWins.j0 k l1 t191 bt192.1 ((bt192.1.length : Int) != 31)) else (staddalaw06_HeapWins.j0 k l1 t191 bt192.1 true)))
theorem staddalaw06_HeapWins.mono_l : ∀ k, (∀ y0 y1 y2 y3, LeO (staddalaw06_HeapWins.j0 k y0 y1 y2 y3) (staddalaw06_HeapWins.j0 (k + 1) y0 y1 y2 y3)) ∧ (∀ y0 y1 y2 y3, LeO (staddalaw06_HeapWins.j2 k y0 y1 y2 y3) (staddalaw06_HeapWins.j2 (k + 1) y0 y1 y2 y3)) ∧ (∀ y0 y1 y2, LeO (staddalaw06_HeapWins.j3 k y0 y1 y2) (staddalaw06_HeapWins.j3 (k + 1) y0 y1 y2)) ∧ (∀ y0 y1 y2, LeO (staddalaw06_HeapWins.l1 k y0 y1 y2) (staddalaw06_HeapWins.l1 (k + 1) y0 y1 y2)) ∧ (∀ y0 y1 y2 y3 y4, LeO (staddalaw06_HeapWins.l2 k y0 y1 y2 y3 y4) (staddalaw06_HeapWins.l2 (k + 1) y0 y1 y2 y3 y4)) ∧ (∀ y0 y1 y2 y3 y4 y5, LeO (staddalaw06_HeapWins.l0 k y0 y1 y2 y3 y4 y5) (staddalaw06_HeapWins.l0 (k + 1) y0 y1 y2 y3 y4 y5))
  | 0 => ⟨fun _ _ _ _ r h => by simp [staddalaw06_HeapWins.j0] at h, fun _ _ _ _ r h => by simp [staddalaw06_HeapWins.j2] at h, fun _ _ _ r h => by simp [staddalaw06_HeapWins.j3] at h, fun _ _ _ r h => by simp [staddalaw06_HeapWins.l1] at h, fun _ _ _ _ _ r h => by simp [staddalaw06_HeapWins.l2] at h, fun _ _ _ _ _ _ r h => by simp [staddalaw06_HeapWins.l0] at h⟩
  | k + 1 => by
    obtain ⟨ih0, ih1, ih2, ih3, ih4, ih5⟩ := staddalaw06_HeapWins.mono_l k
    refine ⟨?_, ?_, ?_, ?_, ?_, ?_⟩
    · intro y0 y1 y2 y3
      unfold staddalaw06_HeapWins.j0
      repeat' first
      | (with_reducible exact ih0 _ _ _ _)
      | (with_reducible exact ih1 _ _ _ _)
      | (with_reducible exact ih2 _ _ _)
      | (with_reducible exact ih3 _ _ _)
      | (with_reducible exact ih4 _ _ _ _ _)
      | (with_reducible exact ih5 _ _ _ _ _ _)
      | (with_reducible exact staddalaw06_awake.mono _)
      | (with_reducible exact staddalaw06_code.mono _ _)
      | (with_reducible exact LeO.refl _)
      | (with_reducible exact LeO.none _)
      | (with_reducible refine LeO.ite ?_ ?_)
      | (with_reducible refine LeO.bind ?_ (fun _ => ?_))
      | exact ih0 _ _ _ _
      | exact ih1 _ _ _ _
      | exact ih2 _ _ _
      | exact ih3 _ _ _
      | exact ih4 _ _ _ _ _
      | exact ih5 _ _ _ _ _ _
      | exact staddalaw06_awake.mono _
      | exact staddalaw06_code.mono _ _
      | exact LeO.none _
      | refine LeO.ite ?_ ?_
      | refine LeO.bind ?_ (fun _ => ?_)
    · intro y0 y1 y2 y3
      unfold staddalaw06_HeapWins.j2
      repeat' first
      | (with_reducible exact ih0 _ _ _ _)
      | (with_reducible exact ih1 _ _ _ _)
      | (with_reducible exact ih2 _ _ _)
      | (with_reducible exact ih3 _ _ _)
      | (with_reducible exact ih4 _ _ _ _ _)
      | (with_reducible exact ih5 _ _ _ _ _ _)
      | (with_reducible exact staddalaw06_awake.mono _)
      | (with_reducible exact staddalaw06_code.mono _ _)
      | (with_reducible exact LeO.refl _)
      | (with_reducible exact LeO.none _)
      | (with_reducible refine LeO.ite ?_ ?_)
      | (with_reducible refine LeO.bind ?_ (fun _ => ?_))
      | exact ih0 _ _ _ _
      | exact ih1 _ _ _ _
      | exact ih2 _ _ _
      | exact ih3 _ _ _
      | exact ih4 _ _ _ _ _
      | exact ih5 _ _ _ _ _ _
      | exact staddalaw06_awake.mono _
      | exact staddalaw06_code.mono _ _
      | exact LeO.none _
      | refine LeO.ite ?_ ?_
      | refine LeO.bind ?_ (fun _ => ?_)
    · intro y0 y1 y2
      unfold staddalaw06_HeapWins.j3
      repeat' first
      | (with_reducible exact ih0 _ _ _ _)
      | (with_reducible exact ih1 _ _ _ _)
      | (with_reducible exact ih2 _ _ _)
      | (with_reducible exact ih3 _ _ _)
      | (with_reducible exact ih4 _ _ _ _ _)
      | (with_reducible exact ih5 _ _ _ _ _ _)
      | (with_reducible exact staddalaw06_awake.mono _)
      | (with_reducible exact staddalaw06_code.mono _ _)
      | (with_reducible exact LeO.refl _)
      | (with_reducible exact LeO.none _)
      | (with_reducible refine LeO.ite ?_ ?_)
      | (with_reducible refine LeO.bind ?_ (fun _ => ?_))
      | exact ih0 _ _ _ _
      | exact ih1 _ _ _ _
      | exact ih2 _ _ _
      | exact ih3 _ _ _
      | exact ih4 _ _ _ _ _
      | exact ih5 _ _ _ _ _ _
      | exact staddalaw06_awake.mono _
      | exact staddalaw06_code.mono _ _
      | exact LeO.none _
      | refine LeO.ite ?_ ?_
      | refine LeO.bind ?_ (fun _ => ?_)
    · intro y0 y1 y2
      unfold staddalaw06_HeapWins.l1
      repeat' first
      | (with_reducible exact ih0 _ _ _ _)
      | (with_reducible exact ih1 _ _ _ _)
      | (with_reducible exact ih2 _ _ _)
      | (with_reducible exact ih3 _ _ _)
      | (with_reducible exact ih4 _ _ _ _ _)
      | (with_reducible exact ih5 _ _ _ _ _ _)
      | (with_reducible exact staddalaw06_awake.mono _)
      | (with_reducible exact staddalaw06_code.mono _ _)
      | (with_reducible exact LeO.refl _)
      | (with_reducible exact LeO.none _)
      | (with_reducible refine LeO.ite ?_ ?_)
      | (with_reducible refine LeO.bind ?_ (fun _ => ?_))
      | exact ih0 _ _ _ _
      | exact ih1 _ _ _ _
      | exact ih2 _ _ _
      | exact ih3 _ _ _
      | exact ih4 _ _ _ _ _
      | exact ih5 _ _ _ _ _ _
      | exact staddalaw06_awake.mono _
      | exact staddalaw06_code.mono _ _
      | exact LeO.none _
      | refine LeO.ite ?_ ?_
      | refine LeO.bind ?_ (fun _ => ?_)
    · intro y0 y1 y2 y3 y4
      unfold staddalaw06_HeapWins.l2
      repeat' first
      | (with_reducible exact ih0 _ _ _ _)
      | (with_reducible exact ih1 _ _ _ _)
      | (with_reducible exact ih2 _ _ _)
      | (with_reducible exact ih3 _ _ _)
      | (with_reducible exact ih4 _ _ _ _ _)
      | (with_reducible exact ih5 _ _ _ _ _ _)
      | (with_reducible exact staddalaw06_awake.mono _)
      | (with_reducible exact staddalaw06_code.mono _ _)
      | (with_reducible exact LeO.refl _)
      | (with_reducible exact LeO.none _)
      | (with_reducible refine LeO.ite ?_ ?_)
      | (with_reducible refine LeO.bind ?_ (fun _ => ?_))
      | exact ih0 _ _ _ _
      | exact ih1 _ _ _ _
      | exact ih2 _ _ _
      | exact ih3 _ _ _
      | exact ih4 _ _ _ _ _
      | exact ih5 _ _ _ _ _ _
      | exact staddalaw06_awake.mono _
      | exact staddalaw06_code.mono _ _
      | exact LeO.none _
      | refine LeO.ite ?_ ?_
      | refine LeO.bind ?_ (fun _ => ?_)
    · intro y0 y1 y2 y3 y4 y5
      unfold staddalaw06_HeapWins.l0
      repeat' first
      | (with_reducible exact ih0 _ _ _ _)
      | (with_reducible exact ih1 _ _ _ _)
      | (with_reducible exact ih2 _ _ _)
      | (with_reducible exact ih3 _ _ _)
      | (with_reducible exact ih4 _ _ _ _ _)
      | (with_reducible exact ih5 _ _ _ _ _ _)
      | (with_reducible exact staddalaw06_awake.mono _)
      | (with_reducible exact staddalaw06_code.mono _ _)
      | (with_reducible exact LeO.refl _)
      | (with_reducible exact LeO.none _)
      | (with_reducible refine LeO.ite ?_ ?_)
      | (with_reducible refine LeO.bind ?_ (fun _ => ?_))
      | exact ih0 _ _ _ _
      | exact ih1 _ _ _ _
      | exact ih2 _ _ _
      | exact ih3 _ _ _
      | exact ih4 _ _ _ _ _
      | exact ih5 _ _ _ _ _ _
      | exact staddalaw06_awake.mono _
      | exact staddalaw06_code.mono _ _
      | exact LeO.none _
      | refine LeO.ite ?_ ?_
      | refine LeO.bind ?_ (fun _ => ?_)
theorem staddalaw06_HeapWins.mono : ∀ a0 a1 k, LeO (staddalaw06_HeapWins.f k a0 a1) (staddalaw06_HeapWins.f (k + 1) a0 a1) := by
  intro a0 a1 k
  obtain ⟨ih0, ih1, ih2, ih3, ih4, ih5⟩ := staddalaw06_HeapWins.mono_l k
  unfold staddalaw06_HeapWins.f
  repeat' first
      | (with_reducible exact ih0 _ _ _ _)
      | (with_reducible exact ih1 _ _ _ _)
      | (with_reducible exact ih2 _ _ _)
      | (with_reducible exact ih3 _ _ _)
      | (with_reducible exact ih4 _ _ _ _ _)
      | (with_reducible exact ih5 _ _ _ _ _ _)
      | (with_reducible exact staddalaw06_awake.mono _)
      | (with_reducible exact staddalaw06_code.mono _ _)
      | (with_reducible exact LeO.refl _)
      | (with_reducible exact LeO.none _)
      | (with_reducible refine LeO.ite ?_ ?_)
      | (with_reducible refine LeO.bind ?_ (fun _ => ?_))
      | exact ih0 _ _ _ _
      | exact ih1 _ _ _ _
      | exact ih2 _ _ _
      | exact ih3 _ _ _
      | exact ih4 _ _ _ _ _
      | exact ih5 _ _ _ _ _ _
      | exact staddalaw06_awake.mono _
      | exact staddalaw06_code.mono _ _
      | exact LeO.none _
      | refine LeO.ite ?_ ?_
      | refine LeO.bind ?_ (fun _ => ?_)
set_option maxHeartbeats 8000000 in
set_option maxRecDepth 100000 in
theorem staddalaw06_HeapWins.calls (k : Nat) (a0 : ByteArray) (A1 : Option Addr) (c1 : Nat) (l1 : List Int) (r : Bool) (w : World) (hr1 : Kd.C (Kd.int .i64) w A1 l1.length l1) (hc1 : l1.length ≤ c1) (h : staddalaw06_HeapWins.f k a0 l1 = some r) :
    Calls Tryd.prog 3 #[.string a0, .slice A1 l1.length c1] w fun e w' => e = .returned (.bool r) ∧ Below w.heap.size w w' := by
  have HR1 := Aside0.mk hr1
  have HC1 := Aside0.mk hc1
  clear hr1 hc1
  have HB := Aside0.mk (Below.refl w.heap.size w)
  have H : ((staddalaw06_code.f k a0).bind fun t191 => ((heap_Values.f t191 30).bind fun bt192 => (if bt192.2 = 0 then (staddalaw06_HeapWins.j0 k l1 t191 bt192.1 ((bt192.1.length : Int) != 31)) else (staddalaw06_HeapWins.j0 k l1 t191 bt192.1 true)))) = some r := h
  clear h
  replace H := Option.bind_eq_some_iff.mp H
  obtain ⟨t191, A30, H⟩ := H
  replace H : ((heap_Values.f t191 30).bind fun bt192 => (if bt192.2 = 0 then (staddalaw06_HeapWins.j0 k l1 t191 bt192.1 ((bt192.1.length : Int) != 31)) else (staddalaw06_HeapWins.j0 k l1 t191 bt192.1 true))) = some r := H
  have A3 := Aside0.mk A30
  clear A30
  replace H := Option.bind_eq_some_iff.mp H
  obtain ⟨⟨t192, t193⟩, A40, H⟩ := H
  replace H : (if t193 = 0 then (staddalaw06_HeapWins.j0 k l1 t191 t192 ((t192.length : Int) != 31)) else (staddalaw06_HeapWins.j0 k l1 t191 t192 true)) = some r := H
  have A4 := Aside0.mk A40
  clear A40
  have HC5 := Aside0.mk H
  clear H
  go_enter Tryd.func3, Tryd.ntmps3
  go_upto_region 3 with (first | ((with_reducible refine gate_callee (f := 4) rfl ?_); refine goesL_ (some 18) rfl rfl Tryd.func4 (by kernel_rfl) rfl #[.string a0] rfl (by (try simp only [List.map_toArray, List.map_cons, List.map_nil]); first | done | rfl | (simp only [List.length_drop, List.length_take]; rfl)) ?_; (with_reducible refine (staddalaw06_code.calls k a0 t191 _ A3.out).mono ?_); rintro e w6 ⟨rfl, hb⟩; refine ⟨_, rfl, ?_⟩; have n0_ := Aside0.mk (below_step (by repeat (first | (with_reducible first | exact HB.out | apply below_alloc | apply pw_below_drewN | apply below_drew1) | exact HB.out)) hb); clear HB; have HB := n0_; clear n0_; (try clear hb); (try clear hb2); (try clear hk); (try clear hi)) | ((with_reducible refine gate_callee (f := 5) rfl ?_); refine goesL_ (some 21) rfl rfl Tryd.func5 (by kernel_rfl) rfl #[.string t191, .int .i64 30] rfl (by (try simp only [List.map_toArray, List.map_cons, List.map_nil]); first | done | rfl | (simp only [List.length_drop, List.length_take]; rfl)) ?_; (with_reducible refine (heap_Values.calls t191 30 t192 t193 _ A4.out).mono ?_); rintro e w7 ⟨v194, rfl, ho0, hb⟩; refine ⟨_, rfl, ?_⟩; have n0_ := Aside0.mk (Kd.R_lower ho0 (below_size (by repeat (first | (with_reducible first | exact HB.out | apply below_alloc | apply pw_below_drewN | apply below_drew1) | exact HB.out)))); have n1_ := Aside0.mk (below_step (by repeat (first | (with_reducible first | exact HB.out | apply below_alloc | apply pw_below_drewN | apply below_drew1) | exact HB.out)) hb); clear HB; have HO195 := n0_; have HB := n1_; clear n0_ n1_; (try clear hb); (try clear hb2); (try clear hk); (try clear hi); (try clear ho0)))
  (try simp only [Act.put, List.setIfInBounds_toArray, List.set_cons_zero, List.set_cons_succ])
  go_cut [30] (fun v30 wc => ∃ (kq : Nat) (x30_4 : Bool), v30 = .bool x30_4 ∧ Aside0 (staddalaw06_HeapWins.j0 kq l1 t191 t192 x30_4 = some r) ∧ Aside0 (kq ≤ k) ∧ Aside0 (Kd.R (Kd.int .i64) 3 wc w.heap.size (fun _ => True) v194 t192) ∧ Aside0 (Below w.heap.size w wc))
  case first =>
    have H := HC5.out
    clear HC5
    by_cases c8 : t193 = 0
    · rw [if_pos c8] at H
      have c8b0 : (t193 == 0) = true := beq_iff_eq.mpr c8
      have c8b1 : (t193 != 0) = false := bne_eq_false_iff_eq.mpr c8
      clear c8
      (first | rw [c8b0] | (simp only [i64_w, i32_w]; rw [c8b0]) | skip)
      have H' := Aside0.mk H
      clear H
      obtain ⟨Ao9, co9, eo9⟩ := Kd.R_slice HO195.out
      subst eo9
      go_wp2
      go_meet
      case rel => exact ⟨_, (((t192.length : Int) != 31)), (by first | rfl | (simp; done) | (simp [*]; done)), H', ⟨by first | omega | exact Nat.le_refl _⟩, ⟨by (with_reducible repeat (first | apply Kd.R_alloc | apply Kd.R_drewN | apply Kd.R_drew)); exact HO195.out⟩, ⟨by repeat (first | (with_reducible first | exact HB.out | apply below_alloc | apply pw_below_drewN | apply below_drew1) | exact HB.out)⟩⟩
    · rw [if_neg c8] at H
      have c8b0 : (t193 == 0) = false := beq_eq_false_iff_ne.mpr c8
      have c8b1 : (t193 != 0) = true := bne_iff_ne.mpr c8
      (first | rw [c8b0] | (simp only [i64_w, i32_w]; rw [c8b0]) | skip)
      have H' := Aside0.mk H
      clear H
      go_wp2
      go_meet
      case rel => exact ⟨_, (true), (by first | rfl | (simp; done) | (simp [*]; done)), H', ⟨by first | omega | exact Nat.le_refl _⟩, ⟨by (with_reducible repeat (first | apply Kd.R_alloc | apply Kd.R_drewN | apply Kd.R_drew)); exact HO195.out⟩, ⟨by repeat (first | (with_reducible first | exact HB.out | apply below_alloc | apply pw_below_drewN | apply below_drew1) | exact HB.out)⟩⟩
  case rest =>
    clear HC5
    try clear c1
    try clear p2
    try clear c3
    try clear c4
    try clear c5
    try clear c8
    try clear c8b0
    try clear c8b1
    obtain ⟨kq, x30_4, rfl, HA, HJ4, HO_6, HB⟩ := hcut
    cases kq with
    | zero => exact absurd HA.out (by simp [staddalaw06_HeapWins.j0])
    | succ kj4 =>
      have H := HA.out
      clear HA
      simp only [staddalaw06_HeapWins.j0] at H
      by_cases c10 : x30_4 = true
      · subst c10
        have H1 : (some false) = some r := by rw [if_pos rfl] at H; exact H
        clear H
        have H := H1
        clear H1
        obtain rfl := Option.some.inj H
        go_wp2
        go_ret
        exact ⟨by first | rfl | (simp [errW_none, errW_some] <;> rfl) | (simp [*, errW_none, errW_some] <;> rfl), by repeat (first | (with_reducible first | exact HB.out | apply below_alloc | apply pw_below_drewN | apply below_drew1) | exact HB.out)⟩
      · replace c10 := Bool.eq_false_iff.mpr c10
        subst c10
        have H1 : (staddalaw06_HeapWins.l0 kj4 l1 t191 t192 0 ([] : List Int) 0) = some r := by rw [if_neg (show ¬ (false = true) by decide)] at H; exact H
        clear H
        have H := H1
        clear H1
        have HC11 := Aside0.mk H
        clear H
        go_upto_block 0 with (fail)
        go_cut [8, 9] (fun v8 v9 wc => ∃ (kq : Nat) (x8_10 : Int) (x9_10 : List Int), v8 = .int .i64 x8_10 ∧ Aside0 (staddalaw06_HeapWins.j2 kq t191 t192 x8_10 x9_10 = some r) ∧ Aside0 (kq ≤ kj4) ∧ Aside0 (Kd.R (Kd.int .i64) 3 wc w.heap.size (fun k_ => some k_ ≠ (v9 : Value).ownBlock) v194 t192) ∧ Aside0 (Kd.R (Kd.int .i64) 3 wc w.heap.size (fun k_ => some k_ ≠ (v194 : Value).ownBlock) v9 x9_10) ∧ Aside0 (Below w.heap.size w wc))
        case first =>
          have H := HC11.out
          clear HC11
          have H' := Aside0.mk H
          clear H
          go_wp2
          go_loopg [8, 9, 10] kj4 (fun kq v8 v9 v10 w' => ∃ (x8_2 : Int) (x9_2 : List Int) (x10_2 : Int), v8 = .int .i64 x8_2 ∧ v10 = .int .i64 x10_2 ∧ Aside0 (staddalaw06_HeapWins.l0 kq l1 t191 t192 x8_2 x9_2 x10_2 = some r) ∧ Aside0 (kq ≤ kj4) ∧ Aside0 (Kd.R (Kd.int .i64) 3 w' w.heap.size (fun k_ => some k_ ≠ (v9 : Value).ownBlock) v194 t192) ∧ Aside0 (Kd.R (Kd.int .i64) 3 w' w.heap.size (fun k_ => some k_ ≠ (v194 : Value).ownBlock) v9 x9_2) ∧ Aside0 (Below w.heap.size w w'))
          case atStart => exact ⟨(0), (([] : List Int)), (0), (by first | rfl | (simp; done) | (simp [*]; done)), (by first | rfl | (simp; done) | (simp [*]; done)), H', ⟨Nat.le_refl _⟩, ⟨by (with_reducible repeat (first | apply Kd.R_alloc | apply Kd.R_drewN | apply Kd.R_drew)); exact Kd.R_mono HO_6.out (fun _ hk => (by simp [Value.ownBlock]))⟩, ⟨by first | exact Kd.R_nil _ _ _ _ _ | exact Kd.N_nil _ _ _ _ _ | exact Kd.V_nil _ _ _ _ _ | exact Kd.Q_nil _ _ _ _ _ | exact Kd.S_nil _ _ _ _ _⟩, ⟨by repeat (first | (with_reducible first | exact HB.out | apply below_alloc | apply pw_below_drewN | apply below_drew1) | exact HB.out)⟩⟩
          case round =>
            clear H'
            try clear c1
            try clear p2
            try clear c3
            try clear c4
            try clear c5
            try clear c8
            try clear c8b0
            try clear c8b1
            try clear c10
            try clear p2
            obtain ⟨x8_2, x9_2, x10_2, rfl, rfl, HA, HK2, HO_6, HO_9, HB⟩ := hrel
            cases gk with
            | zero => exact absurd HA.out (by simp [staddalaw06_HeapWins.l0])
            | succ k2 =>
              have H := HA.out
              clear HA
              simp only [staddalaw06_HeapWins.l0] at H
              by_cases c12 : x10_2 < (l1.length : Int)
              · rw [if_pos c12] at H
                have c12b0 : decide (x10_2 < (l1.length : Int)) = true := decide_eq_true c12
                clear c12
                (first | rw [c12b0] | (simp only [i64_w, i32_w]; rw [c12b0]) | skip)
                by_cases c13 : x10_2 < 5
                · rw [if_pos c13] at H
                  have c13b0 : decide (x10_2 < 5) = true := decide_eq_true c13
                  clear c13
                  by_cases c14 : 0 ≤ x10_2
                  · rw [if_pos c14] at H
                    have c14b0 : decide (0 ≤ x10_2) = true := decide_eq_true c14
                    clear c14
                    by_cases c15 : x9_2.length < 17592186044416
                    · rw [if_pos c15] at H
                      have LMc15 := Aside0.mk c15
                      clear c15
                      obtain ⟨y197, hy197⟩ : ∃ y_ : List Int, y_ = (x9_2 ++ [wrap64 (Int.tmod (IntKind.u64.wrap (rd l1 x10_2)) 31)]) := ⟨_, rfl⟩
                      replace H : (if 0 ≤ (wrap64 (Int.tmod (IntKind.u64.wrap (rd l1 x10_2)) 31)) then (if (wrap64 (Int.tmod (IntKind.u64.wrap (rd l1 x10_2)) 31)) < (t192.length : Int) then (staddalaw06_HeapWins.l0 k2 l1 t191 t192 (Go.bits .xor .i64 x8_2 (rd t192 (wrap64 (Int.tmod (IntKind.u64.wrap (rd l1 x10_2)) 31)))) y197 (wrap64 (x10_2 + 1))) else (none)) else (none)) = some r := by first | (rw [hy197]; with_reducible exact H) | (have H2_ := (Option.bind_some _ _).symm.trans H; rw [hy197]; with_reducible exact H2_) | (have H2_ := (Option.bind_some _ _).symm.trans H; with_reducible exact H2_) | with_reducible exact H | (rw [hy197]; exact H) | exact H
                      have Ny197 := Aside0.mk hy197
                      clear hy197
                      obtain ⟨ji16, hji16⟩ : ∃ j_ : Int, (wrap64 (Int.tmod (IntKind.u64.wrap (rd l1 x10_2)) 31)) = j_ := ⟨_, rfl⟩
                      replace H : (if 0 ≤ (ji16) then (if (ji16) < (t192.length : Int) then (staddalaw06_HeapWins.l0 k2 l1 t191 t192 (Go.bits .xor .i64 x8_2 (rd t192 (ji16))) y197 (wrap64 (x10_2 + 1))) else (none)) else (none)) = some r := by first | (rw [hji16] at H; exact H) | (simp only [hji16] at H ⊢; exact H)
                      (try rw [hji16] at Ny197)
                      have hji16w : (IntKind.i64.wrap (Int.tmod (IntKind.u64.wrap (rd l1 x10_2)) 31)) = ji16 := (i64_w _).trans hji16
                      by_cases c17 : 0 ≤ (ji16)
                      · rw [if_pos c17] at H
                        have c17b0 : decide (0 ≤ (ji16)) = true := decide_eq_true c17
                        clear c17
                        by_cases c18 : (ji16) < (t192.length : Int)
                        · rw [if_pos c18] at H
                          have c18b0 : decide ((ji16) < (t192.length : Int)) = true := decide_eq_true c18
                          clear c18
                          have H' := Aside0.mk H
                          clear H
                          have p196 : 0 ≤ (x10_2 : Int) := of_decide_eq_true (by first | (with_reducible assumption) | assumption)
                          have q196 : x10_2 < (l1.length : Int) := of_decide_eq_true (by first | (with_reducible assumption) | assumption)
                          obtain ⟨ad196, e196, hx196_0⟩ := Kd.at_int HR1.out x10_2 p196 q196
                          cases e196
                          replace hx196_0 := (HB.out.cell (World.block_lt_of_cell? w _ hx196_0)).trans hx196_0
                          replace p196 := eq_true p196
                          replace q196 := eq_true q196
                          go_wp2_with (first | ((with_reducible refine gate_builtin (b := .append) (xs := #[.tmp 48, .tmp 50]) rfl ?_); (try (refine gate_guard (by rfl) ?_; dsimp only)); at_builtin; refine Kd.R_append (Kd.int .i64) (w0 := w) w.heap.size rfl (.tmp 48) (.tmp 50) 22 3 (.int .i64 0) 8 rfl Tryd.underlying22 info3 rfl (by decide) (by omega) u9 x9_2 ji16 [.int .i64 ji16] (fun k_ => some k_ ≠ (v194 : Value).ownBlock) (fun _ => False) rfl rfl ?aP (fun _ hk => hk.elim) ?aF ?aO ?aB ?aS ?aL ?_; (case aP => exact rfl); (case aB => exact (by repeat (first | (with_reducible first | exact HB.out | apply below_alloc | apply pw_below_drewN | apply below_drew1) | exact HB.out))); (case aF => exact (fun k_ hk => Kd.fresh' (Kd.R_lt (by (with_reducible repeat (first | apply Kd.R_alloc | apply Kd.R_drewN | apply Kd.R_drew)); exact HO_6.out)) k_ hk)); (case aO => exact (by (with_reducible repeat (first | apply Kd.R_alloc | apply Kd.R_drewN | apply Kd.R_drew)); exact HO_9.out)); (case aS => exact (below_size (by repeat (first | (with_reducible first | exact HB.out | apply below_alloc | apply pw_below_drewN | apply below_drew1) | exact HB.out)))); (case aL => have := LMc15.out; omega); intro v198 w19 ho hb hg hat; rw [← Ny197.out] at ho; have n0_ := Aside0.mk (Kd.R_after (ok := (fun _ => True)) (by (with_reducible repeat (first | apply Kd.R_alloc | apply Kd.R_drewN | apply Kd.R_drew)); exact Kd.R_mono HO_6.out (fun _ hk => ⟨trivial, hk⟩)) hg hat); have n1_ := Aside0.mk (hb); have n2_ := Aside0.mk (ho); clear HO_6; clear HB; clear HO_9; have HO_6 := n0_; have HB := n1_; have HO199 := n2_; clear n0_ n1_ n2_; clear ho hb hg hat; obtain ⟨Ao20, co20, eo20⟩ := Kd.R_slice HO_6.out; subst eo20; have p200 : 0 ≤ ((ji16) : Int) := of_decide_eq_true (by first | (with_reducible assumption) | assumption); have q200 : (ji16) < (t192.length : Int) := of_decide_eq_true (by first | (with_reducible assumption) | assumption); obtain ⟨ad200, e200, hx200_0⟩ := Kd.at_int (Kd.R_reads' HO_6.out).2.2 (ji16) p200 q200; cases e200; replace p200 := eq_true p200; replace q200 := eq_true q200))
                          go_roundg k2
                          case measure => have := HJ4.out; have := HK2.out; omega
                          case rel => exact ⟨(Go.bits .xor .i64 x8_2 (rd t192 (ji16))), (y197), (wrap64 (x10_2 + 1)), (by first | rfl | (simp; done) | (simp only [← hji16] <;> (first | rfl | simp)) | (simp [*]; done)), (by first | rfl | (simp; done) | (simp [*]; done)), H', ⟨by have := HJ4.out; have := HK2.out; omega⟩, ⟨by (with_reducible repeat (first | apply Kd.R_alloc | apply Kd.R_drewN | apply Kd.R_drew)); exact Kd.R_mono HO_6.out (fun _ hk => hk.2)⟩, ⟨by (with_reducible repeat (first | apply Kd.R_alloc | apply Kd.R_drewN | apply Kd.R_drew)); exact HO199.out⟩, ⟨by repeat (first | (with_reducible first | exact HB.out | apply below_alloc | apply pw_below_drewN | apply below_drew1) | exact HB.out)⟩⟩
                        · rw [if_neg c18] at H
                          exact absurd H (by simp)
                      · rw [if_neg c17] at H
                        exact absurd H (by simp)
                    · rw [if_neg c15] at H
                      exact absurd H (by simp)
                  · rw [if_neg c14] at H
                    exact absurd H (by simp)
                · rw [if_neg c13] at H
                  have c13b0 : decide (x10_2 < 5) = false := decide_eq_false c13
                  clear c13
                  have H' := Aside0.mk H
                  clear H
                  go_wp2
                  go_meet
                  case rel => exact ⟨_, (x8_2), (x9_2), (by first | rfl | (simp; done) | (simp [*]; done)), H', ⟨by have := HJ4.out; have := HK2.out; first | omega | exact Nat.le_refl _⟩, ⟨by (with_reducible repeat (first | apply Kd.R_alloc | apply Kd.R_drewN | apply Kd.R_drew)); exact HO_6.out⟩, ⟨by (with_reducible repeat (first | apply Kd.R_alloc | apply Kd.R_drewN | apply Kd.R_drew)); exact HO_9.out⟩, ⟨by repeat (first | (with_reducible first | exact HB.out | apply below_alloc | apply pw_below_drewN | apply below_drew1) | exact HB.out)⟩⟩
              · rw [if_neg c12] at H
                have c12b0 : decide (x10_2 < (l1.length : Int)) = false := decide_eq_false c12
                clear c12
                (first | rw [c12b0] | (simp only [i64_w, i32_w]; rw [c12b0]) | skip)
                have H' := Aside0.mk H
                clear H
                go_wp2
                go_meet
                case rel => exact ⟨_, (x8_2), (x9_2), (by first | rfl | (simp; done) | (simp [*]; done)), H', ⟨by have := HJ4.out; have := HK2.out; first | omega | exact Nat.le_refl _⟩, ⟨by (with_reducible repeat (first | apply Kd.R_alloc | apply Kd.R_drewN | apply Kd.R_drew)); exact HO_6.out⟩, ⟨by (with_reducible repeat (first | apply Kd.R_alloc | apply Kd.R_drewN | apply Kd.R_drew)); exact HO_9.out⟩, ⟨by repeat (first | (with_reducible first | exact HB.out | apply below_alloc | apply pw_below_drewN | apply below_drew1) | exact HB.out)⟩⟩
        case rest =>
          clear HC11
          try clear c1
          try clear p1
          try clear q1
          try clear hx1
          try clear p2
          try clear q2
          try clear hx2
          try clear c3
          try clear c4
          try clear c5
          try clear p6
          try clear c8
          try clear c8b0
          try clear c8b1
          try clear c10
          try clear c12
          try clear c12b0
          try clear c13
          try clear c13b0
          try clear c14
          try clear c14b0
          try clear c15
          try clear c17
          try clear c17b0
          try clear c18
          try clear c18b0
          try clear p19
          try clear q19
          try clear hx19
          try clear p20
          try clear q20
          try clear hx20
          try clear hx196_0
          try clear hx200_0
          try clear p196
          try clear p2
          try clear p200
          try clear q196
          try clear q200
          obtain ⟨kq, x8_10, x9_10, rfl, HA, HJ10, HO_6, HO_9, HB⟩ := hcut
          cases kq with
          | zero => exact absurd HA.out (by simp [staddalaw06_HeapWins.j2])
          | succ kj10 =>
            have H := HA.out
            clear HA
            simp only [staddalaw06_HeapWins.j2] at H
            replace H := Option.bind_eq_some_iff.mp H
            obtain ⟨⟨t201, t202⟩, A210, H⟩ := H
            replace H : (if t202 = 0 then (staddalaw06_HeapWins.j3 kj10 t192 t201 ((decide ((t201.length : Int) > 0)) != (x8_10 != 0))) else (staddalaw06_HeapWins.j3 kj10 t192 t201 true)) = some r := H
            have A21 := Aside0.mk A210
            clear A210
            have HC22 := Aside0.mk H
            clear H
            obtain ⟨Ao23, co23, eo23⟩ := Kd.R_slice HO_9.out
            subst eo23
            go_upto_region 14 with (first | ((with_reducible refine gate_callee (f := 6) rfl ?_); refine goesL_ (some 61) rfl rfl Tryd.func6 (by kernel_rfl) rfl #[.string t191, .slice Ao23 x9_10.length co23] rfl (by (try simp only [List.map_toArray, List.map_cons, List.map_nil]); first | done | rfl | (simp only [List.length_drop, List.length_take]; rfl)) ?_; (with_reducible refine (heap_Moves.calls t191 _ _ x9_10 t201 t202 _ ?side1 ?side2 A21.out).mono ?_); (case side1 => repeat (first | exact (Kd.R_reads' HO_9.out).2.2 | (with_reducible refine Kd.C_alloc ?_ _) | (with_reducible refine Kd.C_drewN ?_ _) | (with_reducible refine Kd.C_drew ?_))); (case side2 => exact (Kd.R_reads' HO_9.out).2.1); rintro e w24 ⟨v203, rfl, ho0, hb⟩; refine ⟨_, rfl, ?_⟩; have n0_ := Aside0.mk (Kd.R_below (by (with_reducible repeat (first | apply Kd.R_alloc | apply Kd.R_drewN | apply Kd.R_drew)); exact HO_6.out) hb); have n1_ := Aside0.mk (Kd.R_below (by (with_reducible repeat (first | apply Kd.R_alloc | apply Kd.R_drewN | apply Kd.R_drew)); exact HO_9.out) hb); have n2_ := Aside0.mk (Kd.S_lower (Kd.S_new' (Kd.S_new' ho0 (Kd.R_lt (by (with_reducible repeat (first | apply Kd.R_alloc | apply Kd.R_drewN | apply Kd.R_drew)); exact HO_6.out))) (Kd.R_lt (by (with_reducible repeat (first | apply Kd.R_alloc | apply Kd.R_drewN | apply Kd.R_drew)); exact HO_9.out))) (below_size (by repeat (first | (with_reducible first | exact HB.out | apply below_alloc | apply pw_below_drewN | apply below_drew1) | exact HB.out)))); have n3_ := Aside0.mk (below_step (by repeat (first | (with_reducible first | exact HB.out | apply below_alloc | apply pw_below_drewN | apply below_drew1) | exact HB.out)) hb); clear HO_6; clear HO_9; clear HB; have HO_6 := n0_; have HO_9 := n1_; have HO204 := n2_; have HB := n3_; clear n0_ n1_ n2_ n3_; (try clear hb); (try clear hb2); (try clear hk); (try clear hi); (try clear ho0)))
            (try simp only [Act.put, List.setIfInBounds_toArray, List.set_cons_zero, List.set_cons_succ])
            go_cut [73] (fun v73 wc => ∃ (kq : Nat) (x73_21 : Bool), v73 = .bool x73_21 ∧ Aside0 (staddalaw06_HeapWins.j3 kq t192 t201 x73_21 = some r) ∧ Aside0 (kq ≤ kj10) ∧ Aside0 (Kd.R (Kd.int .i64) 3 wc w.heap.size (fun _ => True) v194 t192) ∧ Aside0 (Kd.S (Kd.slice 3 (Kd.int .i64)) 22 wc w.heap.size (fun k_ => some k_ ≠ (v194 : Value).ownBlock) v203 t201) ∧ Aside0 (Below w.heap.size w wc))
            case first =>
              have H := HC22.out
              clear HC22
              by_cases c25 : t202 = 0
              · rw [if_pos c25] at H
                have c25b0 : (t202 == 0) = true := beq_iff_eq.mpr c25
                have c25b1 : (t202 != 0) = false := bne_eq_false_iff_eq.mpr c25
                clear c25
                (first | rw [c25b0] | (simp only [i64_w, i32_w]; rw [c25b0]) | skip)
                have H' := Aside0.mk H
                clear H
                obtain ⟨Ao26, co26, eo26⟩ := Kd.S_slice HO204.out
                subst eo26
                go_wp2
                go_meet
                case rel => exact ⟨_, (((decide ((t201.length : Int) > 0)) != (x8_10 != 0))), (by first | rfl | (simp; done) | (simp [*]; generalize decide (0 < t201.length) = p_; generalize (x8_10 != 0) = q_; cases p_ <;> cases q_ <;> rfl)), H', ⟨by have := HJ4.out; have := HJ10.out; first | omega | exact Nat.le_refl _⟩, ⟨by (with_reducible repeat (first | apply Kd.R_alloc | apply Kd.R_drewN | apply Kd.R_drew)); exact Kd.R_mono HO_6.out (fun _ hk => trivial)⟩, ⟨by (with_reducible repeat (first | apply Kd.S_alloc | apply Kd.S_drewN | apply Kd.S_drew)); exact Kd.S_mono HO204.out (fun _ hk => hk.1.2)⟩, ⟨by repeat (first | (with_reducible first | exact HB.out | apply below_alloc | apply pw_below_drewN | apply below_drew1) | exact HB.out)⟩⟩
              · rw [if_neg c25] at H
                have c25b0 : (t202 == 0) = false := beq_eq_false_iff_ne.mpr c25
                have c25b1 : (t202 != 0) = true := bne_iff_ne.mpr c25
                (first | rw [c25b0] | (simp only [i64_w, i32_w]; rw [c25b0]) | skip)
                have H' := Aside0.mk H
                clear H
                go_wp2
                go_meet
                case rel => exact ⟨_, (true), (by first | rfl | (simp; done) | (simp [*]; done)), H', ⟨by have := HJ4.out; have := HJ10.out; first | omega | exact Nat.le_refl _⟩, ⟨by (with_reducible repeat (first | apply Kd.R_alloc | apply Kd.R_drewN | apply Kd.R_drew)); exact Kd.R_mono HO_6.out (fun _ hk => trivial)⟩, ⟨by (with_reducible repeat (first | apply Kd.S_alloc | apply Kd.S_drewN | apply Kd.S_drew)); exact Kd.S_mono HO204.out (fun _ hk => hk.1.2)⟩, ⟨by repeat (first | (with_reducible first | exact HB.out | apply below_alloc | apply pw_below_drewN | apply below_drew1) | exact HB.out)⟩⟩
            case rest =>
              clear HC22
              try clear c1
              try clear p1
              try clear q1
              try clear hx1
              try clear c2
              try clear p2
              try clear q2
              try clear hx2
              try clear c3
              try clear c4
              try clear c5
              try clear c6
              try clear p6
              try clear c8
              try clear c8b0
              try clear c8b1
              try clear c10
              try clear c12
              try clear c12b0
              try clear c13
              try clear c13b0
              try clear c14
              try clear c14b0
              try clear c15
              try clear c17
              try clear c17b0
              try clear c18
              try clear c18b0
              try clear p19
              try clear q19
              try clear hx19
              try clear p20
              try clear q20
              try clear hx20
              try clear c25
              try clear c25b0
              try clear c25b1
              try clear hx196_0
              try clear hx200_0
              try clear p1
              try clear p19
              try clear p196
              try clear p2
              try clear p20
              try clear p200
              try clear p6
              try clear q1
              try clear q19
              try clear q196
              try clear q2
              try clear q20
              try clear q200
              obtain ⟨kq, x73_21, rfl, HA, HJ21, HO_6, HO_12, HB⟩ := hcut
              cases kq with
              | zero => exact absurd HA.out (by simp [staddalaw06_HeapWins.j3])
              | succ kj21 =>
                have H := HA.out
                clear HA
                simp only [staddalaw06_HeapWins.j3] at H
                by_cases c27 : x73_21 = true
                · subst c27
                  have H1 : (some false) = some r := by rw [if_pos rfl] at H; exact H
                  clear H
                  have H := H1
                  clear H1
                  obtain rfl := Option.some.inj H
                  go_wp2
                  go_ret
                  exact ⟨by first | rfl | (simp [errW_none, errW_some] <;> rfl) | (simp [*, errW_none, errW_some] <;> rfl), by repeat (first | (with_reducible first | exact HB.out | apply below_alloc | apply pw_below_drewN | apply below_drew1) | exact HB.out)⟩
                · replace c27 := Bool.eq_false_iff.mpr c27
                  subst c27
                  have H1 : (staddalaw06_HeapWins.l1 kj21 t192 t201 0) = some r := by rw [if_neg (show ¬ (false = true) by decide)] at H; exact H
                  clear H
                  have H := H1
                  clear H1
                  have H' := Aside0.mk H
                  clear H
                  go_wp2
                  go_loopg [14] kj21 (fun kq v14 w' => ∃ (x14_4 : Int), v14 = .int .i64 x14_4 ∧ Aside0 (staddalaw06_HeapWins.l1 kq t192 t201 x14_4 = some r) ∧ Aside0 (kq ≤ kj21) ∧ Aside0 (Kd.R (Kd.int .i64) 3 w' w.heap.size (fun _ => True) v194 t192) ∧ Aside0 (Kd.S (Kd.slice 3 (Kd.int .i64)) 22 w' w.heap.size (fun k_ => some k_ ≠ (v194 : Value).ownBlock) v203 t201) ∧ Aside0 (Below w.heap.size w w'))
                  case atStart => exact ⟨(0), (by first | rfl | (simp; done) | (simp [*]; done)), H', ⟨Nat.le_refl _⟩, ⟨by (with_reducible repeat (first | apply Kd.R_alloc | apply Kd.R_drewN | apply Kd.R_drew)); exact HO_6.out⟩, ⟨by (with_reducible repeat (first | apply Kd.S_alloc | apply Kd.S_drewN | apply Kd.S_drew)); exact HO_12.out⟩, ⟨by repeat (first | (with_reducible first | exact HB.out | apply below_alloc | apply pw_below_drewN | apply below_drew1) | exact HB.out)⟩⟩
                  case round =>
                    clear H'
                    try clear c1
                    try clear p1
                    try clear q1
                    try clear hx1
                    try clear c2
                    try clear p2
                    try clear q2
                    try clear hx2
                    try clear c3
                    try clear c4
                    try clear c5
                    try clear c6
                    try clear p6
                    try clear c8
                    try clear c8b0
                    try clear c8b1
                    try clear c10
                    try clear c12
                    try clear c12b0
                    try clear c13
                    try clear c13b0
                    try clear c14
                    try clear c14b0
                    try clear c15
                    try clear c17
                    try clear c17b0
                    try clear c18
                    try clear c18b0
                    try clear p19
                    try clear q19
                    try clear hx19
                    try clear p20
                    try clear q20
                    try clear hx20
                    try clear c25
                    try clear c25b0
                    try clear c25b1
                    try clear c27
                    try clear hx196_0
                    try clear hx200_0
                    try clear p1
                    try clear p19
                    try clear p196
                    try clear p2
                    try clear p20
                    try clear p200
                    try clear p6
                    try clear q1
                    try clear q19
                    try clear q196
                    try clear q2
                    try clear q20
                    try clear q200
                    obtain ⟨x14_4, rfl, HA, HK4, HO_6, HO_12, HB⟩ := hrel
                    cases gk with
                    | zero => exact absurd HA.out (by simp [staddalaw06_HeapWins.l1])
                    | succ k4 =>
                      have H := HA.out
                      clear HA
                      simp only [staddalaw06_HeapWins.l1] at H
                      by_cases c28 : x14_4 < (t201.length : Int)
                      · rw [if_pos c28] at H
                        have c28b0 : decide (x14_4 < (t201.length : Int)) = true := decide_eq_true c28
                        clear c28
                        have H' := Aside0.mk H
                        clear H
                        obtain ⟨Ao29, co29, eo29⟩ := Kd.S_slice HO_12.out
                        subst eo29
                        go_wp2
                        go_loopg [15, 16] k4 (fun kq v15 v16 w' => ∃ (x15_5 : Int) (x16_5 : Int), v15 = .int .i64 x15_5 ∧ v16 = .int .i64 x16_5 ∧ Aside0 (staddalaw06_HeapWins.l2 kq t192 t201 x14_4 x15_5 x16_5 = some r) ∧ Aside0 (kq ≤ k4) ∧ Aside0 (Kd.R (Kd.int .i64) 3 w' w.heap.size (fun _ => True) v194 t192) ∧ Aside0 (Kd.S (Kd.slice 3 (Kd.int .i64)) 22 w' w.heap.size (fun k_ => some k_ ≠ (v194 : Value).ownBlock) (.slice Ao29 t201.length co29) t201) ∧ Aside0 (Below w.heap.size w w'))
                        case atStart => exact ⟨(0), (0), (by first | rfl | (simp; done) | (simp [*]; done)), (by first | rfl | (simp; done) | (simp [*]; done)), H', ⟨Nat.le_refl _⟩, ⟨by (with_reducible repeat (first | apply Kd.R_alloc | apply Kd.R_drewN | apply Kd.R_drew)); exact HO_6.out⟩, ⟨by (with_reducible repeat (first | apply Kd.S_alloc | apply Kd.S_drewN | apply Kd.S_drew)); exact HO_12.out⟩, ⟨by repeat (first | (with_reducible first | exact HB.out | apply below_alloc | apply pw_below_drewN | apply below_drew1) | exact HB.out)⟩⟩
                        case round =>
                          clear H'
                          try clear c1
                          try clear p1
                          try clear q1
                          try clear hx1
                          try clear c2
                          try clear p2
                          try clear q2
                          try clear hx2
                          try clear c3
                          try clear c4
                          try clear c5
                          try clear c6
                          try clear p6
                          try clear c8
                          try clear c8b0
                          try clear c8b1
                          try clear c10
                          try clear c12
                          try clear c12b0
                          try clear c13
                          try clear c13b0
                          try clear c14
                          try clear c14b0
                          try clear c15
                          try clear c17
                          try clear c17b0
                          try clear c18
                          try clear c18b0
                          try clear p19
                          try clear q19
                          try clear hx19
                          try clear p20
                          try clear q20
                          try clear hx20
                          try clear c25
                          try clear c25b0
                          try clear c25b1
                          try clear c27
                          try clear c28
                          try clear c28b0
                          try clear hx196_0
                          try clear hx200_0
                          try clear p1
                          try clear p19
                          try clear p196
                          try clear p2
                          try clear p20
                          try clear p200
                          try clear p6
                          try clear q1
                          try clear q19
                          try clear q196
                          try clear q2
                          try clear q20
                          try clear q200
                          obtain ⟨x15_5, x16_5, rfl, rfl, HA, HK5, HO_6, HO_12, HB⟩ := hrel
                          cases gk with
                          | zero => exact absurd HA.out (by simp [staddalaw06_HeapWins.l2])
                          | succ k5 =>
                            have H := HA.out
                            clear HA
                            simp only [staddalaw06_HeapWins.l2] at H
                            by_cases c30 : 0 ≤ x14_4
                            · rw [if_pos c30] at H
                              have c30b0 : decide (0 ≤ x14_4) = true := decide_eq_true c30
                              clear c30
                              by_cases c31 : x14_4 < (t201.length : Int)
                              · rw [if_pos c31] at H
                                have c31b0 : decide (x14_4 < (t201.length : Int)) = true := decide_eq_true c31
                                clear c31
                                by_cases c32 : x16_5 < ((rd_L2 t201 x14_4).length : Int)
                                · rw [if_pos c32] at H
                                  have c32b0 : decide (x16_5 < ((rd_L2 t201 x14_4).length : Int)) = true := decide_eq_true c32
                                  clear c32
                                  by_cases c33 : 0 ≤ x16_5
                                  · rw [if_pos c33] at H
                                    have c33b0 : decide (0 ≤ x16_5) = true := decide_eq_true c33
                                    clear c33
                                    by_cases c34 : (rd (rd_L2 t201 x14_4) x16_5) < 1
                                    · rw [if_pos c34] at H
                                      have c34b0 : decide ((rd (rd_L2 t201 x14_4) x16_5) < 1) = true := decide_eq_true c34
                                      clear c34
                                      obtain rfl := Option.some.inj H
                                      have p206 : 0 ≤ (x14_4 : Int) := of_decide_eq_true (by first | (with_reducible assumption) | assumption)
                                      have q206 : x14_4 < (t201.length : Int) := of_decide_eq_true (by first | (with_reducible assumption) | assumption)
                                      obtain ⟨ad206, A206_0, c206_0, e206, hx206_0, hl206_0, hi206_0⟩ := at_L2 (Kd.S_reads' HO_12.out).2.2 x14_4 p206 q206
                                      cases e206
                                      obtain ⟨ce206, hce206, hMe206, hcc206⟩ := Kd.S_get HO_12.out [] x14_4 p206 (by first | exact q206 | exact of_decide_eq_true (by first | (with_reducible assumption) | assumption) | (have e_ := (Kd.S_reads' HO_12.out).1; omega))
                                      obtain ⟨ve206_0, rfl, ge206_0⟩ := hMe206
                                      have hv206_0 := hcc206 0 _ rfl
                                      rw [Nat.add_zero, show ((Kd.slice 3 (Kd.int .i64))).sz = 1 from rfl, Nat.mul_one] at hv206_0
                                      replace hv206_0 := Option.some.inj (hv206_0.symm.trans hx206_0)
                                      rw [hv206_0] at ge206_0
                                      have HL206_0 := Aside0.mk (show Kd.R (Kd.int .i64) 3 _ _ _ _ (rd_L2 t201 x14_4) from ge206_0)
                                      clear hv206_0 ge206_0
                                      clear hcc206 hce206
                                      have HR206_0 := Aside0.mk hi206_0
                                      have HC206_0 := Aside0.mk hl206_0
                                      clear hi206_0 hl206_0
                                      replace p206 := eq_true p206
                                      replace q206 := eq_true q206
                                      have p207 : 0 ≤ (x14_4 : Int) := of_decide_eq_true (by first | (with_reducible assumption) | assumption)
                                      have q207 : x14_4 < (t201.length : Int) := of_decide_eq_true (by first | (with_reducible assumption) | assumption)
                                      obtain ⟨ad207, A207_0, c207_0, e207, hx207_0, hl207_0, hi207_0⟩ := at_L2 (Kd.S_reads' HO_12.out).2.2 x14_4 p207 q207
                                      obtain rfl : ad206 = ad207 := (by injection e207)
                                      obtain ⟨ce207, hce207, hMe207, hcc207⟩ := Kd.S_get HO_12.out [] x14_4 p207 (by first | exact q207 | exact of_decide_eq_true (by first | (with_reducible assumption) | assumption) | (have e_ := (Kd.S_reads' HO_12.out).1; omega))
                                      obtain ⟨ve207_0, rfl, ge207_0⟩ := hMe207
                                      have hv207_0 := hcc207 0 _ rfl
                                      rw [Nat.add_zero, show ((Kd.slice 3 (Kd.int .i64))).sz = 1 from rfl, Nat.mul_one] at hv207_0
                                      replace hv207_0 := Option.some.inj (hv207_0.symm.trans hx207_0)
                                      rw [hv207_0] at ge207_0
                                      have HL207_0 := Aside0.mk (show Kd.R (Kd.int .i64) 3 _ _ _ _ (rd_L2 t201 x14_4) from ge207_0)
                                      clear hv207_0 ge207_0
                                      clear hcc207 hce207
                                      have HR207_0 := Aside0.mk hi207_0
                                      have HC207_0 := Aside0.mk hl207_0
                                      clear hi207_0 hl207_0
                                      replace p207 := eq_true p207
                                      replace q207 := eq_true q207
                                      have ea_ := Option.some.inj (hx206_0.symm.trans hx207_0)
                                      injection ea_ with ea_ en_ ec_
                                      subst ea_
                                      subst ec_
                                      clear en_
                                      have p208 : 0 ≤ (x16_5 : Int) := of_decide_eq_true (by first | (with_reducible assumption) | assumption)
                                      have q208 : x16_5 < ((rd_L2 t201 x14_4).length : Int) := of_decide_eq_true (by first | (with_reducible assumption) | assumption)
                                      obtain ⟨ad208, e208, hx208_0⟩ := Kd.at_int (by repeat (first | (with_reducible exact HR207_0.out) | (with_reducible refine Kd.C_alloc ?_ _) | (with_reducible refine Kd.C_drewN ?_ _) | (with_reducible refine Kd.C_drew ?_) | exact HR207_0.out)) x16_5 p208 q208
                                      cases e208
                                      replace p208 := eq_true p208
                                      replace q208 := eq_true q208
                                      go_wp2
                                      go_ret
                                      exact ⟨by first | rfl | (simp [errW_none, errW_some] <;> rfl) | (simp [*, errW_none, errW_some] <;> rfl), by repeat (first | (with_reducible first | exact HB.out | apply below_alloc | apply pw_below_drewN | apply below_drew1) | exact HB.out)⟩
                                    · rw [if_neg c34] at H
                                      have c34b0 : decide ((rd (rd_L2 t201 x14_4) x16_5) < 1) = false := decide_eq_false c34
                                      clear c34
                                      by_cases c35 : (rd (rd_L2 t201 x14_4) x16_5) > 30
                                      · rw [if_pos c35] at H
                                        have c35b0 : decide (30 < (rd (rd_L2 t201 x14_4) x16_5)) = true := decide_eq_true c35
                                        clear c35
                                        obtain rfl := Option.some.inj H
                                        have p206 : 0 ≤ (x14_4 : Int) := of_decide_eq_true (by first | (with_reducible assumption) | assumption)
                                        have q206 : x14_4 < (t201.length : Int) := of_decide_eq_true (by first | (with_reducible assumption) | assumption)
                                        obtain ⟨ad206, A206_0, c206_0, e206, hx206_0, hl206_0, hi206_0⟩ := at_L2 (Kd.S_reads' HO_12.out).2.2 x14_4 p206 q206
                                        cases e206
                                        obtain ⟨ce206, hce206, hMe206, hcc206⟩ := Kd.S_get HO_12.out [] x14_4 p206 (by first | exact q206 | exact of_decide_eq_true (by first | (with_reducible assumption) | assumption) | (have e_ := (Kd.S_reads' HO_12.out).1; omega))
                                        obtain ⟨ve206_0, rfl, ge206_0⟩ := hMe206
                                        have hv206_0 := hcc206 0 _ rfl
                                        rw [Nat.add_zero, show ((Kd.slice 3 (Kd.int .i64))).sz = 1 from rfl, Nat.mul_one] at hv206_0
                                        replace hv206_0 := Option.some.inj (hv206_0.symm.trans hx206_0)
                                        rw [hv206_0] at ge206_0
                                        have HL206_0 := Aside0.mk (show Kd.R (Kd.int .i64) 3 _ _ _ _ (rd_L2 t201 x14_4) from ge206_0)
                                        clear hv206_0 ge206_0
                                        clear hcc206 hce206
                                        have HR206_0 := Aside0.mk hi206_0
                                        have HC206_0 := Aside0.mk hl206_0
                                        clear hi206_0 hl206_0
                                        replace p206 := eq_true p206
                                        replace q206 := eq_true q206
                                        have p207 : 0 ≤ (x14_4 : Int) := of_decide_eq_true (by first | (with_reducible assumption) | assumption)
                                        have q207 : x14_4 < (t201.length : Int) := of_decide_eq_true (by first | (with_reducible assumption) | assumption)
                                        obtain ⟨ad207, A207_0, c207_0, e207, hx207_0, hl207_0, hi207_0⟩ := at_L2 (Kd.S_reads' HO_12.out).2.2 x14_4 p207 q207
                                        obtain rfl : ad206 = ad207 := (by injection e207)
                                        obtain ⟨ce207, hce207, hMe207, hcc207⟩ := Kd.S_get HO_12.out [] x14_4 p207 (by first | exact q207 | exact of_decide_eq_true (by first | (with_reducible assumption) | assumption) | (have e_ := (Kd.S_reads' HO_12.out).1; omega))
                                        obtain ⟨ve207_0, rfl, ge207_0⟩ := hMe207
                                        have hv207_0 := hcc207 0 _ rfl
                                        rw [Nat.add_zero, show ((Kd.slice 3 (Kd.int .i64))).sz = 1 from rfl, Nat.mul_one] at hv207_0
                                        replace hv207_0 := Option.some.inj (hv207_0.symm.trans hx207_0)
                                        rw [hv207_0] at ge207_0
                                        have HL207_0 := Aside0.mk (show Kd.R (Kd.int .i64) 3 _ _ _ _ (rd_L2 t201 x14_4) from ge207_0)
                                        clear hv207_0 ge207_0
                                        clear hcc207 hce207
                                        have HR207_0 := Aside0.mk hi207_0
                                        have HC207_0 := Aside0.mk hl207_0
                                        clear hi207_0 hl207_0
                                        replace p207 := eq_true p207
                                        replace q207 := eq_true q207
                                        have ea_ := Option.some.inj (hx206_0.symm.trans hx207_0)
                                        injection ea_ with ea_ en_ ec_
                                        subst ea_
                                        subst ec_
                                        clear en_
                                        have p208 : 0 ≤ (x16_5 : Int) := of_decide_eq_true (by first | (with_reducible assumption) | assumption)
                                        have q208 : x16_5 < ((rd_L2 t201 x14_4).length : Int) := of_decide_eq_true (by first | (with_reducible assumption) | assumption)
                                        obtain ⟨ad208, e208, hx208_0⟩ := Kd.at_int (by repeat (first | (with_reducible exact HR207_0.out) | (with_reducible refine Kd.C_alloc ?_ _) | (with_reducible refine Kd.C_drewN ?_ _) | (with_reducible refine Kd.C_drew ?_) | exact HR207_0.out)) x16_5 p208 q208
                                        cases e208
                                        replace p208 := eq_true p208
                                        replace q208 := eq_true q208
                                        have p209 : 0 ≤ (x14_4 : Int) := of_decide_eq_true (by first | (with_reducible assumption) | assumption)
                                        have q209 : x14_4 < (t201.length : Int) := of_decide_eq_true (by first | (with_reducible assumption) | assumption)
                                        obtain ⟨ad209, A209_0, c209_0, e209, hx209_0, hl209_0, hi209_0⟩ := at_L2 (Kd.S_reads' HO_12.out).2.2 x14_4 p209 q209
                                        obtain rfl : ad206 = ad209 := (by injection e209)
                                        obtain ⟨ce209, hce209, hMe209, hcc209⟩ := Kd.S_get HO_12.out [] x14_4 p209 (by first | exact q209 | exact of_decide_eq_true (by first | (with_reducible assumption) | assumption) | (have e_ := (Kd.S_reads' HO_12.out).1; omega))
                                        obtain ⟨ve209_0, rfl, ge209_0⟩ := hMe209
                                        have hv209_0 := hcc209 0 _ rfl
                                        rw [Nat.add_zero, show ((Kd.slice 3 (Kd.int .i64))).sz = 1 from rfl, Nat.mul_one] at hv209_0
                                        replace hv209_0 := Option.some.inj (hv209_0.symm.trans hx209_0)
                                        rw [hv209_0] at ge209_0
                                        have HL209_0 := Aside0.mk (show Kd.R (Kd.int .i64) 3 _ _ _ _ (rd_L2 t201 x14_4) from ge209_0)
                                        clear hv209_0 ge209_0
                                        clear hcc209 hce209
                                        have HR209_0 := Aside0.mk hi209_0
                                        have HC209_0 := Aside0.mk hl209_0
                                        clear hi209_0 hl209_0
                                        replace p209 := eq_true p209
                                        replace q209 := eq_true q209
                                        have ea_ := Option.some.inj (hx206_0.symm.trans hx209_0)
                                        injection ea_ with ea_ en_ ec_
                                        subst ea_
                                        subst ec_
                                        clear en_
                                        have p210 : 0 ≤ (x16_5 : Int) := of_decide_eq_true (by first | (with_reducible assumption) | assumption)
                                        have q210 : x16_5 < ((rd_L2 t201 x14_4).length : Int) := of_decide_eq_true (by first | (with_reducible assumption) | assumption)
                                        obtain ⟨ad210, e210, hx210_0⟩ := Kd.at_int (by repeat (first | (with_reducible exact HR209_0.out) | (with_reducible refine Kd.C_alloc ?_ _) | (with_reducible refine Kd.C_drewN ?_ _) | (with_reducible refine Kd.C_drew ?_) | exact HR209_0.out)) x16_5 p210 q210
                                        cases e210
                                        replace p210 := eq_true p210
                                        replace q210 := eq_true q210
                                        go_wp2
                                        go_ret
                                        exact ⟨by first | rfl | (simp [errW_none, errW_some] <;> rfl) | (simp [*, errW_none, errW_some] <;> rfl), by repeat (first | (with_reducible first | exact HB.out | apply below_alloc | apply pw_below_drewN | apply below_drew1) | exact HB.out)⟩
                                      · rw [if_neg c35] at H
                                        have c35b0 : decide (30 < (rd (rd_L2 t201 x14_4) x16_5)) = false := decide_eq_false c35
                                        clear c35
                                        by_cases c36 : 0 ≤ (rd (rd_L2 t201 x14_4) x16_5)
                                        · rw [if_pos c36] at H
                                          have c36b0 : decide (0 ≤ (rd (rd_L2 t201 x14_4) x16_5)) = true := decide_eq_true c36
                                          clear c36
                                          by_cases c37 : (rd (rd_L2 t201 x14_4) x16_5) < (t192.length : Int)
                                          · rw [if_pos c37] at H
                                            have c37b0 : decide ((rd (rd_L2 t201 x14_4) x16_5) < (t192.length : Int)) = true := decide_eq_true c37
                                            clear c37
                                            have H' := Aside0.mk H
                                            clear H
                                            have p206 : 0 ≤ (x14_4 : Int) := of_decide_eq_true (by first | (with_reducible assumption) | assumption)
                                            have q206 : x14_4 < (t201.length : Int) := of_decide_eq_true (by first | (with_reducible assumption) | assumption)
                                            obtain ⟨ad206, A206_0, c206_0, e206, hx206_0, hl206_0, hi206_0⟩ := at_L2 (Kd.S_reads' HO_12.out).2.2 x14_4 p206 q206
                                            cases e206
                                            obtain ⟨ce206, hce206, hMe206, hcc206⟩ := Kd.S_get HO_12.out [] x14_4 p206 (by first | exact q206 | exact of_decide_eq_true (by first | (with_reducible assumption) | assumption) | (have e_ := (Kd.S_reads' HO_12.out).1; omega))
                                            obtain ⟨ve206_0, rfl, ge206_0⟩ := hMe206
                                            have hv206_0 := hcc206 0 _ rfl
                                            rw [Nat.add_zero, show ((Kd.slice 3 (Kd.int .i64))).sz = 1 from rfl, Nat.mul_one] at hv206_0
                                            replace hv206_0 := Option.some.inj (hv206_0.symm.trans hx206_0)
                                            rw [hv206_0] at ge206_0
                                            have HL206_0 := Aside0.mk (show Kd.R (Kd.int .i64) 3 _ _ _ _ (rd_L2 t201 x14_4) from ge206_0)
                                            clear hv206_0 ge206_0
                                            clear hcc206 hce206
                                            have HR206_0 := Aside0.mk hi206_0
                                            have HC206_0 := Aside0.mk hl206_0
                                            clear hi206_0 hl206_0
                                            replace p206 := eq_true p206
                                            replace q206 := eq_true q206
                                            have p207 : 0 ≤ (x14_4 : Int) := of_decide_eq_true (by first | (with_reducible assumption) | assumption)
                                            have q207 : x14_4 < (t201.length : Int) := of_decide_eq_true (by first | (with_reducible assumption) | assumption)
                                            obtain ⟨ad207, A207_0, c207_0, e207, hx207_0, hl207_0, hi207_0⟩ := at_L2 (Kd.S_reads' HO_12.out).2.2 x14_4 p207 q207
                                            obtain rfl : ad206 = ad207 := (by injection e207)
                                            obtain ⟨ce207, hce207, hMe207, hcc207⟩ := Kd.S_get HO_12.out [] x14_4 p207 (by first | exact q207 | exact of_decide_eq_true (by first | (with_reducible assumption) | assumption) | (have e_ := (Kd.S_reads' HO_12.out).1; omega))
                                            obtain ⟨ve207_0, rfl, ge207_0⟩ := hMe207
                                            have hv207_0 := hcc207 0 _ rfl
                                            rw [Nat.add_zero, show ((Kd.slice 3 (Kd.int .i64))).sz = 1 from rfl, Nat.mul_one] at hv207_0
                                            replace hv207_0 := Option.some.inj (hv207_0.symm.trans hx207_0)
                                            rw [hv207_0] at ge207_0
                                            have HL207_0 := Aside0.mk (show Kd.R (Kd.int .i64) 3 _ _ _ _ (rd_L2 t201 x14_4) from ge207_0)
                                            clear hv207_0 ge207_0
                                            clear hcc207 hce207
                                            have HR207_0 := Aside0.mk hi207_0
                                            have HC207_0 := Aside0.mk hl207_0
                                            clear hi207_0 hl207_0
                                            replace p207 := eq_true p207
                                            replace q207 := eq_true q207
                                            have ea_ := Option.some.inj (hx206_0.symm.trans hx207_0)
                                            injection ea_ with ea_ en_ ec_
                                            subst ea_
                                            subst ec_
                                            clear en_
                                            have p208 : 0 ≤ (x16_5 : Int) := of_decide_eq_true (by first | (with_reducible assumption) | assumption)
                                            have q208 : x16_5 < ((rd_L2 t201 x14_4).length : Int) := of_decide_eq_true (by first | (with_reducible assumption) | assumption)
                                            obtain ⟨ad208, e208, hx208_0⟩ := Kd.at_int (by repeat (first | (with_reducible exact HR207_0.out) | (with_reducible refine Kd.C_alloc ?_ _) | (with_reducible refine Kd.C_drewN ?_ _) | (with_reducible refine Kd.C_drew ?_) | exact HR207_0.out)) x16_5 p208 q208
                                            cases e208
                                            replace p208 := eq_true p208
                                            replace q208 := eq_true q208
                                            have p209 : 0 ≤ (x14_4 : Int) := of_decide_eq_true (by first | (with_reducible assumption) | assumption)
                                            have q209 : x14_4 < (t201.length : Int) := of_decide_eq_true (by first | (with_reducible assumption) | assumption)
                                            obtain ⟨ad209, A209_0, c209_0, e209, hx209_0, hl209_0, hi209_0⟩ := at_L2 (Kd.S_reads' HO_12.out).2.2 x14_4 p209 q209
                                            obtain rfl : ad206 = ad209 := (by injection e209)
                                            obtain ⟨ce209, hce209, hMe209, hcc209⟩ := Kd.S_get HO_12.out [] x14_4 p209 (by first | exact q209 | exact of_decide_eq_true (by first | (with_reducible assumption) | assumption) | (have e_ := (Kd.S_reads' HO_12.out).1; omega))
                                            obtain ⟨ve209_0, rfl, ge209_0⟩ := hMe209
                                            have hv209_0 := hcc209 0 _ rfl
                                            rw [Nat.add_zero, show ((Kd.slice 3 (Kd.int .i64))).sz = 1 from rfl, Nat.mul_one] at hv209_0
                                            replace hv209_0 := Option.some.inj (hv209_0.symm.trans hx209_0)
                                            rw [hv209_0] at ge209_0
                                            have HL209_0 := Aside0.mk (show Kd.R (Kd.int .i64) 3 _ _ _ _ (rd_L2 t201 x14_4) from ge209_0)
                                            clear hv209_0 ge209_0
                                            clear hcc209 hce209
                                            have HR209_0 := Aside0.mk hi209_0
                                            have HC209_0 := Aside0.mk hl209_0
                                            clear hi209_0 hl209_0
                                            replace p209 := eq_true p209
                                            replace q209 := eq_true q209
                                            have ea_ := Option.some.inj (hx206_0.symm.trans hx209_0)
                                            injection ea_ with ea_ en_ ec_
                                            subst ea_
                                            subst ec_
                                            clear en_
                                            have p210 : 0 ≤ (x16_5 : Int) := of_decide_eq_true (by first | (with_reducible assumption) | assumption)
                                            have q210 : x16_5 < ((rd_L2 t201 x14_4).length : Int) := of_decide_eq_true (by first | (with_reducible assumption) | assumption)
                                            obtain ⟨ad210, e210, hx210_0⟩ := Kd.at_int (by repeat (first | (with_reducible exact HR209_0.out) | (with_reducible refine Kd.C_alloc ?_ _) | (with_reducible refine Kd.C_drewN ?_ _) | (with_reducible refine Kd.C_drew ?_) | exact HR209_0.out)) x16_5 p210 q210
                                            cases e210
                                            replace p210 := eq_true p210
                                            replace q210 := eq_true q210
                                            have p211 : 0 ≤ (x14_4 : Int) := of_decide_eq_true (by first | (with_reducible assumption) | assumption)
                                            have q211 : x14_4 < (t201.length : Int) := of_decide_eq_true (by first | (with_reducible assumption) | assumption)
                                            obtain ⟨ad211, A211_0, c211_0, e211, hx211_0, hl211_0, hi211_0⟩ := at_L2 (Kd.S_reads' HO_12.out).2.2 x14_4 p211 q211
                                            obtain rfl : ad206 = ad211 := (by injection e211)
                                            obtain ⟨ce211, hce211, hMe211, hcc211⟩ := Kd.S_get HO_12.out [] x14_4 p211 (by first | exact q211 | exact of_decide_eq_true (by first | (with_reducible assumption) | assumption) | (have e_ := (Kd.S_reads' HO_12.out).1; omega))
                                            obtain ⟨ve211_0, rfl, ge211_0⟩ := hMe211
                                            have hv211_0 := hcc211 0 _ rfl
                                            rw [Nat.add_zero, show ((Kd.slice 3 (Kd.int .i64))).sz = 1 from rfl, Nat.mul_one] at hv211_0
                                            replace hv211_0 := Option.some.inj (hv211_0.symm.trans hx211_0)
                                            rw [hv211_0] at ge211_0
                                            have HL211_0 := Aside0.mk (show Kd.R (Kd.int .i64) 3 _ _ _ _ (rd_L2 t201 x14_4) from ge211_0)
                                            clear hv211_0 ge211_0
                                            clear hcc211 hce211
                                            have HR211_0 := Aside0.mk hi211_0
                                            have HC211_0 := Aside0.mk hl211_0
                                            clear hi211_0 hl211_0
                                            replace p211 := eq_true p211
                                            replace q211 := eq_true q211
                                            have ea_ := Option.some.inj (hx206_0.symm.trans hx211_0)
                                            injection ea_ with ea_ en_ ec_
                                            subst ea_
                                            subst ec_
                                            clear en_
                                            have p212 : 0 ≤ (x16_5 : Int) := of_decide_eq_true (by first | (with_reducible assumption) | assumption)
                                            have q212 : x16_5 < ((rd_L2 t201 x14_4).length : Int) := of_decide_eq_true (by first | (with_reducible assumption) | assumption)
                                            obtain ⟨ad212, e212, hx212_0⟩ := Kd.at_int (by repeat (first | (with_reducible exact HR211_0.out) | (with_reducible refine Kd.C_alloc ?_ _) | (with_reducible refine Kd.C_drewN ?_ _) | (with_reducible refine Kd.C_drew ?_) | exact HR211_0.out)) x16_5 p212 q212
                                            cases e212
                                            replace p212 := eq_true p212
                                            replace q212 := eq_true q212
                                            obtain ⟨Ao38, co38, eo38⟩ := Kd.R_slice HO_6.out
                                            subst eo38
                                            have p213 : 0 ≤ ((rd (rd_L2 t201 x14_4) x16_5) : Int) := of_decide_eq_true (by first | (with_reducible assumption) | assumption)
                                            have q213 : (rd (rd_L2 t201 x14_4) x16_5) < (t192.length : Int) := of_decide_eq_true (by first | (with_reducible assumption) | assumption)
                                            obtain ⟨ad213, e213, hx213_0⟩ := Kd.at_int (Kd.R_reads' HO_6.out).2.2 (rd (rd_L2 t201 x14_4) x16_5) p213 q213
                                            cases e213
                                            replace p213 := eq_true p213
                                            replace q213 := eq_true q213
                                            go_wp2
                                            go_roundg k5
                                            case measure => have := HJ4.out; have := HJ10.out; have := HJ21.out; have := HK4.out; have := HK5.out; omega
                                            case rel => exact ⟨(Go.bits .xor .i64 x15_5 (rd t192 (rd (rd_L2 t201 x14_4) x16_5))), (wrap64 (x16_5 + 1)), (by first | rfl | (simp; done) | (simp [*]; done)), (by first | rfl | (simp; done) | (simp [*]; done)), H', ⟨by have := HJ4.out; have := HJ10.out; have := HJ21.out; have := HK4.out; have := HK5.out; omega⟩, ⟨by (with_reducible repeat (first | apply Kd.R_alloc | apply Kd.R_drewN | apply Kd.R_drew)); exact HO_6.out⟩, ⟨by (with_reducible repeat (first | apply Kd.S_alloc | apply Kd.S_drewN | apply Kd.S_drew)); exact HO_12.out⟩, ⟨by repeat (first | (with_reducible first | exact HB.out | apply below_alloc | apply pw_below_drewN | apply below_drew1) | exact HB.out)⟩⟩
                                          · rw [if_neg c37] at H
                                            exact absurd H (by simp)
                                        · rw [if_neg c36] at H
                                          exact absurd H (by simp)
                                  · rw [if_neg c33] at H
                                    exact absurd H (by simp)
                                · rw [if_neg c32] at H
                                  have c32b0 : decide (x16_5 < ((rd_L2 t201 x14_4).length : Int)) = false := decide_eq_false c32
                                  clear c32
                                  by_cases c39 : x15_5 = 0
                                  · rw [if_pos c39] at H
                                    have c39b0 : (x15_5 == 0) = true := beq_iff_eq.mpr c39
                                    have c39b1 : (x15_5 != 0) = false := bne_eq_false_iff_eq.mpr c39
                                    clear c39
                                    have H' := Aside0.mk H
                                    clear H
                                    have p206 : 0 ≤ (x14_4 : Int) := of_decide_eq_true (by first | (with_reducible assumption) | assumption)
                                    have q206 : x14_4 < (t201.length : Int) := of_decide_eq_true (by first | (with_reducible assumption) | assumption)
                                    obtain ⟨ad206, A206_0, c206_0, e206, hx206_0, hl206_0, hi206_0⟩ := at_L2 (Kd.S_reads' HO_12.out).2.2 x14_4 p206 q206
                                    cases e206
                                    obtain ⟨ce206, hce206, hMe206, hcc206⟩ := Kd.S_get HO_12.out [] x14_4 p206 (by first | exact q206 | exact of_decide_eq_true (by first | (with_reducible assumption) | assumption) | (have e_ := (Kd.S_reads' HO_12.out).1; omega))
                                    obtain ⟨ve206_0, rfl, ge206_0⟩ := hMe206
                                    have hv206_0 := hcc206 0 _ rfl
                                    rw [Nat.add_zero, show ((Kd.slice 3 (Kd.int .i64))).sz = 1 from rfl, Nat.mul_one] at hv206_0
                                    replace hv206_0 := Option.some.inj (hv206_0.symm.trans hx206_0)
                                    rw [hv206_0] at ge206_0
                                    have HL206_0 := Aside0.mk (show Kd.R (Kd.int .i64) 3 _ _ _ _ (rd_L2 t201 x14_4) from ge206_0)
                                    clear hv206_0 ge206_0
                                    clear hcc206 hce206
                                    have HR206_0 := Aside0.mk hi206_0
                                    have HC206_0 := Aside0.mk hl206_0
                                    clear hi206_0 hl206_0
                                    replace p206 := eq_true p206
                                    replace q206 := eq_true q206
                                    go_wp2
                                    go_roundg k5
                                    case measure => have := HJ4.out; have := HJ10.out; have := HJ21.out; have := HK4.out; have := HK5.out; omega
                                    case rel => exact ⟨(wrap64 (x14_4 + 1)), (by first | rfl | (simp; done) | (simp [*]; done)), H', ⟨by have := HJ4.out; have := HJ10.out; have := HJ21.out; have := HK4.out; have := HK5.out; omega⟩, ⟨by (with_reducible repeat (first | apply Kd.R_alloc | apply Kd.R_drewN | apply Kd.R_drew)); exact HO_6.out⟩, ⟨by (with_reducible repeat (first | apply Kd.S_alloc | apply Kd.S_drewN | apply Kd.S_drew)); exact HO_12.out⟩, ⟨by repeat (first | (with_reducible first | exact HB.out | apply below_alloc | apply pw_below_drewN | apply below_drew1) | exact HB.out)⟩⟩
                                  · rw [if_neg c39] at H
                                    have c39b0 : (x15_5 == 0) = false := beq_eq_false_iff_ne.mpr c39
                                    have c39b1 : (x15_5 != 0) = true := bne_iff_ne.mpr c39
                                    obtain rfl := Option.some.inj H
                                    have p206 : 0 ≤ (x14_4 : Int) := of_decide_eq_true (by first | (with_reducible assumption) | assumption)
                                    have q206 : x14_4 < (t201.length : Int) := of_decide_eq_true (by first | (with_reducible assumption) | assumption)
                                    obtain ⟨ad206, A206_0, c206_0, e206, hx206_0, hl206_0, hi206_0⟩ := at_L2 (Kd.S_reads' HO_12.out).2.2 x14_4 p206 q206
                                    cases e206
                                    obtain ⟨ce206, hce206, hMe206, hcc206⟩ := Kd.S_get HO_12.out [] x14_4 p206 (by first | exact q206 | exact of_decide_eq_true (by first | (with_reducible assumption) | assumption) | (have e_ := (Kd.S_reads' HO_12.out).1; omega))
                                    obtain ⟨ve206_0, rfl, ge206_0⟩ := hMe206
                                    have hv206_0 := hcc206 0 _ rfl
                                    rw [Nat.add_zero, show ((Kd.slice 3 (Kd.int .i64))).sz = 1 from rfl, Nat.mul_one] at hv206_0
                                    replace hv206_0 := Option.some.inj (hv206_0.symm.trans hx206_0)
                                    rw [hv206_0] at ge206_0
                                    have HL206_0 := Aside0.mk (show Kd.R (Kd.int .i64) 3 _ _ _ _ (rd_L2 t201 x14_4) from ge206_0)
                                    clear hv206_0 ge206_0
                                    clear hcc206 hce206
                                    have HR206_0 := Aside0.mk hi206_0
                                    have HC206_0 := Aside0.mk hl206_0
                                    clear hi206_0 hl206_0
                                    replace p206 := eq_true p206
                                    replace q206 := eq_true q206
                                    go_wp2
                                    go_ret
                                    exact ⟨by first | rfl | (simp [errW_none, errW_some] <;> rfl) | (simp [*, errW_none, errW_some] <;> rfl), by repeat (first | (with_reducible first | exact HB.out | apply below_alloc | apply pw_below_drewN | apply below_drew1) | exact HB.out)⟩
                              · rw [if_neg c31] at H
                                exact absurd H (by simp)
                            · rw [if_neg c30] at H
                              exact absurd H (by simp)
                      · rw [if_neg c28] at H
                        have c28b0 : decide (x14_4 < (t201.length : Int)) = false := decide_eq_false c28
                        clear c28
                        replace H := Option.bind_eq_some_iff.mp H
                        obtain ⟨t205, A400, H⟩ := H
                        replace H : (some t205) = some r := H
                        have A40 := Aside0.mk A400
                        clear A400
                        obtain rfl := Option.some.inj H
                        obtain ⟨Ao41, co41, eo41⟩ := Kd.S_slice HO_12.out
                        subst eo41
                        go_wp2_with (first | ((with_reducible refine gate_callee (f := 7) rfl ?_); refine goesL_ (some 121) rfl rfl Tryd.func7 (by kernel_rfl) rfl #[] rfl (by (try simp only [List.map_toArray, List.map_cons, List.map_nil]); first | done | rfl | (simp only [List.length_drop, List.length_take]; rfl)) ?_; (with_reducible refine (staddalaw06_awake.calls k4  t205 _ A40.out).mono ?_); rintro e w42 ⟨rfl, hb⟩; refine ⟨_, rfl, ?_⟩; have n0_ := Aside0.mk (Kd.R_below (by (with_reducible repeat (first | apply Kd.R_alloc | apply Kd.R_drewN | apply Kd.R_drew)); exact HO_6.out) hb); have n1_ := Aside0.mk (Kd.S_below (by (with_reducible repeat (first | apply Kd.S_alloc | apply Kd.S_drewN | apply Kd.S_drew)); exact HO_12.out) hb); have n2_ := Aside0.mk (below_step (by repeat (first | (with_reducible first | exact HB.out | apply below_alloc | apply pw_below_drewN | apply below_drew1) | exact HB.out)) hb); clear HO_6; clear HO_12; clear HB; have HO_6 := n0_; have HO_12 := n1_; have HB := n2_; clear n0_ n1_ n2_; (try clear hb); (try clear hb2); (try clear hk); (try clear hi)))
                        go_ret
                        exact ⟨by first | rfl | (simp [errW_none, errW_some] <;> rfl) | (simp [*, errW_none, errW_some] <;> rfl), by repeat (first | (with_reducible first | exact HB.out | apply below_alloc | apply pw_below_drewN | apply below_drew1) | exact HB.out)⟩

/-- THE ONE PURE STATEMENT of staddalaw06_HeapWins: yours. -/
def staddalaw06_HeapWins.Pure : Prop := ∀ (a0 : ByteArray) (l1 : List Int), a0.size ≤ 140737488351232 → l1.length ≤ maxLen → l1.length * 8 ≤ 140737488351232 → (∀ x ∈ l1, (Lit.int .i64 x).wf = true) → ∃ k, staddalaw06_HeapWins.f k a0 l1 = some true
theorem staddalaw06_HeapWins.walk (P : staddalaw06_HeapWins.Pure) (a0 : ByteArray) (a1 : Option Addr) (len1 cap1 : Nat) (z1 : List Int) (w : World) (w0 : a0.size ≤ 140737488351232) (w1 : (a1 = none ∧ len1 = 0 ∧ cap1 = 0 ∧ z1 = []) ∨ ∃ x, a1 = some x ∧ len1 ≤ cap1 ∧ cap1 ≤ maxLen ∧ z1.length = cap1 ∧ (∀ i, i < z1.length → w.cell? (x.add i) = some (.int .i64 (z1.getD i 0))) ∧ ∀ n ∈ z1, (Lit.int .i64 n).wf = true) (y1 : len1 * 8 ≤ 140737488351232) :
    Calls Tryd.prog 3 #[.string a0, .slice a1 len1 cap1] w fun e w' => e = .returned (.bool true) ∧ Below w.heap.size w w' := by
  obtain ⟨l1, rfl, hr1, hm1, hw1, hc1⟩ := ReadsInt.ofRowC w1
  obtain ⟨k, h⟩ := P a0 l1 w0 hm1 y1 hw1
  refine (staddalaw06_HeapWins.calls k a0 _ _ l1 true w (Kd.C_of_reads (d := (0 : Int)) (h1 := fun _ => rfl) hr1) hc1 h).mono ?_
  rintro e w' ⟨rfl, hd⟩
  exact ⟨rfl, hd⟩

end Go.Proofs.YtkfbdhlfajdpgaaDoor.PHeapWins
