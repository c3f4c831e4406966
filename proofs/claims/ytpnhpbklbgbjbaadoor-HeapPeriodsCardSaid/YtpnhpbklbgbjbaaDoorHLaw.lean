/- The law HeapPeriods: the walk. -/
import Derived.Test.YtpnhpbklbgbjbaaDoorHCodeOf
namespace Go.Proofs.YtpnhpbklbgbjbaaDoor.PHeapPeriods
set_option linter.unusedVariables false
set_option linter.unusedSimpArgs false
open Go Go.RowKit Go.Proofs.YtpnhpbklbgbjbaaDoorW.PrintWords Go.Proofs.YtpnhpbklbgbjbaaDoorW.PrintLast Go.Proofs.YtpnhpbklbgbjbaaDoorW.PrintMore Go.Proofs.YtpnhpbklbgbjbaaDoor.UEv Go.Proofs.YtpnhpbklbgbjbaaDoor.HSpec Go.Proofs.YtpnhpbklbgbjbaaDoor.HCode

/-- The pair of numbers in its block, from world to world. -/
structure Pr (B : Nat) (w w1 : World) (x y : Int) : Prop where
  blk : w1.heap[B]? = some (.cells #[.int .i64 x, .int .i64 y] 22 (0, 0))
  low : Below w.heap.size w w1
theorem Pr.blk0 {B : Nat} {w w1 : World} {x y : Int} (h : Pr B w w1 x y) (u : Int) : (w1.setCell ⟨B, 0, none⟩ (.int .i64 u)).heap[B]? = some (.cells #[.int .i64 u, .int .i64 y] 22 (0, 0)) := by
  show (w1.heap.modify B _)[B]? = _
  rw [Array.getElem?_modify, if_pos rfl, h.blk]
  rfl
theorem Pr.set {B : Nat} {w w1 : World} {x y : Int} (h : Pr B w w1 x y) (hB : w.heap.size ≤ B) (u v : Int) : Pr B w ((w1.setCell ⟨B, 0, none⟩ (.int .i64 u)).setCell ⟨B, 1, none⟩ (.int .i64 v)) u v := by
  refine ⟨?_, (h.low.setCell (by simpa using hB) _).setCell (by simpa using hB) _⟩
  have h1 := h.blk0 u
  obtain ⟨w2, hw2⟩ : ∃ w2, w1.setCell ⟨B, 0, none⟩ (.int .i64 u) = w2 := ⟨_, rfl⟩
  rw [hw2] at h1 ⊢
  show (w2.heap.modify B _)[B]? = _
  rw [Array.getElem?_modify, if_pos rfl, h1]
  rfl
theorem Pr.f0 {B : Nat} {w w1 : World} {x y : Int} (h : Pr B w w1 x y) : w1.frozen? ⟨B, 0, none⟩ = false := by simp [World.frozen?, h.blk]
theorem Pr.f1 {B : Nat} {w w1 : World} {x y : Int} (h : Pr B w w1 x y) (u : Int) : (w1.setCell ⟨B, 0, none⟩ (.int .i64 u)).frozen? ⟨B, 1, none⟩ = false := by
  have h1 : (w1.setCell ⟨B, 0, none⟩ (.int .i64 u)).heap[B]? = some (.cells #[.int .i64 u, .int .i64 y] 22 (0, 0)) := by
    show (w1.heap.modify B _)[B]? = _
    rw [Array.getElem?_modify, if_pos rfl, h.blk]
    rfl
  simp [World.frozen?, h1]
theorem Pr.next {B : Nat} {w w1 w2 : World} {x y : Int} (h : Pr B w w1 x y) (hb : Below w1.heap.size w1 w2) : Pr B w w2 x y :=
  ⟨(hb.block B (Array.getElem?_eq_some_iff.1 h.blk).1).trans h.blk, below_step h.low hb⟩
theorem Pr.c0 {B : Nat} {w w1 : World} {x y : Int} (h : Pr B w w1 x y) : w1.cell? ⟨B, 0, none⟩ = some (.int .i64 x) := by simp [World.cell?, h.blk]
theorem Pr.c1 {B : Nat} {w w1 : World} {x y : Int} (h : Pr B w w1 x y) : w1.cell? ⟨B, 1, none⟩ = some (.int .i64 y) := by simp [World.cell?, h.blk]

set_option maxRecDepth 100000 in
set_option maxHeartbeats 4000000 in
theorem law_walk (s : ByteArray) (hs : s.size ≤ 9223372036854775807) (n a b : Int) (w : World) :
    Calls Tryd.prog 3 #[.string s, .int .i64 n, .agg #[.int .i64 a, .int .i64 b]] w fun e w' => e = .returned (.bool true) ∧ Below w.heap.size w w' := by
  obtain ⟨c, hc1, hc2⟩ := code_ev s hs
  obtain ⟨k0, hc1⟩ := hc1.get
  have HC1 := Lib.hid hc1
  have HC2 := Lib.hid hc2
  clear hc1 hc2
  go_enter Tryd.func3, Tryd.ntmps3
  go_wp2_with (go_at_call 5; refine (staddalaw06_code.calls k0 s c _ HC1.out).mono ?_; rintro e w1 ⟨rfl, hb1⟩)
  have hB1 := (hb1.block w.heap.size (by simp)).trans (World.alloc_heap_new w (Obj.cells #[Value.int IntKind.i64 a, Value.int IntKind.i64 b] 22))
  have hw1 : Below w.heap.size w w1 := below_step ((Below.refl _ w).alloc (Nat.le_refl _) _) hb1
  have hz1 : w.heap.size < w1.heap.size := (Array.getElem?_eq_some_iff.1 hB1).1
  have HB := Lib.hid (And.intro hB1 hw1)
  clear hb1 hB1 hw1
  go_loopg [1, 8] 3 (fun kq v1 v8 w' => ∃ (n' a' b' : Int) (i : Nat), v1 = .int .i64 n' ∧ v8 = .int .i64 (i : Int) ∧ Hid (kq + i = 3 ∧ w'.heap[w.heap.size]? = some (.cells #[.int .i64 a', .int .i64 b'] 22 (0, 0)) ∧ Below w.heap.size w w'))
  case atStart => exact ⟨n, a, b, 0, rfl, rfl, rfl, HB.out.1, HB.out.2⟩
  case round =>
    clear HB hz1
    obtain ⟨n', a', b', i, rfl, rfl, HR⟩ := hrel
    by_cases hi : i < 3
    · have hid : decide ((i : Int) < 3) = true := decide_eq_true (by omega)
      obtain ⟨gk, rfl⟩ : ∃ g, gk = g + 1 := ⟨gk - 1, by have := HR.out.1; omega⟩
      have HB1 : Pr w.heap.size w wr a' b' := ⟨HR.out.2.1, HR.out.2.2⟩
      by_cases hout : n' < 1 ∨ 2000 < n'
      · obtain ⟨kp, hp⟩ := (period_out HC2.out hout).get
        obtain ⟨ki, hI⟩ := (isPeriod_out HC2.out hout a' b').get
        have HP := Lib.hid hp
        have HI := Lib.hid hI
        clear hp hI
        by_cases h1 : n' < 1
        · have g1 : decide (n' < 1) = true := decide_eq_true h1
          clear h1 hout
          go_wp2_with (first | (go_at_call 6; refine (heap_Period.calls _ _ _ _ _ _ _ _ HP.out).mono ?_; rintro e w2 ⟨rfl, hb2⟩; have HB2 := HB1.next hb2; clear hb2; have d0 := HB2.c0; have d1 := HB2.c1) | (go_at_call 7; refine (heap_IsPeriod.calls _ _ _ _ _ _ _ HI.out).mono ?_; rintro e w3 ⟨rfl, hb3⟩; have HB3 := HB2.next hb3; clear hb3; have d0 := HB3.c0; have d1 := HB3.c1; have e0 := HB3.f0; have e1 := HB3.f1))
          go_roundg gk
          case measure => omega
          case rel => exact ⟨_, _, _, i + 1, rfl, rfl, ⟨by have := HR.out.1; omega, (HB3.set (Nat.le_refl _) _ _).blk, (HB3.set (Nat.le_refl _) _ _).low⟩⟩
        · have g1 : decide (n' < 1) = false := decide_eq_false h1
          have g2 : decide (2000 < n') = true := decide_eq_true (hout.resolve_left h1)
          clear h1 hout
          go_wp2_with (first | (go_at_call 6; refine (heap_Period.calls _ _ _ _ _ _ _ _ HP.out).mono ?_; rintro e w2 ⟨rfl, hb2⟩; have HB2 := HB1.next hb2; clear hb2; have d0 := HB2.c0; have d1 := HB2.c1) | (go_at_call 7; refine (heap_IsPeriod.calls _ _ _ _ _ _ _ HI.out).mono ?_; rintro e w3 ⟨rfl, hb3⟩; have HB3 := HB2.next hb3; clear hb3; have d0 := HB3.c0; have d1 := HB3.c1; have e0 := HB3.f0; have e1 := HB3.f1))
          go_roundg gk
          case measure => omega
          case rel => exact ⟨_, _, _, i + 1, rfl, rfl, ⟨by have := HR.out.1; omega, (HB3.set (Nat.le_refl _) _ _).blk, (HB3.set (Nat.le_refl _) _ _).low⟩⟩
      · have g1 : decide (n' < 1) = false := decide_eq_false (by omega)
        have g2 : decide (2000 < n') = false := decide_eq_false (by omega)
        obtain ⟨x, y, b, f1, f2, f3⟩ := period_ev HC2.out (n := n') (by omega) (by omega)
        obtain ⟨kp, hp⟩ := f2.get
        obtain ⟨ki, hI⟩ := (isPeriod_top HC2.out (n := n') (by omega) (by omega) a' b').get
        have HP := Lib.hid hp
        have HI := Lib.hid hI
        have HF3 := Lib.hid f3
        clear hp hI f2 f3
        by_cases h3 : n' ≤ 300
        · have g3 : decide (n' ≤ 300) = true := decide_eq_true h3
          obtain ⟨kq, hq⟩ := f1.get
          obtain ⟨kj, hj⟩ := (refIsPeriod HC2.out (n := n') (by omega) (by omega) a' b').get
          have HQ := Lib.hid hq
          have HJ := Lib.hid hj
          obtain ⟨v, hv⟩ : ∃ v, isv c n' a' b' = v := ⟨_, rfl⟩
          rw [hv] at HI HJ
          have q1 : (x != x) = false := by simp
          have q2 : (y != y) = false := by simp
          have q3 : (b != b) = false := by simp
          have q4 : (v != v) = false := by simp
          clear hq hj f1 h3 hout hv
          go_wp2_with (first | (go_at_call 6; refine (heap_Period.calls _ _ _ _ _ _ _ _ HP.out).mono ?_; rintro e w2 ⟨rfl, hb2⟩; have HB2 := HB1.next hb2; clear hb2; have d0 := HB2.c0; have d1 := HB2.c1) | (go_at_call 7; refine (heap_IsPeriod.calls _ _ _ _ _ _ _ HI.out).mono ?_; rintro e w3 ⟨rfl, hb3⟩; have HB3 := HB2.next hb3; clear hb3; have d0 := HB3.c0; have d1 := HB3.c1; have e0 := HB3.f0; have e1 := HB3.f1) | (go_at_call 8; refine (staddaref06_Period.calls _ _ _ _ _ _ _ HQ.out).mono ?_; rintro e w4 ⟨rfl, hb4⟩; have HB4 := HB3.next hb4; clear hb4; have d0 := HB4.c0; have d1 := HB4.c1) | (go_at_call 9; refine (staddaref06_IsPeriod.calls _ _ _ _ _ _ _ HJ.out).mono ?_; rintro e w5 ⟨rfl, hb5⟩; have HB5 := HB4.next hb5; clear hb5; have d0 := HB5.c0; have d1 := HB5.c1; have e0 := HB5.f0; have e1 := HB5.f1))
          go_roundg gk
          case measure => omega
          case rel => exact ⟨_, _, _, i + 1, rfl, rfl, ⟨by have := HR.out.1; omega, (HB5.set (Nat.le_refl _) _ _).blk, (HB5.set (Nat.le_refl _) _ _).low⟩⟩
        · have g3 : decide (n' ≤ 300) = false := decide_eq_false h3
          cases b with
          | false =>
            clear f1 h3 hout
            go_wp2_with (first | (go_at_call 6; refine (heap_Period.calls _ _ _ _ _ _ _ _ HP.out).mono ?_; rintro e w2 ⟨rfl, hb2⟩; have HB2 := HB1.next hb2; clear hb2; have d0 := HB2.c0; have d1 := HB2.c1) | (go_at_call 7; refine (heap_IsPeriod.calls _ _ _ _ _ _ _ HI.out).mono ?_; rintro e w3 ⟨rfl, hb3⟩; have HB3 := HB2.next hb3; clear hb3; have d0 := HB3.c0; have d1 := HB3.c1; have e0 := HB3.f0; have e1 := HB3.f1))
            go_roundg gk
            case measure => omega
            case rel => exact ⟨_, _, _, i + 1, rfl, rfl, ⟨by have := HR.out.1; omega, (HB3.set (Nat.le_refl _) _ _).blk, (HB3.set (Nat.le_refl _) _ _).low⟩⟩
          | true =>
            obtain ⟨kj, hj⟩ := (refIsPeriod HC2.out (n := n') (by omega) (by omega) x y).get
            rw [isv_of (HF3.out rfl)] at hj
            have HJ := Lib.hid hj
            clear f1 h3 hout hj
            go_wp2_with (first | (go_at_call 6; refine (heap_Period.calls _ _ _ _ _ _ _ _ HP.out).mono ?_; rintro e w2 ⟨rfl, hb2⟩; have HB2 := HB1.next hb2; clear hb2; have d0 := HB2.c0; have d1 := HB2.c1) | (go_at_call 7; refine (heap_IsPeriod.calls _ _ _ _ _ _ _ HI.out).mono ?_; rintro e w3 ⟨rfl, hb3⟩; have HB3 := HB2.next hb3; clear hb3; have d0 := HB3.c0; have d1 := HB3.c1; have e0 := HB3.f0; have e1 := HB3.f1) | (go_at_call 9; refine (staddaref06_IsPeriod.calls _ _ _ _ _ _ _ HJ.out).mono ?_; rintro e w5 ⟨rfl, hb5⟩; have HB5 := HB3.next hb5; clear hb5; have d0 := HB5.c0; have d1 := HB5.c1; have e0 := HB5.f0; have e1 := HB5.f1))
            go_roundg gk
            case measure => omega
            case rel => exact ⟨_, _, _, i + 1, rfl, rfl, ⟨by have := HR.out.1; omega, (HB5.set (Nat.le_refl _) _ _).blk, (HB5.set (Nat.le_refl _) _ _).low⟩⟩
    · have hid : decide ((i : Int) < 3) = false := decide_eq_false (by omega)
      clear hi
      go_wp2_with (go_at_call 10; refine (staddalaw06_awake.calls 200 true _ awake_true).mono ?_; rintro e w1 ⟨rfl, hb1⟩)
      go_ret
      exact ⟨rfl, below_step HR.out.2.2 hb1⟩
end Go.Proofs.YtpnhpbklbgbjbaaDoor.PHeapPeriods
