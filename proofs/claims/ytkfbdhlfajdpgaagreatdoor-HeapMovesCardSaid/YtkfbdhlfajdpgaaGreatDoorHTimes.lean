/- times: the closure that calls itself, at the sizes 1, 2, 4, 8, 16; and times itself. -/
import Derived.Test.YtkfbdhlfajdpgaaGreatDoorProg
import Derived.RowKit3
import Derived.Below
import Derived.WalkKit
import Derived.KernelRfl
import Derived.Tactics
import Derived.Test.YtkfbdhlfajdpgaaGreatDoorHSmall
import Derived.OneCell
import Derived.Laws.EntriesVeiled
import Derived.Test.YtkfbdhlfajdpgaaGreatDoorHDrawn
namespace Go.Proofs.YtkfbdhlfajdpgaaGreatDoor.HTimes
set_option linter.unusedVariables false
set_option linter.unusedSimpArgs false
open Go Go.RowKit Go.Shelf

def stepT (P L S : Int) (T : Int → Int → Int) (a b : Int) : Int :=
  bits .xor .i64 (bits .xor .i64 (wrap64 (bits .xor .i64 (T (bits .xor .i64 (a / P) (bits .and .i64 a L)) (bits .xor .i64 (b / P) (bits .and .i64 b L))) (T (bits .and .i64 a L) (bits .and .i64 b L)) * P)) (T (bits .and .i64 a L) (bits .and .i64 b L))) (T (T (a / P) (b / P)) S)
def tm1 (a b : Int) : Int := bits .and .i64 a b
def tm2 : Int → Int → Int := stepT 2 1 1 tm1
def tm4 : Int → Int → Int := stepT 4 3 2 tm2
def tm8 : Int → Int → Int := stepT 16 15 8 tm4
def tm16 : Int → Int → Int := stepT 256 255 128 tm8

theorem t1_in (c : Nat) (a b : Int) (w : World) :
    Calls Tryz.prog 78 #[.int .i64 a, .int .i64 b, .int .i64 1, .pointer (some ⟨c, 0, none⟩)] w fun e w' => e = .returned (.int .i64 (tm1 a b)) ∧ w = w' := by
  go_enter Tryz.func78, Tryz.ntmps78
  go_wp2
  go_ret
  exact ⟨rfl, rfl⟩

theorem t2_in (c : Nat) (a b : Int) (w : World) (hc : w.cell? ⟨c, 0, none⟩ = some (.func (.func 78) #[] #[.pointer (some ⟨c, 0, none⟩)])) :
    Calls Tryz.prog 78 #[.int .i64 a, .int .i64 b, .int .i64 2, .pointer (some ⟨c, 0, none⟩)] w fun e w' => e = .returned (.int .i64 (tm2 a b)) ∧ w = w' := by
  go_enter Tryz.func78, Tryz.ntmps78
  go_wp2_with (go_at_call 78; refine (t1_in c _ _ _).mono ?_; rintro e w' ⟨rfl, rfl⟩)
  go_ret
  exact ⟨rfl, rfl⟩

theorem t4_in (c : Nat) (a b : Int) (w : World) (hc : w.cell? ⟨c, 0, none⟩ = some (.func (.func 78) #[] #[.pointer (some ⟨c, 0, none⟩)])) :
    Calls Tryz.prog 78 #[.int .i64 a, .int .i64 b, .int .i64 4, .pointer (some ⟨c, 0, none⟩)] w fun e w' => e = .returned (.int .i64 (tm4 a b)) ∧ w = w' := by
  go_enter Tryz.func78, Tryz.ntmps78
  go_wp2_with (go_at_call 78; refine (t2_in c _ _ _ hc).mono ?_; rintro e w' ⟨rfl, rfl⟩)
  go_ret
  exact ⟨rfl, rfl⟩

theorem t8_in (c : Nat) (a b : Int) (w : World) (hc : w.cell? ⟨c, 0, none⟩ = some (.func (.func 78) #[] #[.pointer (some ⟨c, 0, none⟩)])) :
    Calls Tryz.prog 78 #[.int .i64 a, .int .i64 b, .int .i64 8, .pointer (some ⟨c, 0, none⟩)] w fun e w' => e = .returned (.int .i64 (tm8 a b)) ∧ w = w' := by
  go_enter Tryz.func78, Tryz.ntmps78
  go_wp2_with (go_at_call 78; refine (t4_in c _ _ _ hc).mono ?_; rintro e w' ⟨rfl, rfl⟩)
  go_ret
  exact ⟨rfl, rfl⟩

theorem t16_in (c : Nat) (a b : Int) (w : World) (hc : w.cell? ⟨c, 0, none⟩ = some (.func (.func 78) #[] #[.pointer (some ⟨c, 0, none⟩)])) :
    Calls Tryz.prog 78 #[.int .i64 a, .int .i64 b, .int .i64 16, .pointer (some ⟨c, 0, none⟩)] w fun e w' => e = .returned (.int .i64 (tm16 a b)) ∧ w = w' := by
  go_enter Tryz.func78, Tryz.ntmps78
  go_wp2_with (go_at_call 78; refine (t8_in c _ _ _ hc).mono ?_; rintro e w' ⟨rfl, rfl⟩)
  go_ret
  exact ⟨rfl, rfl⟩

theorem times_any (a b : Int) (w : World) (h : 2 ≤ a ∧ 2 ≤ b) :
    Calls Tryz.prog 44 #[.int .i64 a, .int .i64 b, .int .i64 16] w fun e w' => e = .returned (.int .i64 (tm16 a b)) ∧ Below w.heap.size w w' := by
  have h1 : decide (a < 2) = false := decide_eq_false (by omega)
  have h2 : decide (b < 2) = false := decide_eq_false (by omega)
  clear h
  go_enter Tryz.func44, Tryz.ntmps44
  have hc2 := cell_of_one (World.alloc_heap_new w (Obj.cells #[Value.func (.func 78) #[] #[.pointer (some ⟨w.heap.size, 0, none⟩)]] 70))
  go_wp2_with (go_at_call 78; refine (t16_in _ _ _ _ hc2).mono ?_; rintro e w' ⟨rfl, rfl⟩)
  go_ret
  exact ⟨rfl, (Below.refl _ w).alloc (Nat.le_refl _) _⟩

theorem times_low (a b c : Int) (w : World) (h : a < 2 ∨ b < 2) :
    Calls Tryz.prog 44 #[.int .i64 a, .int .i64 b, .int .i64 c] w fun e w' => e = .returned (.int .i64 (wrap64 (a * b))) ∧ Below w.heap.size w w' := by
  by_cases ha : a < 2
  · have h1 : decide (a < 2) = true := decide_eq_true ha
    clear h ha
    go_enter Tryz.func44, Tryz.ntmps44
    go_wp2
    go_ret
    exact ⟨rfl, Below.refl _ w⟩
  · have h1 : decide (a < 2) = false := decide_eq_false ha
    have h2 : decide (b < 2) = true := decide_eq_true (h.resolve_left ha)
    clear h ha
    go_enter Tryz.func44, Tryz.ntmps44
    go_wp2
    go_ret
    exact ⟨rfl, Below.refl _ w⟩
end Go.Proofs.YtkfbdhlfajdpgaaGreatDoor.HTimes
