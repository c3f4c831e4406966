/- slices.Compare of two rows of numbers. -/
import Derived.Test.YtkfbdhlfajdpgaaGreatDoorHNim
import Derived.Test.YtkfbdhlfajdpgaaGreatDoorHMoves
import Derived.Test.YtkfbdhlfajdpgaaGreatDoorHRowOps
import Derived.Deep.Draws
import Derived.Deep.LoopGhost
namespace Go.Proofs.YtkfbdhlfajdpgaaGreatDoor.HCompare
set_option linter.unusedVariables false
set_option linter.unusedSimpArgs false
open Go Go.RowKit Go.Shelf Go.Proofs.YtkfbdhlfajdpgaaGreatDoor.HNim Go.Proofs

def RI (W : World) (g : Nat) (l : List Int) : Prop := ∀ j, j < l.length → W.cell? ⟨g, j, none⟩ = some (.int .i64 (l[j]?.getD 0))

theorem cmpL_at (a b : List Int) : ∀ k : Nat, k ≤ a.length → k ≤ b.length → (∀ j, j < k → a[j]?.getD 0 = b[j]?.getD 0) → cmpL a b = cmpL (a.drop k) (b.drop k) := by
  intro k
  induction k with
  | zero => intros; simp
  | succ k ih =>
    intro ha hb h
    rw [ih (by omega) (by omega) (fun j hj => h j (by omega))]
    have e1 : a.drop k = a[k]?.getD 0 :: a.drop (k + 1) := by rw [List.drop_eq_getElem_cons (by omega), List.getElem?_eq_getElem (by omega)]; rfl
    have e2 : b.drop k = b[k]?.getD 0 :: b.drop (k + 1) := by rw [List.drop_eq_getElem_cons (by omega), List.getElem?_eq_getElem (by omega)]; rfl
    have := h k (by omega)
    rw [e1, e2, cmpL, if_neg (by omega), if_neg (by omega)]

set_option maxHeartbeats 4000000 in
set_option maxRecDepth 100000 in
theorem cmp_calls (x y : Int) (w : World) : Calls Tryz.prog 42 #[.int .i64 x, .int .i64 y] w fun e w' => e = .returned (.int .i64 (if x < y then -1 else if y < x then 1 else 0)) ∧ w' = w := by
  by_cases h1 : x < y
  · rw [if_pos h1]
    go_enter Tryz.func42, Tryz.ntmps42
    go_wp2
    go_ret
    exact ⟨rfl, rfl⟩
  · rw [if_neg h1]
    by_cases h2 : y < x
    · rw [if_pos h2]
      go_enter Tryz.func42, Tryz.ntmps42
      go_wp2
      go_ret
      exact ⟨rfl, rfl⟩
    · rw [if_neg h2]
      go_enter Tryz.func42, Tryz.ntmps42
      go_wp2
      go_ret
      exact ⟨rfl, rfl⟩

set_option maxHeartbeats 4000000 in
set_option maxRecDepth 100000 in
theorem compare_calls (a b : List Int) (g1 c1 g2 c2 : Nat) (w : World) (ha : a.length ≤ 1000000) (hb : b.length ≤ 1000000) (r1 : RI w g1 a) (r2 : RI w g2 b) :
    Calls Tryz.prog 22 #[.slice (some ⟨g1, 0, none⟩) a.length c1, .slice (some ⟨g2, 0, none⟩) b.length c2] w fun e w' => e = .returned (.int .i64 (cmpL a b)) ∧ w' = w := by
  obtain ⟨r, hr⟩ : ∃ r, cmpL a b = r := ⟨_, rfl⟩
  rw [hr]
  have HR := Lib.hid hr
  clear hr
  go_enter Tryz.func22, Tryz.ntmps22
  go_wp2
  go_loopg [11] a.length (fun gg s wr => ∃ k : Nat, k ≤ a.length ∧ k ≤ b.length ∧ a.length - k ≤ gg ∧ s = .int .i64 k ∧ wr = w ∧ Hid (∀ j, j < k → a[j]?.getD 0 = b[j]?.getD 0))
  case atStart => exact ⟨0, Nat.zero_le _, Nat.zero_le _, by omega, rfl, rfl, fun j hj => by omega⟩
  case round =>
    obtain ⟨k, hk1, hk2, hg, rfl, rfl, HE⟩ := hrel
    by_cases hlt : k < a.length
    · by_cases hlb : k < b.length
      · have ca := r1 k hlt
        have cb := r2 k hlb
        have e0 := cmpL_at a b k hk1 hk2 HE.out
        have e1 : a.drop k = a[k]?.getD 0 :: a.drop (k + 1) := by rw [List.drop_eq_getElem_cons (by omega), List.getElem?_eq_getElem (by omega)]; rfl
        have e2 : b.drop k = b[k]?.getD 0 :: b.drop (k + 1) := by rw [List.drop_eq_getElem_cons (by omega), List.getElem?_eq_getElem (by omega)]; rfl
        rw [e1, e2, cmpL] at e0
        clear e1 e2
        generalize hx : a[k]?.getD 0 = x at ca e0
        generalize hy : b[k]?.getD 0 = y at cb e0
        have HXY := Lib.hid (show a[k]?.getD 0 = x ∧ b[k]?.getD 0 = y from ⟨hx, hy⟩)
        clear hx hy
        have hc := cmp_calls x y wr
        by_cases h1 : x < y
        · rw [if_pos h1] at hc e0
          have E0 := Lib.hid e0
          clear e0
          go_wp2_with (go_at_call 42; refine hc.mono ?_; rintro e w' ⟨rfl, rfl⟩)
          go_ret
          exact ⟨by rw [← HR.out, E0.out]; rfl, rfl⟩
        · rw [if_neg h1] at hc e0
          by_cases h2 : y < x
          · rw [if_pos h2] at hc e0
            have E0 := Lib.hid e0
            clear e0
            go_wp2_with (go_at_call 42; refine hc.mono ?_; rintro e w' ⟨rfl, rfl⟩)
            go_ret
            exact ⟨by rw [← HR.out, E0.out]; rfl, rfl⟩
          · rw [if_neg h2] at hc
            clear e0
            go_wp2_with (go_at_call 42; refine hc.mono ?_; rintro e w' ⟨rfl, rfl⟩)
            go_roundg (a.length - (k + 1))
            case measure => omega
            case rel =>
              refine ⟨k + 1, by omega, by omega, Nat.le_refl _, by go_num, rfl, (show Hid _ from fun j hj => ?_)⟩
              by_cases e : j = k
              · subst e
                rw [HXY.out.1, HXY.out.2]; omega
              · exact HE.out j (by omega)
      · have hbe : b.length = k := by omega
        have ca := r1 k hlt
        have e0 := cmpL_at a b k hk1 hk2 HE.out
        have e2 : b.drop k = [] := List.drop_eq_nil_of_le (by omega)
        have e1 : a.drop k = a[k]?.getD 0 :: a.drop (k + 1) := by rw [List.drop_eq_getElem_cons (by omega), List.getElem?_eq_getElem (by omega)]; rfl
        rw [e1, e2, cmpL] at e0
        have E0 := Lib.hid e0
        clear e0 e1 e2
        go_wp2
        go_ret
        exact ⟨by rw [← HR.out, E0.out]; rfl, rfl⟩
    · have hae : k = a.length := by omega
      have e0 := cmpL_at a b k hk1 hk2 HE.out
      have e1 : a.drop k = [] := List.drop_eq_nil_of_le (by omega)
      rw [e1] at e0
      subst hae
      by_cases hlb : a.length < b.length
      · have e2 : b.drop a.length = b[a.length]?.getD 0 :: b.drop (a.length + 1) := by rw [List.drop_eq_getElem_cons (by omega), List.getElem?_eq_getElem (by omega)]; rfl
        rw [e2, cmpL] at e0
        have E0 := Lib.hid e0
        clear e0 e1 e2
        go_wp2
        go_ret
        exact ⟨by rw [← HR.out, E0.out]; rfl, rfl⟩
      · have e2 : b.drop a.length = [] := List.drop_eq_nil_of_le (by omega)
        rw [e2, cmpL] at e0
        have E0 := Lib.hid e0
        clear e0 e1 e2
        go_wp2
        go_ret
        exact ⟨by rw [← HR.out, E0.out]; rfl, rfl⟩
end Go.Proofs.YtkfbdhlfajdpgaaGreatDoor.HCompare
