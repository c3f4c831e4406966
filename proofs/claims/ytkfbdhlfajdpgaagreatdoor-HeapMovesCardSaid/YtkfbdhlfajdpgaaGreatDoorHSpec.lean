/- Plain words for the heap layer: no program in sight. -/
import Derived.WalkKit
namespace Go.Proofs.YtkfbdhlfajdpgaaGreatDoor.HSpec
set_option linter.unusedVariables false
set_option linter.unusedSimpArgs false
open Go

/-- The moves that one digit allows, left stones being what stays when it is used. -/
def prs (left : Int) (k : Nat) : List (Int × Int) := (List.range k).map fun (j : Nat) => ((j : Int) + 1, left - ((j : Int) + 1))
def mvAt (digit left : Int) : List (Int × Int) :=
  if left < 0 then [] else if left = 0 then (if bits .and .i64 digit 1 = 0 then [] else [(0, 0)])
  else (if bits .and .i64 digit 2 = 0 then [] else [(left, 0)]) ++ (if bits .and .i64 digit 4 = 0 then [] else prs left (left / 2).toNat)
def mvs (d : List Int) (m : Int) (k : Nat) : List (Int × Int) := (List.range k).flatMap fun (i : Nat) => mvAt (d[i]?.getD 0) (m - i - 1)
def mv (d : List Int) (m : Int) : List (Int × Int) := mvs d m d.length

theorem prs_succ (left : Int) (k : Nat) : prs left (k + 1) = prs left k ++ [((k : Int) + 1, left - ((k : Int) + 1))] := by simp [prs, List.range_succ]
theorem mvs_succ (d : List Int) (m : Int) (k : Nat) : mvs d m (k + 1) = mvs d m k ++ mvAt (d[k]?.getD 0) (m - k - 1) := by simp [mvs, List.range_succ]
theorem mvs_zero (d : List Int) (m : Int) : mvs d m 0 = [] := rfl
theorem prs_zero (left : Int) : prs left 0 = [] := rfl

/-- What is listed up to k is a beginning of the whole. -/
theorem mvs_pre (d : List Int) (m : Int) {k : Nat} (h : k ≤ d.length) : ∃ rest, mv d m = mvs d m k ++ rest := by
  obtain ⟨j, hj⟩ := Nat.le.dest h
  refine ⟨((List.range j).map (k + ·)).flatMap fun (i : Nat) => mvAt (d[i]?.getD 0) (m - i - 1), ?_⟩
  unfold mv mvs
  rw [← hj, List.range_add, List.flatMap_append]
theorem prs_pre (left : Int) {k n : Nat} (h : k ≤ n) : ∃ rest, prs left n = prs left k ++ rest := by
  obtain ⟨j, rfl⟩ := Nat.le.dest h
  exact ⟨((List.range j).map (k + ·)).map fun (j : Nat) => ((j : Int) + 1, left - ((j : Int) + 1)), by unfold prs; rw [List.range_add, List.map_append]⟩
/-- The next move, from a place inside one digit's list. -/
theorem next_of (d : List Int) (m : Int) {k : Nat} (h : k < d.length) {p r : List (Int × Int)} {x : Int × Int} (e : mvAt (d[k]?.getD 0) (m - k - 1) = p ++ x :: r) :
    ∃ rest, mv d m = (mvs d m k ++ p) ++ x :: rest := by
  obtain ⟨rest, hr⟩ := mvs_pre d m (k := k + 1) h
  exact ⟨r ++ rest, by rw [hr, mvs_succ, e]; simp⟩
theorem mvAt_neg {digit left : Int} (h : left < 0) : mvAt digit left = [] := by simp [mvAt, h]
theorem mvAt_zero0 {digit left : Int} (h : left = 0) (hd : bits .and .i64 digit 1 = 0) : mvAt digit left = [] := by simp [mvAt, h, hd]
theorem mvAt_zero1 {digit left : Int} (h : left = 0) (hd : ¬ bits .and .i64 digit 1 = 0) : mvAt digit left = [(0, 0)] := by simp [mvAt, h, hd]
theorem mvAt_pos {digit left : Int} (h : 0 < left) : mvAt digit left = (if bits .and .i64 digit 2 = 0 then [] else [(left, 0)]) ++ (if bits .and .i64 digit 4 = 0 then [] else prs left (left / 2).toNat) := by
  unfold mvAt; rw [if_neg (by omega), if_neg (by omega)]
end Go.Proofs.YtkfbdhlfajdpgaaGreatDoor.HSpec
