/- Small contracts of the heap layer: the first mark that is not set; moves' closure is made. -/
import Derived.Test.YtkfbdhlfajdpgaaGreatDoorHMoves
import Derived.Laws.Rows
namespace Go.Proofs.YtkfbdhlfajdpgaaGreatDoor.HSmall
set_option linter.unusedVariables false
set_option linter.unusedSimpArgs false
open Go Go.RowKit Go.Shelf Go.Proofs.YtkfbdhlfajdpgaaGreatDoor.HIter Go.Proofs.YtkfbdhlfajdpgaaGreatDoor.HSpec Go.Proofs.YtkfbdhlfajdpgaaGreatDoor.HMoves
attribute [local go_sem] Oper.semAt_some

set_option maxRecDepth 100000 in
set_option maxHeartbeats 1000000 in
/-- slices.Index of false in a row of marks: the first one. -/
theorem index_false (b len c : Nat) (l : Nat → Bool) (w : World) (k : Nat) (hlen : len ≤ 1000000) (hk : k < len) (hf : l k = false) (ht : ∀ j, j < k → l j = true)
    (hc : ∀ j, j < len → w.cell? ⟨b, 0 + j, none⟩ = some (.bool (l j))) :
    Calls Tryz.prog 84 #[.slice (some ⟨b, 0, none⟩) len c, .bool false] w fun e w' => e = .returned (.int .i64 k) ∧ w = w' := by
  have Hc := Lib.hid hc
  have Ht := Lib.hid ht
  have Hf := Lib.hid hf
  clear hc ht hf
  go_enter Tryz.func84, Tryz.ntmps84
  go_wp2
  go_loop [8] (fun i => ∃ j : Nat, j ≤ k ∧ i = .int .i64 j) (fun i => k + 1 - (intOf i).toNat)
  case atStart => exact ⟨0, Nat.zero_le _, rfl⟩
  case round =>
    obtain ⟨j, hj, rfl⟩ := hrel
    have hcell := Hc.out j (by omega)
    by_cases e : j = k
    · subst e
      rw [Hf.out] at hcell
      rw [Nat.zero_add] at hcell
      go_wp2
      go_ret
      exact ⟨rfl, rfl⟩
    · rw [Ht.out j (by omega)] at hcell
      rw [Nat.zero_add] at hcell
      have hlt : j < k := by omega
      go_wp2
      go_round
      case rel => exact ⟨j + 1, by omega, by go_num⟩
      case measure => simp [intOf]; omega

set_option maxHeartbeats 1000000 in
theorem missing_any (B : Nat) (l : Nat → Bool) (w : World) (k : Nat) (hk : k < 8192) (hf : l k = false) (ht : ∀ j, j < k → l j = true)
    (hc : ∀ j, j < 8192 → w.cell? ⟨B, 0 + j, none⟩ = some (.bool (l j))) :
    Calls Tryz.prog 57 #[.pointer (some ⟨B, 0, none⟩)] w fun e w' => e = .returned (.int .i64 k) ∧ w = w' := by
  have Hc := Lib.hid hc
  have Ht := Lib.hid ht
  have Hf := Lib.hid hf
  clear hc ht hf
  go_enter Tryz.func57, Tryz.ntmps57
  go_wp2_with (go_at_call 84; refine (index_false _ 8192 _ l _ k (by omega) hk Hf.out Ht.out Hc.out).mono ?_; rintro e w' ⟨rfl, rfl⟩)
  go_ret
  exact ⟨rfl, rfl⟩

set_option maxHeartbeats 1000000 in
/-- moves(d, n): two boxes, and the closure over them. -/
theorem moves_any (a : Option Addr) (len c : Nat) (m : Int) (w : World) :
    Calls Tryz.prog 14 #[.slice a len c, .int .i64 m] w fun e w' =>
      e = .returned (.func (.func 38) #[] #[.pointer (some ⟨w.heap.size, 0, none⟩), .pointer (some ⟨w.heap.size + 1, 0, none⟩)]) ∧ (w.alloc (.cells #[.slice a len c] 22)).alloc (.cells #[.int .i64 m] 3) = w' := by
  go_enter Tryz.func14, Tryz.ntmps14
  go_wp2
  go_ret
  exact ⟨rfl, rfl⟩

/-- The closure of moves is an iterator over all moves. -/
theorem moves_seq (F : Fence) (n : Nat) (hF : ∀ f, F.fn f) (hro : F.round = none) (hn : F.depth = none) (Bd Bn b off c : Nat) (d : List Int) (m : Int) (hm0 : 0 ≤ m) (hm1 : m ≤ 1000000) (hd : d.length ≤ 1000) :
    SeqF F n Tryz.prog 38 #[.pointer (some ⟨Bd, 0, none⟩), .pointer (some ⟨Bn, 0, none⟩)] (fun x : Int × Int => #[.int .i64 x.1, .int .i64 x.2]) (fun pre x => ∃ rest, mv d m = pre ++ x :: rest) (fun xs => xs = mv d m) none
      (OwnM Bd Bn b off c d m) :=
  fun l J Jx D W _ _ _ _ _ hY hO h0 => moves1_in F n hF hro hn l Bd Bn b off c d m hm0 hm1 hd J Jx hY D W hO h0
end Go.Proofs.YtkfbdhlfajdpgaaGreatDoor.HSmall
