/- heap.without: the nim sum of heaps. -/
import Derived.Test.YtkfbdhlfajdpgaaGreatDoorHSteps
import Derived.Test.YtkfbdhlfajdpgaaGreatDoorHList
namespace Go.Proofs.YtkfbdhlfajdpgaaGreatDoor.HSteps
set_option linter.unusedVariables false
set_option linter.unusedSimpArgs false
open Go Go.RowKit Go.Shelf Go.Lib Go.Sort Go.Proofs Go.Proofs.YtkfbdhlfajdpgaaGreatDoor.HIter Go.Proofs.YtkfbdhlfajdpgaaGreatDoor.HSpec Go.Proofs.YtkfbdhlfajdpgaaGreatDoor.HNim Go.Proofs.YtkfbdhlfajdpgaaGreatDoor.HRowOps

theorem wsum_take (V hs : List Int) (k : Nat) (hk : k < hs.length) : wsum V (hs.take (k + 1)) = xr (wsum V (hs.take k)) (at0 V (hs[k]?.getD 0)) := by
  unfold wsum
  rw [List.take_add_one, List.getElem?_eq_getElem hk, List.foldl_append]
  rfl

set_option maxHeartbeats 2000000 in
theorem without_any (b off c gv cv : Nat) (V hs : List Int) (w : World) (hl : hs.length ≤ 1000) (hr : ∀ x ∈ hs, 0 ≤ x ∧ x < V.length) (hV : V.length ≤ 100000)
    (hc : ∀ j, j < hs.length → w.cell? ⟨b, off + j, none⟩ = some (iv (hs[j]?.getD 0))) (hv : ∀ j, j < V.length → w.cell? ⟨gv, j, none⟩ = some (iv (V[j]?.getD 0))) :
    Calls Tryz.prog 13 #[.slice (some ⟨gv, 0, none⟩) V.length cv, .slice (some ⟨b, off, none⟩) hs.length c] w fun e w' => e = .returned (iv (wsum V hs)) ∧ w' = w := by
  obtain ⟨r, hr'⟩ : ∃ r, wsum V hs = r := ⟨_, rfl⟩
  rw [hr']
  have HR := Lib.hid hr'
  have HC := Lib.hid hc
  have HV := Lib.hid hv
  have HX := Lib.hid hr
  clear hr' hc hv hr
  go_enter Tryz.func13, Tryz.ntmps13
  go_wp2
  go_loopg [5, 10] hs.length (fun gg s5 s10 wr => ∃ k : Nat, k ≤ hs.length ∧ hs.length - k ≤ gg ∧ s10 = .int .i64 k ∧ wr = w ∧ s5 = iv (wsum V (hs.take k)))
  case atStart => exact ⟨0, Nat.zero_le _, by omega, rfl, rfl, rfl⟩
  case round =>
    obtain ⟨k, hk1, hg, rfl, rfl, rfl⟩ := hrel
    by_cases hlt : k < hs.length
    · have ca := HC.out k hlt
      have hw := wsum_take V hs k hlt
      have hx := HX.out (hs[k]?.getD 0) (by rw [List.getElem?_eq_getElem hlt]; exact List.getElem_mem hlt)
      generalize hy : hs[k]?.getD 0 = x at ca hw hx
      obtain ⟨x, rfl⟩ := Int.eq_ofNat_of_zero_le hx.1
      have hx1 : x < V.length := by omega
      have cv := HV.out x hx1
      have e1 : at0 V (x : Int) = V[x]?.getD 0 := by unfold at0; rw [Int.toNat_natCast, List.getD_eq_getElem?_getD]
      rw [e1] at hw
      generalize V[x]?.getD 0 = vx at cv hw
      generalize wsum V (hs.take k) = acc at hw ⊢
      have HW := Lib.hid (show wsum V (hs.take (k + 1)) = bits .xor .i64 acc vx from hw)
      clear hw hx hy e1
      go_wp2
      go_roundg (hs.length - (k + 1))
      case measure => omega
      case rel => exact ⟨k + 1, by omega, Nat.le_refl _, by go_num, rfl, by rw [HW.out]⟩
    · obtain rfl : k = hs.length := by omega
      have e := HR.out
      rw [← List.take_length (l := hs)] at e
      rw [e]
      clear e
      go_wp2
      go_ret
      exact ⟨rfl, rfl⟩
end Go.Proofs.YtkfbdhlfajdpgaaGreatDoor.HSteps
