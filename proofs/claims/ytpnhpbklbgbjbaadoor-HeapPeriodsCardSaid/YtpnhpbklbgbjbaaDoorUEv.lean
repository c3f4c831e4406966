/- A fuelled function from some fuel on. -/
import Derived.RowKit
namespace Go.Proofs.YtpnhpbklbgbjbaaDoor.UEv
set_option linter.unusedVariables false
open Go Go.RowKit

def Evt {α : Type} (f : Nat → Option α) (r : α) : Prop := ∃ K, ∀ k, K ≤ k → f k = some r
variable {α β : Type}
theorem Evt.const (r : α) : Evt (fun _ => some r) r := ⟨0, fun _ _ => rfl⟩
theorem Evt.step {f g : Nat → Option α} {r : α} (h : ∀ k, f (k + 1) = g k) (hg : Evt g r) : Evt f r := by
  obtain ⟨K, hK⟩ := hg
  refine ⟨K + 1, fun k hk => ?_⟩
  obtain ⟨j, rfl⟩ : ∃ j, k = j + 1 := ⟨k - 1, by omega⟩
  rw [h]; exact hK j (by omega)
theorem Evt.unstep {f g : Nat → Option α} {r : α} (h : ∀ k, f (k + 1) = g k) (hf : Evt f r) : Evt g r := by
  obtain ⟨K, hK⟩ := hf
  exact ⟨K, fun k hk => by rw [← h]; exact hK (k + 1) (by omega)⟩
theorem Evt.pos {c : Prop} [Decidable c] {f g : Nat → Option α} {r : α} (h : c) (hf : Evt f r) : Evt (fun k => if c then f k else g k) r := by
  simp only [if_pos h]; exact hf
theorem Evt.neg {c : Prop} [Decidable c] {f g : Nat → Option α} {r : α} (h : ¬ c) (hf : Evt g r) : Evt (fun k => if c then f k else g k) r := by
  simp only [if_neg h]; exact hf
theorem Evt.bind {f : Nat → Option α} {a : α} {g : Nat → α → Option β} {r : β} (hf : Evt f a) (hg : Evt (fun k => g k a) r) : Evt (fun k => (f k).bind (g k)) r := by
  obtain ⟨K, hK⟩ := hf
  obtain ⟨L, hL⟩ := hg
  exact ⟨max K L, fun k hk => by simp only [hK k (by omega), Option.bind_some]; exact hL k (by omega)⟩
theorem Evt.uniq {f : Nat → Option α} {a b : α} (h : Evt f a) (g : Evt f b) : a = b := by
  obtain ⟨K, hK⟩ := h
  obtain ⟨L, hL⟩ := g
  exact Option.some.inj ((hK (max K L) (by omega)).symm.trans (hL (max K L) (by omega)))
theorem Evt.of_eq {f g : Nat → Option α} {r : α} (h : ∀ k, f k = g k) (hg : Evt g r) : Evt f r := by
  obtain ⟨K, hK⟩ := hg
  exact ⟨K, fun k hk => by rw [h]; exact hK k hk⟩
theorem Evt.get {f : Nat → Option α} {r : α} (h : Evt f r) : ∃ k, f k = some r := ⟨h.choose, h.choose_spec _ (Nat.le_refl _)⟩
theorem w64 {x : Int} (h1 : -9223372036854775808 ≤ x) (h2 : x ≤ 9223372036854775807) : wrap64 x = x := by unfold wrap64; omega
end Go.Proofs.YtpnhpbklbgbjbaaDoor.UEv
