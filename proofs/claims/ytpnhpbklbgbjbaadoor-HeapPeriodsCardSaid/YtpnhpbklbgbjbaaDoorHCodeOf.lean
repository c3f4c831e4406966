/- code makes a code of any string. -/
import Derived.Test.YtpnhpbklbgbjbaaDoorHTop
namespace Go.Proofs.YtpnhpbklbgbjbaaDoor.PHeapPeriods
set_option linter.unusedVariables false
set_option linter.unusedSimpArgs false
open Go Go.RowKit Go.Proofs.YtpnhpbklbgbjbaaDoorW.PrintWords Go.Proofs.YtpnhpbklbgbjbaaDoorW.PrintLast Go.Proofs.YtpnhpbklbgbjbaaDoorW.PrintMore Go.Proofs.YtpnhpbklbgbjbaaDoor.UEv Go.Proofs.YtpnhpbklbgbjbaaDoor.HSpec Go.Proofs.YtpnhpbklbgbjbaaDoor.HCode

def outOf (ds : List UInt8) : ByteArray := ⟨(48 :: 46 :: ds).toArray⟩
theorem outOf_size (ds : List UInt8) : (outOf ds).size = ds.length + 2 := by simp [outOf, ByteArray.size]
theorem outOf_snoc (ds : List UInt8) (b : UInt8) : outOf ds ++ ⟨#[b]⟩ = outOf (ds ++ [b]) := by
  apply ByteArray.ext
  simp [outOf, ByteArray.data_append]
theorem outOf_ok (ds : List UInt8) (h0 : ds ≠ []) (h1 : ds.length ≤ 8) (h : ∀ b ∈ ds, 48 ≤ b.toNat ∧ b.toNat ≤ 55) : okc (outOf ds) := by
  have hl : 0 < ds.length := List.length_pos_iff.2 h0
  have hs := outOf_size ds
  refine ⟨?_, by omega, ?_⟩
  · unfold isCode
    have e : ((outOf ds).extract 2 (outOf ds).size).data.toList = ds := by
      rw [hs, ByteArray.data_extract]
      simp [outOf]
    rw [e]
    simp only [Bool.and_eq_true, decide_eq_true_eq]
    refine ⟨⟨by omega, by omega⟩, List.all_eq_true.2 (fun b hb => ?_)⟩
    simp only [Bool.and_eq_true, decide_eq_true_eq]
    exact h b hb
  · have e : (outOf ds).extract 0 2 = ⟨#[48, 46]⟩ := by
      apply ByteArray.ext
      rw [ByteArray.data_extract]
      apply Array.toList_inj.1
      simp [outOf]
    have e2 : (⟨#[48, 46]⟩ : ByteArray).toList = [48, 46] := by kernel_rfl
    rw [e]
    exact e2

theorem dig_byte (s : ByteArray) (i : Int) : 48 ≤ (UInt8.ofNat ((48 + Int.tmod (bt s i) 8) % 256).toNat).toNat ∧ (UInt8.ofNat ((48 + Int.tmod (bt s i) 8) % 256).toNat).toNat ≤ 55 := by
  have hb : 0 ≤ bt s i := by unfold bt; split <;> omega
  rw [Int.tmod_eq_emod_of_nonneg hb]
  have h1 := Int.emod_nonneg (bt s i) (by decide : (8 : Int) ≠ 0)
  have h2 := Int.emod_lt_of_pos (bt s i) (by decide : (0 : Int) < 8)
  generalize bt s i % 8 = e at *
  rw [Int.emod_eq_of_lt (by omega) (by omega)]
  have : (48 + e).toNat < 256 := by omega
  rw [UInt8.toNat_ofNat']
  rw [Nat.mod_eq_of_lt this]
  omega

theorem code_from (s : ByteArray) (hs : s.size ≤ 9223372036854775807) (dd : Nat) : ∀ (ds : List UInt8), ds.length + dd = 8 → (∀ b ∈ ds, 48 ≤ b.toNat ∧ b.toNat ≤ 55) →
    ∃ c, Evt (fun k => staddalaw06_code.l0 k s (outOf ds) (ds.length : Int)) c ∧ okc c := by
  have fin : ∀ ds : List UInt8, ds.length ≤ 8 → (∀ b ∈ ds, 48 ≤ b.toNat ∧ b.toNat ≤ 55) → ∃ c, (if ((outOf ds).size : Int) = 2 then (if (outOf ds).size + 1 ≤ 9223372036854775807 then (some (outOf ds ++ (⟨#[55]⟩ : ByteArray))) else (none)) else (some (outOf ds))) = some c ∧ okc c := by
    intro ds h1 h2
    have hz := outOf_size ds
    by_cases h : ds.length = 0
    · have h0 : ds = [] := List.length_eq_zero_iff.1 h
      refine ⟨outOf (ds ++ [55]), ?_, outOf_ok _ (by simp) (by simp [h0]) (fun b hb => by rw [h0] at hb; simp at hb; subst hb; decide)⟩
      rw [if_pos (by omega), if_pos (by omega), outOf_snoc]
    · refine ⟨outOf ds, ?_, outOf_ok _ (by intro e; rw [e] at h; simp at h) h1 h2⟩
      rw [if_neg (by omega)]
  induction dd with
  | zero =>
    intro ds hd hall
    obtain ⟨c, h1, h2⟩ := fin ds (by omega) hall
    refine ⟨c, Evt.step (fun k => by rw [staddalaw06_code.l0]) ?_, h2⟩
    by_cases hx : (ds.length : Int) < (s.size : Int)
    · refine Evt.pos hx (Evt.neg (by omega) ?_)
      rw [h1]; exact Evt.const _
    · refine Evt.neg hx ?_
      rw [h1]; exact Evt.const _
  | succ dd ih =>
    intro ds hd hall
    by_cases hx : (ds.length : Int) < (s.size : Int)
    · obtain ⟨c, h1, h2⟩ := ih (ds ++ [UInt8.ofNat ((48 + Int.tmod (bt s (ds.length : Int)) 8) % 256).toNat]) (by simp; omega) (fun b hb => by
        rcases List.mem_append.1 hb with hb | hb
        · exact hall b hb
        · rw [List.mem_singleton.1 hb]; exact dig_byte s _)
      refine ⟨c, Evt.step (fun k => by rw [staddalaw06_code.l0]) ?_, h2⟩
      refine Evt.pos hx (Evt.pos (by omega) (Evt.pos (by omega) ?_))
      refine Evt.bind (Evt.const _) ?_
      have hz := outOf_size ds
      have e1 : strOfNums [(48 + Int.tmod (bt s (ds.length : Int)) 8) % 256] = ⟨#[UInt8.ofNat ((48 + Int.tmod (bt s (ds.length : Int)) 8) % 256).toNat]⟩ := rfl
      rw [e1]
      refine Evt.pos (by rw [hz]; show ds.length + 2 + 1 ≤ _; omega) ?_
      rw [outOf_snoc, w64 (by omega) (by omega)]
      rw [List.length_append, List.length_singleton, show ((ds.length + 1 : Nat) : Int) = (ds.length : Int) + 1 from by omega] at h1
      exact h1
    · obtain ⟨c, h1, h2⟩ := fin ds (by omega) hall
      refine ⟨c, Evt.step (fun k => by rw [staddalaw06_code.l0]) ?_, h2⟩
      refine Evt.neg hx ?_
      rw [h1]; exact Evt.const _

theorem code_ev (s : ByteArray) (hs : s.size ≤ 9223372036854775807) : ∃ c, Evt (fun k => staddalaw06_code.f k s) c ∧ okc c :=
  code_from s hs 8 [] rfl (fun b hb => by simp at hb)

set_option maxRecDepth 1000000 in
theorem awake_true : staddalaw06_awake.f 200 = some true := by kernel_rfl
end Go.Proofs.YtpnhpbklbgbjbaaDoor.PHeapPeriods
