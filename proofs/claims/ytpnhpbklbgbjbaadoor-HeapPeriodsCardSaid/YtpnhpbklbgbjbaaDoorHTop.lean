/- Periods: what the four functions hand back. -/
import Derived.Test.YtpnhpbklbgbjbaaDoorHPer
namespace Go.Proofs.YtpnhpbklbgbjbaaDoor.PHeapPeriods
set_option linter.unusedVariables false
set_option linter.unusedSimpArgs false
open Go Go.RowKit Go.Proofs.YtpnhpbklbgbjbaaDoorW.PrintWords Go.Proofs.YtpnhpbklbgbjbaaDoorW.PrintLast Go.Proofs.YtpnhpbklbgbjbaaDoorW.PrintMore Go.Proofs.YtpnhpbklbgbjbaaDoor.UEv Go.Proofs.YtpnhpbklbgbjbaaDoor.HSpec Go.Proofs.YtpnhpbklbgbjbaaDoor.HCode Go.Proofs.YtpnhpbklbgbjbaaDoor.HValues Go.Proofs.YtpnhpbklbgbjbaaDoor.HList Go.Proofs.YtpnhpbklbgbjbaaDoor.UBits

structure okc (c : ByteArray) : Prop where
  code : isCode c = true
  size : c.size ≤ 10
  head : (c.extract 0 2).toList = [48, 46]

theorem dropWhile_all {α : Type} (p : α → Bool) : ∀ l : List α, (∀ b ∈ l, p b = true) → l.dropWhile p = []
  | [], _ => rfl
  | x :: l, h => by
    rw [List.dropWhile_cons, if_pos (h x (by simp))]
    exact dropWhile_all p l (fun b hb => h b (by simp [hb]))

theorem check_ok {c : ByteArray} (h : okc c) : heap_Check.f c = some 0 := by
  have hc := isCode_of h.code
  have hsz := hc.two
  have hps := hc.pos
  have hle := h.size
  have hP : stringslite_HasPrefix.f c (⟨#[48, 46]⟩ : ByteArray) = some true := by
    unfold stringslite_HasPrefix.f
    have e2 : (⟨#[48, 46]⟩ : ByteArray).size = 2 := rfl
    rw [e2, if_pos (by omega), if_pos (by omega), if_pos (by omega)]
    have : (((2 : Nat) : Int) : Int).toNat = 2 := rfl
    rw [this, h.head]
    exact congrArg some (by kernel_rfl)
  have hC : strings_CutPrefix.f c (⟨#[48, 46]⟩ : ByteArray) = some (c.extract 2 c.size, true) := by
    unfold strings_CutPrefix.f stringslite_CutPrefix.f
    rw [hP]
    simp only [Option.bind_some, if_true]
    have e2 : (⟨#[48, 46]⟩ : ByteArray).size = 2 := rfl
    rw [e2, if_pos (by omega), if_pos (by omega)]
    rfl
  have hex : (c.extract 2 c.size).size = (digs c).length := by rw [ByteArray.size_extract]; omega
  unfold heap_Check.f
  rw [hC]
  simp only [Option.bind_some, if_true]
  rw [if_neg (by omega), if_neg (by omega)]
  have hT : strings_Trim.f (c.extract 2 c.size) (⟨#[48, 49, 50, 51, 52, 53, 54, 55]⟩ : ByteArray) = some ⟨#[]⟩ := by
    unfold strings_Trim.f
    rw [if_pos ⟨by kernel_rfl, of_decide_eq_true (by kernel_rfl), by omega⟩]
    have hall := h.code
    unfold isCode at hall
    simp only [Bool.and_eq_true, decide_eq_true_eq] at hall
    have hall := hall.2
    have hr : Lib.trimRightS (c.extract 2 c.size).data.toList (⟨#[48, 49, 50, 51, 52, 53, 54, 55]⟩ : ByteArray).data.toList = [] := by
      unfold Lib.trimRightS
      rw [List.reverse_eq_nil_iff]
      refine dropWhile_all _ _ (fun b hb => ?_)
      have hb' := List.all_eq_true.1 hall b (List.mem_reverse.1 hb)
      simp only [Bool.and_eq_true, decide_eq_true_eq] at hb'
      have : b = 48 ∨ b = 49 ∨ b = 50 ∨ b = 51 ∨ b = 52 ∨ b = 53 ∨ b = 54 ∨ b = 55 := by
        have e : ∀ n : Nat, b.toNat = n → b = UInt8.ofNat n := fun n hn => by rw [← hn]; simp
        have : b.toNat = 48 ∨ b.toNat = 49 ∨ b.toNat = 50 ∨ b.toNat = 51 ∨ b.toNat = 52 ∨ b.toNat = 53 ∨ b.toNat = 54 ∨ b.toNat = 55 := by omega
        rcases this with h | h | h | h | h | h | h | h
        · exact .inl (e _ h)
        · exact .inr (.inl (e _ h))
        · exact .inr (.inr (.inl (e _ h)))
        · exact .inr (.inr (.inr (.inl (e _ h))))
        · exact .inr (.inr (.inr (.inr (.inl (e _ h)))))
        · exact .inr (.inr (.inr (.inr (.inr (.inl (e _ h))))))
        · exact .inr (.inr (.inr (.inr (.inr (.inr (.inl (e _ h)))))))
        · exact .inr (.inr (.inr (.inr (.inr (.inr (.inr (e _ h)))))))
      rcases this with rfl | rfl | rfl | rfl | rfl | rfl | rfl | rfl <;> exact (show List.contains _ _ = true from by kernel_rfl)
    unfold Lib.trimS
    rw [hr]
    rfl
  rw [hT]
  simp only [Option.bind_some]
  rw [if_pos (by kernel_rfl)]

theorem list_ok {c : ByteArray} (h : okc c) {n : Int} (h0 : 0 ≤ n) (h1 : n ≤ 2000) : heap_list.f c n = some (vals (digs c) n.toNat) := by
  unfold heap_list.f
  rw [if_pos ⟨h.code, h0, by omega⟩]

/-- The period of a code within a limit: both search alike. -/
theorem period_ev {c : ByteArray} (h : okc c) {n : Int} (h0 : 1 ≤ n) (h1 : n ≤ 2000) :
    ∃ x y b, Evt (fun k => staddaref06_Period.f k c n) (x, y, b) ∧ Evt (fun k => heap_Period.f k c n) (x, y, b, (0 : Int)) ∧ (b = true → 0 ≤ x ∧ 1 ≤ y ∧ 2 * x + 3 * y + ((digs c).length : Int) ≤ n ∧ gd (vals (digs c) n.toNat) (digs c).length x y x) := by
  have hc := isCode_of h.code
  have hsz := hc.two
  have hps := hc.pos
  have hle := h.size
  have hl := vals_length (digs c) n.toNat
  obtain ⟨x, y, b, f1, f2, f3⟩ := both_l0 (vals (digs c) n.toNat) (digs c).length n (by omega) (by omega) (by omega) (by omega) (by omega) 3001 1 (by omega) (by omega) (by omega)
  have ed : wrap64 ((c.size : Int) - 2) = ((digs c).length : Int) := by rw [w64 (by omega) (by omega)]; omega
  refine ⟨x, y, b, Evt.of_eq (fun k => by rw [staddaref06_Period.f]) ?_, Evt.of_eq (fun k => by rw [heap_Period.f, check_ok h, Option.bind_some]) ?_, f3⟩
  · refine Evt.bind (rvals_ev c h.code n (by omega) h1) ?_
    rw [ed]; exact f1
  · refine Evt.pos rfl ?_
    refine Evt.neg (by omega) ?_
    rw [decide_eq_false (show ¬ n > 2000 by omega)]
    refine Evt.step (fun k => by rw [heap_Period.j0, list_ok h (by omega) h1, Option.bind_some]) ?_
    refine Evt.neg (by simp) ?_
    rw [ed]; exact f2
theorem period_out {c : ByteArray} (h : okc c) {n : Int} (h0 : n < 1 ∨ 2000 < n) : Evt (fun k => heap_Period.f k c n) (0, 0, false, 1) := by
  refine Evt.of_eq (fun k => by rw [heap_Period.f, check_ok h, Option.bind_some]) ?_
  refine Evt.pos rfl ?_
  have j : Evt (fun k => heap_Period.j0 k c n true) (0, 0, false, 1) := Evt.step (fun k => by rw [heap_Period.j0]) (Evt.pos rfl (Evt.const _))
  by_cases h1 : n < 1
  · exact Evt.pos h1 j
  · refine Evt.neg h1 ?_
    rw [decide_eq_true (show n > 2000 by omega)]
    exact j

noncomputable def isv (c : ByteArray) (n pre per : Int) : Bool :=
  decide (0 ≤ pre ∧ 1 ≤ per ∧ pre ≤ n ∧ per ≤ n) && (decide (2 * pre + 3 * per + ((digs c).length : Int) ≤ n) && gB (vals (digs c) n.toNat) (digs c).length pre per pre)

theorem isPeriod_top {c : ByteArray} (h : okc c) {n : Int} (h0 : 1 ≤ n) (h1 : n ≤ 2000) (pre per : Int) : Evt (fun k => heap_IsPeriod.f k c n pre per) (isv c n pre per) := by
  have hc := isCode_of h.code
  have hsz := hc.two
  have hps := hc.pos
  have hle := h.size
  have hl := vals_length (digs c) n.toNat
  have ed : wrap64 ((c.size : Int) - 2) = ((digs c).length : Int) := by rw [w64 (by omega) (by omega)]; omega
  have jt : ¬ (0 ≤ pre ∧ 1 ≤ per ∧ pre ≤ n ∧ per ≤ n) → Evt (fun k => heap_IsPeriod.j0 k c n pre per true) (isv c n pre per) := fun hn => by
    unfold isv
    rw [decide_eq_false hn, Bool.false_and]
    exact Evt.step (fun k => by rw [heap_IsPeriod.j0]) (Evt.pos rfl (Evt.const _))
  refine Evt.of_eq (fun k => by rw [heap_IsPeriod.f, check_ok h, Option.bind_some]) ?_
  refine Evt.pos rfl ?_
  refine Evt.neg (by omega) ?_
  refine Evt.neg (by omega) ?_
  by_cases a : pre < 0
  · exact Evt.pos a (jt (by omega))
  refine Evt.neg a ?_
  by_cases b : pre > n
  · exact Evt.pos b (jt (by omega))
  refine Evt.neg b ?_
  by_cases e : per < 1
  · exact Evt.pos e (jt (by omega))
  refine Evt.neg e ?_
  by_cases f : per > n
  · rw [decide_eq_true f]; exact jt (by omega)
  rw [decide_eq_false f]
  refine Evt.step (fun k => by rw [heap_IsPeriod.j0, list_ok h (by omega) h1, Option.bind_some]) ?_
  refine Evt.neg (by simp) ?_
  rw [ed]
  refine Evt.bind (isPeriod_ev (vals (digs c) n.toNat) (digs c).length pre per (by omega) (by omega) (by omega) (by omega) (by omega) (by omega) (by omega)) ?_
  have e1 : isv c n pre per = (decide (2 * pre + 3 * per + ((digs c).length : Int) < ((vals (digs c) n.toNat).length : Int)) && gB (vals (digs c) n.toNat) (digs c).length pre per pre) := by
    unfold isv
    rw [decide_eq_true (show 0 ≤ pre ∧ 1 ≤ per ∧ pre ≤ n ∧ per ≤ n by omega), Bool.true_and]
    congr 1
    apply decide_eq_decide.2
    omega
  rw [e1]
  exact Evt.const _
theorem isPeriod_out {c : ByteArray} (h : okc c) {n : Int} (h0 : n < 1 ∨ 2000 < n) (pre per : Int) : Evt (fun k => heap_IsPeriod.f k c n pre per) false := by
  refine Evt.of_eq (fun k => by rw [heap_IsPeriod.f, check_ok h, Option.bind_some]) ?_
  refine Evt.pos rfl ?_
  have j : Evt (fun k => heap_IsPeriod.j0 k c n pre per true) false := Evt.step (fun k => by rw [heap_IsPeriod.j0]) (Evt.pos rfl (Evt.const _))
  by_cases h1 : n < 1
  · exact Evt.pos h1 j
  · refine Evt.neg h1 (Evt.pos (by omega) j)

theorem refIsPeriod {c : ByteArray} (h : okc c) {n : Int} (h0 : 1 ≤ n) (h1 : n ≤ 2000) (pre per : Int) : Evt (fun k => staddaref06_IsPeriod.f k c n pre per) (isv c n pre per) := by
  have hc := isCode_of h.code
  have hsz := hc.two
  have hps := hc.pos
  have hle := h.size
  have hl := vals_length (digs c) n.toNat
  have ed : wrap64 ((c.size : Int) - 2) = ((digs c).length : Int) := by rw [w64 (by omega) (by omega)]; omega
  have jt : ¬ (0 ≤ pre ∧ 1 ≤ per ∧ pre ≤ n ∧ per ≤ n) → Evt (fun k => staddaref06_IsPeriod.j0 k c n pre per ((digs c).length : Int) true) (isv c n pre per) := fun hn => by
    unfold isv
    rw [decide_eq_false hn, Bool.false_and]
    exact Evt.step (fun k => by rw [staddaref06_IsPeriod.j0]) (Evt.pos rfl (Evt.const _))
  refine Evt.of_eq (fun k => by rw [staddaref06_IsPeriod.f, ed]) ?_
  by_cases a : pre < 0
  · exact Evt.pos a (jt (by omega))
  refine Evt.neg a ?_
  by_cases e : per < 1
  · exact Evt.pos e (jt (by omega))
  refine Evt.neg e ?_
  by_cases b : pre > n
  · exact Evt.pos b (jt (by omega))
  refine Evt.neg b ?_
  by_cases f : per > n
  · exact Evt.pos f (jt (by omega))
  refine Evt.neg f ?_
  rw [w64 (x := 2 * pre) (by omega) (by omega), w64 (x := 3 * per) (by omega) (by omega), w64 (x := 2 * pre + 3 * per) (by omega) (by omega), w64 (x := 2 * pre + 3 * per + ((digs c).length : Int)) (by omega) (by omega)]
  by_cases g : 2 * pre + 3 * per + ((digs c).length : Int) > n
  · rw [decide_eq_true g]
    have e1 : isv c n pre per = false := by
      unfold isv
      rw [decide_eq_false (show ¬ 2 * pre + 3 * per + ((digs c).length : Int) ≤ n by omega), Bool.false_and, Bool.and_false]
    rw [e1]
    exact Evt.step (fun k => by rw [staddaref06_IsPeriod.j0]) (Evt.pos rfl (Evt.const _))
  · rw [decide_eq_false g]
    refine Evt.step (fun k => by rw [staddaref06_IsPeriod.j0]) ?_
    refine Evt.neg (by simp) ?_
    refine Evt.bind (rvals_ev c h.code n (by omega) h1) ?_
    refine Evt.bind (goesOn_ev (vals (digs c) n.toNat) (digs c).length pre per (by omega) (by omega) (by omega) (by omega) (by omega)) ?_
    have e1 : isv c n pre per = gB (vals (digs c) n.toNat) (digs c).length pre per pre := by
      unfold isv
      rw [decide_eq_true (show 0 ≤ pre ∧ 1 ≤ per ∧ pre ≤ n ∧ per ≤ n by omega), decide_eq_true (show 2 * pre + 3 * per + ((digs c).length : Int) ≤ n by omega), Bool.true_and, Bool.true_and]
    rw [e1]
    exact Evt.const _

theorem isv_of {c : ByteArray} {n x y : Int} (h : 0 ≤ x ∧ 1 ≤ y ∧ 2 * x + 3 * y + ((digs c).length : Int) ≤ n ∧ gd (vals (digs c) n.toNat) (digs c).length x y x) : isv c n x y = true := by
  unfold isv
  rw [decide_eq_true (show 0 ≤ x ∧ 1 ≤ y ∧ x ≤ n ∧ y ≤ n by omega), decide_eq_true h.2.2.1, gB_true.2 h.2.2.2]
  rfl
end Go.Proofs.YtpnhpbklbgbjbaaDoor.PHeapPeriods
