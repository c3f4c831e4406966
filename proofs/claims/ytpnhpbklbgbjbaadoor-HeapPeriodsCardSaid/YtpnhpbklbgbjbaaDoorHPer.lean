/- Periods, plain. -/
import Derived.Test.YtpnhpbklbgbjbaaDoorHRefVals
namespace Go.Proofs.YtpnhpbklbgbjbaaDoor.PHeapPeriods
set_option linter.unusedVariables false
set_option linter.unusedSimpArgs false
open Go Go.RowKit Go.Proofs.YtpnhpbklbgbjbaaDoorW.PrintWords Go.Proofs.YtpnhpbklbgbjbaaDoorW.PrintLast Go.Proofs.YtpnhpbklbgbjbaaDoorW.PrintMore Go.Proofs.YtpnhpbklbgbjbaaDoor.UEv Go.Proofs.YtpnhpbklbgbjbaaDoor.HSpec Go.Proofs.YtpnhpbklbgbjbaaDoor.HCode Go.Proofs.YtpnhpbklbgbjbaaDoor.HValues Go.Proofs.YtpnhpbklbgbjbaaDoor.HList Go.Proofs.YtpnhpbklbgbjbaaDoor.UBits

/-- The values are the same a period later, from x on, as far as they must be looked at. -/
def gd (V : List Int) (d pre per x : Int) : Prop := ∀ n : Int, x ≤ n → n ≤ 2 * pre + 2 * per + d → rd V (n + per) = rd V n
noncomputable def gB (V : List Int) (d pre per x : Int) : Bool := @decide (gd V d pre per x) (Classical.propDecidable _)
theorem gB_true {V : List Int} {d pre per x : Int} : gB V d pre per x = true ↔ gd V d pre per x := by unfold gB; exact @decide_eq_true_iff _ (Classical.propDecidable _)
theorem gd_step {V : List Int} {d pre per x : Int} (h : rd V (x + per) = rd V x) : gd V d pre per x ↔ gd V d pre per (x + 1) :=
  ⟨fun g n h1 h2 => g n (by omega) h2, fun g n h1 h2 => by
    by_cases e : n = x
    · rw [e]; exact h
    · exact g n (by omega) h2⟩
theorem gB_step {V : List Int} {d pre per x : Int} (h : rd V (x + per) = rd V x) : gB V d pre per x = gB V d pre per (x + 1) := by
  apply Bool.eq_iff_iff.2
  rw [gB_true, gB_true]; exact gd_step h
theorem gB_false {V : List Int} {d pre per x : Int} (hx : x ≤ 2 * pre + 2 * per + d) (h : ¬ rd V (x + per) = rd V x) : gB V d pre per x = false := by
  rw [← Bool.not_eq_true, gB_true]
  exact fun g => h (g x (Int.le_refl _) hx)
theorem gB_end {V : List Int} {d pre per x : Int} (hx : 2 * pre + 2 * per + d < x) : gB V d pre per x = true := gB_true.2 (fun n h1 h2 => by omega)

variable (V : List Int) (d pre per : Int)

theorem goesOn_from (h0 : 0 ≤ pre) (h1 : 1 ≤ per) (hd : 0 ≤ d) (hb : 2 * pre + 3 * per + d < V.length) (hV : V.length ≤ 3000) (dd : Nat) : ∀ x : Int, 0 ≤ x → 2 * pre + 2 * per + d + 1 = x + dd →
    Evt (fun k => staddaref06_goesOn.l0 k V d pre per x) (gB V d pre per x) := by
  induction dd with
  | zero =>
    intro x hx0 hx
    refine Evt.step (fun k => by rw [staddaref06_goesOn.l0]) ?_
    rw [w64 (x := 2 * pre) (by omega) (by omega), w64 (x := 2 * per) (by omega) (by omega), w64 (x := 2 * pre + 2 * per) (by omega) (by omega), w64 (x := 2 * pre + 2 * per + d) (by omega) (by omega)]
    refine Evt.neg (by omega) ?_
    rw [gB_end (by omega)]
    exact Evt.const _
  | succ dd ih =>
    intro x hx0 hx
    refine Evt.step (fun k => by rw [staddaref06_goesOn.l0]) ?_
    rw [w64 (x := 2 * pre) (by omega) (by omega), w64 (x := 2 * per) (by omega) (by omega), w64 (x := 2 * pre + 2 * per) (by omega) (by omega), w64 (x := 2 * pre + 2 * per + d) (by omega) (by omega), w64 (x := x + per) (by omega) (by omega), w64 (x := x + 1) (by omega) (by omega)]
    refine Evt.pos (by omega) ?_
    refine Evt.pos (by omega) ?_
    refine Evt.pos (by omega) ?_
    refine Evt.pos (by omega) ?_
    refine Evt.pos (by omega) ?_
    by_cases he : rd V (x + per) = rd V x
    · refine Evt.pos he ?_
      rw [gB_step he]
      exact ih (x + 1) (by omega) (by omega)
    · refine Evt.neg he ?_
      rw [gB_false (by omega) he]
      exact Evt.const _
theorem goesOn_ev (h0 : 0 ≤ pre) (h1 : 1 ≤ per) (hd : 0 ≤ d) (hb : 2 * pre + 3 * per + d < V.length) (hV : V.length ≤ 3000) :
    Evt (fun k => staddaref06_goesOn.f k V d pre per) (gB V d pre per pre) := by
  have := goesOn_from V d pre per h0 h1 hd hb hV (pre + 2 * per + d + 1).toNat pre h0 (by omega)
  exact this

theorem isPeriod_from (h0 : 0 ≤ pre) (h1 : 1 ≤ per) (hd : 0 ≤ d) (hb : 2 * pre + 3 * per + d < V.length) (hV : V.length ≤ 3000) (dd : Nat) : ∀ x : Int, 0 ≤ x → 2 * pre + 2 * per + d + 1 = x + dd →
    Evt (fun k => heap_isPeriod.l0 k V d pre per x) (gB V d pre per x) := by
  induction dd with
  | zero =>
    intro x hx0 hx
    refine Evt.step (fun k => by rw [heap_isPeriod.l0]) ?_
    rw [w64 (x := 2 * pre) (by omega) (by omega), w64 (x := 2 * per) (by omega) (by omega), w64 (x := 2 * pre + 2 * per) (by omega) (by omega), w64 (x := 2 * pre + 2 * per + d) (by omega) (by omega)]
    refine Evt.neg (by omega) ?_
    rw [gB_end (by omega)]
    exact Evt.const _
  | succ dd ih =>
    intro x hx0 hx
    refine Evt.step (fun k => by rw [heap_isPeriod.l0]) ?_
    rw [w64 (x := 2 * pre) (by omega) (by omega), w64 (x := 2 * per) (by omega) (by omega), w64 (x := 2 * pre + 2 * per) (by omega) (by omega), w64 (x := 2 * pre + 2 * per + d) (by omega) (by omega), w64 (x := x + per) (by omega) (by omega), w64 (x := x + 1) (by omega) (by omega)]
    refine Evt.pos (by omega) ?_
    refine Evt.pos (by omega) ?_
    refine Evt.pos (by omega) ?_
    refine Evt.pos (by omega) ?_
    refine Evt.pos (by omega) ?_
    by_cases he : rd V x = rd V (x + per)
    · refine Evt.pos he ?_
      rw [gB_step he.symm]
      exact ih (x + 1) (by omega) (by omega)
    · refine Evt.neg he ?_
      rw [gB_false (by omega) (fun e => he e.symm)]
      exact Evt.const _
theorem isPeriod_ev (h0 : 0 ≤ pre) (h1 : 1 ≤ per) (hd : 0 ≤ d) (hd2 : d ≤ 1000) (hp : pre ≤ 3000) (hq : per ≤ 3000) (hV : V.length ≤ 3000) :
    Evt (fun k => heap_isPeriod.f k V d pre per) (decide (2 * pre + 3 * per + d < V.length) && gB V d pre per pre) := by
  refine Evt.of_eq (fun k => by rw [heap_isPeriod.f]) ?_
  rw [w64 (x := 2 * pre) (by omega) (by omega), w64 (x := 3 * per) (by omega) (by omega), w64 (x := 2 * pre + 3 * per) (by omega) (by omega), w64 (x := 2 * pre + 3 * per + d) (by omega) (by omega)]
  by_cases hb : 2 * pre + 3 * per + d < V.length
  · refine Evt.neg (by omega) ?_
    rw [decide_eq_true hb, Bool.true_and]
    exact isPeriod_from V d pre per h0 h1 hd hb hV (pre + 2 * per + d + 1).toNat pre h0 (by omega)
  · refine Evt.pos (by omega) ?_
    rw [decide_eq_false hb, Bool.false_and]
    exact Evt.const _

/-! ### The search -/
/-- The reference's search, at a period: where the values do not go on, the next begin is tried. -/
theorem ref_skip (N : Int) (R : Int × Int × Bool) (h1 : 1 ≤ per) (hd : 0 ≤ d) (hN : (V.length : Int) = N + 1) (hV : V.length ≤ 3000) (hq : per ≤ 3000) (hd2 : d ≤ 1000) (p : Int) (hp : 0 ≤ p) (hp2 : p ≤ 5000)
    (hng : 2 * p + 3 * per + d ≤ N → ¬ gd V d p per p) (h : Evt (fun k => staddaref06_Period.l1 k N d V per (p + 1)) R) : Evt (fun k => staddaref06_Period.l1 k N d V per p) R := by
  refine Evt.step (fun k => by rw [staddaref06_Period.l1]) ?_
  rw [w64 (x := 2 * p) (by omega) (by omega), w64 (x := 3 * per) (by omega) (by omega), w64 (x := 2 * p + 3 * per) (by omega) (by omega), w64 (x := 2 * p + 3 * per + d) (by omega) (by omega), w64 (x := p + 1) (by omega) (by omega)]
  by_cases hb : 2 * p + 3 * per + d ≤ N
  · refine Evt.pos hb ?_
    refine Evt.bind (goesOn_ev V d p per hp h1 hd (by omega) hV) ?_
    refine Evt.neg (fun e => hng hb (gB_true.1 e)) ?_
    exact h
  · refine Evt.neg hb ?_
    have := Evt.unstep (fun k => by rw [staddaref06_Period.l1]) h
    rw [w64 (x := 2 * (p + 1)) (by omega) (by omega), w64 (x := 3 * per) (by omega) (by omega), w64 (x := 2 * (p + 1) + 3 * per) (by omega) (by omega), w64 (x := 2 * (p + 1) + 3 * per + d) (by omega) (by omega)] at this
    simp only [if_neg (show ¬ 2 * (p + 1) + 3 * per + d ≤ N by omega)] at this
    exact this
theorem ref_skips (N : Int) (R : Int × Int × Bool) (h1 : 1 ≤ per) (hd : 0 ≤ d) (hN : (V.length : Int) = N + 1) (hV : V.length ≤ 3000) (hq : per ≤ 3000) (hd2 : d ≤ 1000) (q : Int) (hq2 : q ≤ 5000) (dd : Nat) : ∀ p : Int, 0 ≤ p → q = p + dd →
    (∀ r : Int, p ≤ r → r < q → 2 * r + 3 * per + d ≤ N → ¬ gd V d r per r) → Evt (fun k => staddaref06_Period.l1 k N d V per q) R → Evt (fun k => staddaref06_Period.l1 k N d V per p) R := by
  induction dd with
  | zero => intro p hp e _ h; rw [show p = q by omega]; exact h
  | succ dd ih =>
    intro p hp e hng h
    refine ref_skip V d per N R h1 hd hN hV hq hd2 p hp (by omega) (hng p (Int.le_refl _) (by omega)) ?_
    exact ih (p + 1) (by omega) (by omega) (fun r hr1 hr2 => hng r (by omega) hr2) h

/-- The program's inner loop, from the top down: it hands back at the bottom, or jumps behind the first place where values differ. -/
theorem heap_down (N : Int) (R : Int × Int × Bool × Int) (h0 : 0 ≤ pre) (h1 : 1 ≤ per) (hd : 0 ≤ d) (hN : (V.length : Int) = N + 1) (hV : V.length ≤ 3000) (hb : 2 * pre + 3 * per + d ≤ N)
    (hgood : gd V d pre per pre → Evt (fun _ => some (pre, per, true, (0 : Int))) R) (hbad : ∀ n : Int, pre ≤ n → n ≤ 2 * pre + 2 * per + d → ¬ rd V (n + per) = rd V n → Evt (fun k => heap_Period.l1 k N V d per (n + 1)) R) (dd : Nat) : ∀ x : Int, x + 1 = pre + dd → x ≤ 2 * pre + 2 * per + d → gd V d pre per (x + 1) →
    Evt (fun k => heap_Period.l2 k N V d per pre x) R := by
  induction dd with
  | zero =>
    intro x hx hx2 hg
    refine Evt.step (fun k => by rw [heap_Period.l2]) ?_
    refine Evt.neg (by omega) ?_
    rw [show x + 1 = pre by omega] at hg
    exact hgood hg
  | succ dd ih =>
    intro x hx hx2 hg
    refine Evt.step (fun k => by rw [heap_Period.l2]) ?_
    rw [w64 (x := x + per) (by omega) (by omega), w64 (x := x - 1) (by omega) (by omega)]
    refine Evt.pos (by omega) ?_
    refine Evt.pos (by omega) ?_
    refine Evt.pos (by omega) ?_
    refine Evt.pos (by omega) ?_
    refine Evt.pos (by omega) ?_
    by_cases he : rd V x = rd V (x + per)
    · refine Evt.pos he ?_
      refine ih (x - 1) (by omega) (by omega) ?_
      rw [show x - 1 + 1 = x by omega]
      exact (gd_step he.symm).2 hg
    · refine Evt.neg he ?_
      have e : mx pre x = x := by unfold mx; split <;> omega
      rw [e, w64 (x := x + 1) (by omega) (by omega)]
      exact hbad x (by omega) hx2 (fun e => he e.symm)

/-- Both searches end alike; and what they find goes on. -/
def Both (V : List Int) (d N : Int) (f : Nat → Option (Int × Int × Bool)) (g : Nat → Option (Int × Int × Bool × Int)) : Prop :=
  ∃ x y b, Evt f (x, y, b) ∧ Evt g (x, y, b, (0 : Int)) ∧ (b = true → 0 ≤ x ∧ 1 ≤ y ∧ 2 * x + 3 * y + d ≤ N ∧ gd V d x y x)

theorem both_l1 (N : Int) (h1 : 1 ≤ per) (hd : 0 ≤ d) (hN : (V.length : Int) = N + 1) (hV : V.length ≤ 3000) (hq : per ≤ 3000) (hd2 : d ≤ 1000)
    (hnext : Both V d N (fun k => staddaref06_Period.l0 k N d V (per + 1)) (fun k => heap_Period.l0 k N V d (per + 1))) (dd : Nat) : ∀ p : Int, 0 ≤ p → p ≤ 5000 → (5000 - p).toNat < dd →
    Both V d N (fun k => staddaref06_Period.l1 k N d V per p) (fun k => heap_Period.l1 k N V d per p) := by
  induction dd with
  | zero => intro p _ _ h; omega
  | succ dd ih =>
    intro p hp hp2 hdd
    have hs : ∀ (R : Int × Int × Bool × Int), (2 * p + 3 * per + d ≤ N → Evt (fun k => heap_Period.l2 k N V d per p (2 * p + 2 * per + d)) R) → (¬ 2 * p + 3 * per + d ≤ N → Evt (fun k => heap_Period.l0 k N V d (per + 1)) R) → Evt (fun k => heap_Period.l1 k N V d per p) R := by
      intro R a b
      refine Evt.step (fun k => by rw [heap_Period.l1]) ?_
      rw [w64 (x := 2 * p) (by omega) (by omega), w64 (x := 3 * per) (by omega) (by omega), w64 (x := 2 * per) (by omega) (by omega), w64 (x := 2 * p + 3 * per) (by omega) (by omega), w64 (x := 2 * p + 3 * per + d) (by omega) (by omega), w64 (x := 2 * p + 2 * per) (by omega) (by omega), w64 (x := 2 * p + 2 * per + d) (by omega) (by omega), w64 (x := per + 1) (by omega) (by omega)]
      by_cases hb : 2 * p + 3 * per + d ≤ N
      · exact Evt.pos hb (a hb)
      · exact Evt.neg hb (b hb)
    have hr : ∀ (R : Int × Int × Bool), (2 * p + 3 * per + d ≤ N → Evt (fun k => if gB V d p per p = true then some (p, per, true) else staddaref06_Period.l1 k N d V per (p + 1)) R) → (¬ 2 * p + 3 * per + d ≤ N → Evt (fun k => staddaref06_Period.l0 k N d V (per + 1)) R) → Evt (fun k => staddaref06_Period.l1 k N d V per p) R := by
      intro R a b
      refine Evt.step (fun k => by rw [staddaref06_Period.l1]) ?_
      rw [w64 (x := 2 * p) (by omega) (by omega), w64 (x := 3 * per) (by omega) (by omega), w64 (x := 2 * p + 3 * per) (by omega) (by omega), w64 (x := 2 * p + 3 * per + d) (by omega) (by omega), w64 (x := p + 1) (by omega) (by omega), w64 (x := per + 1) (by omega) (by omega)]
      by_cases hb : 2 * p + 3 * per + d ≤ N
      · refine Evt.pos hb ?_
        exact Evt.bind (goesOn_ev V d p per hp h1 hd (by omega) hV) (a hb)
      · exact Evt.neg hb (b hb)
    by_cases hb : 2 * p + 3 * per + d ≤ N
    · by_cases hg : gd V d p per p
      · refine ⟨p, per, true, hr _ (fun _ => ?_) (fun h => absurd hb h), hs _ (fun _ => ?_) (fun h => absurd hb h), fun _ => ⟨hp, h1, hb, hg⟩⟩
        · exact Evt.pos (gB_true.2 hg) (Evt.const _)
        · refine heap_down V d p per N _ hp h1 hd hN hV hb (fun _ => Evt.const _) (fun n hn1 hn2 hne => absurd (hg n hn1 hn2) hne) (p + 2 * per + d + 1).toNat _ (by omega) (Int.le_refl _) (fun n a b => by omega)
      · -- the program jumps
        obtain ⟨n, hn⟩ : ∃ n : Int, (p ≤ n ∧ n ≤ 2 * p + 2 * per + d ∧ ¬ rd V (n + per) = rd V n) ∧ gd V d p per (n + 1) := by
          -- the last place of difference
          have : ∀ (m : Nat) (x : Int), x + 1 = p + m → x ≤ 2 * p + 2 * per + d → gd V d p per (x + 1) → ∃ n : Int, (p ≤ n ∧ n ≤ 2 * p + 2 * per + d ∧ ¬ rd V (n + per) = rd V n) ∧ gd V d p per (n + 1) := by
            intro m
            induction m with
            | zero => intro x e _ g; rw [show x + 1 = p by omega] at g; exact absurd g hg
            | succ m ihm =>
              intro x e hx g
              by_cases he : rd V (x + per) = rd V x
              · exact ihm (x - 1) (by omega) (by omega) (by rw [show x - 1 + 1 = x by omega]; exact (gd_step he).2 g)
              · exact ⟨x, ⟨by omega, hx, he⟩, g⟩
          exact this (p + 2 * per + d + 1).toNat (2 * p + 2 * per + d) (by omega) (Int.le_refl _) (fun n a b => by omega)
        obtain ⟨⟨hn1, hn2, hn3⟩, hn4⟩ := hn
        obtain ⟨x, y, b, f1, f2, f3⟩ := ih (n + 1) (by omega) (by omega) (by omega)
        refine ⟨x, y, b, ?_, hs _ (fun _ => ?_) (fun h => absurd hb h), f3⟩
        · exact ref_skips V d per N _ h1 hd hN hV hq hd2 (n + 1) (by omega) (n + 1 - p).toNat p hp (by omega) (fun r hr1 hr2 _ g => hn3 (g n (by omega) (by omega))) f1
        · -- the way down
          have : ∀ (m : Nat) (z : Int), z = n + m → z ≤ 2 * p + 2 * per + d → Evt (fun k => heap_Period.l2 k N V d per p z) (x, y, b, (0 : Int)) := by
            intro m
            induction m with
            | zero =>
              intro z e hz
              obtain rfl : z = n := by omega
              refine Evt.step (fun k => by rw [heap_Period.l2]) ?_
              rw [w64 (x := z + per) (by omega) (by omega), w64 (x := z - 1) (by omega) (by omega)]
              refine Evt.pos (by omega) ?_
              refine Evt.pos (by omega) ?_
              refine Evt.pos (by omega) ?_
              refine Evt.pos (by omega) ?_
              refine Evt.pos (by omega) ?_
              refine Evt.neg (fun e => hn3 e.symm) ?_
              have e : mx p z = z := by unfold mx; split <;> omega
              rw [e, w64 (x := z + 1) (by omega) (by omega)]
              exact f2
            | succ m ihm =>
              intro z e hz
              refine Evt.step (fun k => by rw [heap_Period.l2]) ?_
              rw [w64 (x := z + per) (by omega) (by omega), w64 (x := z - 1) (by omega) (by omega)]
              refine Evt.pos (by omega) ?_
              refine Evt.pos (by omega) ?_
              refine Evt.pos (by omega) ?_
              refine Evt.pos (by omega) ?_
              refine Evt.pos (by omega) ?_
              refine Evt.pos (hn4 z (by omega) hz).symm ?_
              exact ihm (z - 1) (by omega) (by omega)
          exact this (2 * p + 2 * per + d - n).toNat _ (by omega) (Int.le_refl _)
    · obtain ⟨x, y, b, f1, f2, f3⟩ := hnext
      exact ⟨x, y, b, hr _ (fun h => absurd h hb) (fun _ => f1), hs _ (fun h => absurd h hb) (fun _ => f2), f3⟩

theorem both_l0 (N : Int) (hd : 0 ≤ d) (hN : (V.length : Int) = N + 1) (hN0 : 0 ≤ N) (hV : V.length ≤ 2900) (hd2 : d ≤ 1000) (dd : Nat) : ∀ q : Int, 1 ≤ q → q ≤ 3000 → (3000 - q).toNat < dd →
    Both V d N (fun k => staddaref06_Period.l0 k N d V q) (fun k => heap_Period.l0 k N V d q) := by
  induction dd with
  | zero => intro q _ _ h; omega
  | succ dd ih =>
    intro q hq1 hq2 hdd
    by_cases hb : 3 * q + d ≤ N
    · obtain ⟨x, y, b, f1, f2, f3⟩ := both_l1 V d q N hq1 hd hN (by omega) hq2 hd2 (ih (q + 1) (by omega) (by omega) (by omega)) 5001 0 (by omega) (by omega) (by omega)
      refine ⟨x, y, b, Evt.step (fun k => by rw [staddaref06_Period.l0]) ?_, Evt.step (fun k => by rw [heap_Period.l0]) ?_, f3⟩
      · rw [w64 (x := 3 * q) (by omega) (by omega), w64 (x := 3 * q + d) (by omega) (by omega)]
        exact Evt.pos hb f1
      · rw [w64 (x := 3 * q) (by omega) (by omega), w64 (x := 3 * q + d) (by omega) (by omega)]
        exact Evt.pos hb f2
    · refine ⟨0, 0, false, Evt.step (fun k => by rw [staddaref06_Period.l0]) ?_, Evt.step (fun k => by rw [heap_Period.l0]) ?_, fun h => by cases h⟩
      · rw [w64 (x := 3 * q) (by omega) (by omega), w64 (x := 3 * q + d) (by omega) (by omega)]
        exact Evt.neg hb (Evt.const _)
      · rw [w64 (x := 3 * q) (by omega) (by omega), w64 (x := 3 * q + d) (by omega) (by omega)]
        exact Evt.neg hb (Evt.const _)
end Go.Proofs.YtpnhpbklbgbjbaaDoor.PHeapPeriods
