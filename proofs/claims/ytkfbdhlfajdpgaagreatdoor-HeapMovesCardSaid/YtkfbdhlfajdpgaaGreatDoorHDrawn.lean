/- A region that draws its order, inside a fence or a round: reads and quiet calls first, a tail that has one order alone. Over any program. -/
import Derived.StillTail
import Derived.StillTailTactics
import Derived.OrdersIn
import Derived.TacticsIn
import Derived.Test.YtkfbdhlfajdpgaaGreatDoorHIter
namespace Go.Proofs.YtkfbdhlfajdpgaaGreatDoor.HDrawn
set_option linter.unusedVariables false
set_option linter.unusedSimpArgs false
open Go Go.Proofs.YtkfbdhlfajdpgaaGreatDoor.HIter

section
variable {F : Fence} {n : Nat} {P : Program} {ops : Array Oper} {md : Region.Mode} {w : World}

theorem not_defer {o : Oper} {a : Act} {K : Act → Prop} (h : o.still P a w K) : ∀ c, o.op ≠ .defer c := by
  intro c hc
  unfold Oper.still at h
  have e : execOp a.eval o = (do let d ← resolve a.eval c o.type; pure (.defer d)) := by
    unfold execOp; rw [hc]
  rw [e] at h
  simp only [Sem.run_bind] at h
  cases hr : (resolve a.eval c o.type).run P w with
  | ok d w' => rw [hr] at h; simp [Result.andThen, Oper.stillUpon] at h
  | halt x w' => rw [hr] at h; simp [Result.andThen, Oper.stillUpon] at h

theorem wpIn_of_still (hWd : Wide F) {o : Oper} {a : Act} {K : Act → Prop} {K' : Act → World → Prop} {Q' : Exit → Act → World → Prop} (h : ∀ a, K a → K' a w) (hh : o.still P a w K) : o.wpIn F n P a w K' Q' := by
  have hnd := not_defer hh
  unfold Oper.still at hh
  refine ⟨fun f _ => hWd.fn f, ?_⟩
  rw [Oper.semAt_eq _ _ _ hnd]
  generalize (execOp a.eval o).run P w = r at *
  cases r with
  | ok x w' =>
    cases x <;> simp only [Oper.stillUpon] at hh <;> simp only [Oper.uponIn]
    case enter f args =>
      obtain ⟨rfl, v, hc, hn⟩ := hh
      refine ⟨(fun hd => by (rw [hWd.depth] at hd; cases hd)), (hWd.calls hc).mono ?_⟩
      rintro e w'' ⟨rfl, rfl⟩
      exact h _ hn
    all_goals (obtain ⟨rfl, h2⟩ := hh; exact h _ h2)
  | halt x w' => simp only [Oper.stillUpon] at hh

theorem wpOpIn_of_stOp (hWd : Wide F) {i : Nat} {a : Act} {K : Act → Prop} {K' : Act → World → Prop} {Q' : Exit → Act → World → Prop} (h : ∀ a, K a → K' a w) (hh : stOp P ops w i K a) : wpOpIn F n P ops Q' i K' a w := by
  unfold stOp at hh
  unfold wpOpIn
  split
  · rename_i ho; simp only [ho] at hh; exact h _ hh
  · rename_i o ho
    simp only [ho] at hh
    split
    · rename_i hw; simp only [hw, if_true] at hh; exact wpIn_of_still hWd h hh
    · rename_i hw; simp only [hw] at hh; exact ⟨fun f _ => hWd.fn f, h _ hh⟩

theorem wpAnyIn_of_head (hWd : Wide F) {m g : Nat} {L : Array Bool → Act → Prop} {Q' : Exit → Act → World → Prop} (hL : ∀ listed a, L listed a → wpAnyIn F n P md ops Q' g listed a w) :
    ∀ (f : Nat) (listed : Array Bool) (a : Act), wpAnyL P md ops w m L f listed a → wpAnyIn F n P md ops Q' (f + g) listed a w
  | 0, listed, a, h => by rw [Nat.zero_add]; exact hL _ _ h
  | f + 1, listed, a, h => by
    rw [show f + 1 + g = (f + g) + 1 by omega]
    exact ⟨fun h0 => absurd h0 h.1, fun i hi => wpOpIn_of_stOp hWd (fun a' h' => wpAnyIn_of_head hWd hL f _ a' h') (h.2 i hi).2⟩

theorem wpOpIn_mono' {i : Nat} {a : Act} {w : World} {K K' : Act → World → Prop} {Q : Exit → Act → World → Prop} (h : ∀ a w, K a w → K' a w) (hh : wpOpIn F n P ops Q i K a w) : wpOpIn F n P ops Q i K' a w :=
  wpOpIn_mono h hh

theorem wpAnyIn_of_seq {Q' : Exit → Act → World → Prop} : ∀ (l : List Oper) (k : Nat) (listed : Array Bool) (a : Act) (w : World), (∀ j, l[j]? = ops[k + j]?) →
    Region.seqB md ops l.length k listed = true → wpListIn F n P ops Q' l a w → wpAnyIn F n P md ops Q' l.length listed a w
  | [], k, listed, a, w, _, hB, h => ⟨by simpa [Region.seqB] using hB, h⟩
  | o :: l, k, listed, a, w, hl, hB, h => by
    have h0 : ops[k]? = some o := by simpa using (hl 0).symm
    simp only [List.length_cons, Region.seqB, Bool.and_eq_true, decide_eq_true_eq] at hB
    refine ⟨fun h1 => (by rw [hB.1] at h1; cases h1), fun i hi => ?_⟩
    rw [hB.1] at hi
    have hik : i = k := by simpa using hi
    subst hik
    have hw : wpOpIn F n P ops Q' i (wpListIn F n P ops Q' l) a w := by unfold wpOpIn; simp only [h0]; exact h
    exact wpOpIn_mono' (fun a' w' h' => wpAnyIn_of_seq l (i + 1) _ a' w' (fun j => by have := hl (j + 1); simpa [Nat.add_assoc, Nat.add_comm 1 j] using this) hB.2 h') hw

/-- A drawn region whose first m operations read and call quietly, and whose others have one order. -/
theorem wpIn_still_tail (hWd : Wide F) {id : Nat} {Q : Exit → Act → World → Prop} {a : Act} {w : World} {l : List Oper} (m : Nat) (hm : P.follows .mixedOrders = true) (hB : Region.lexTailB .any l.toArray m = true)
    (h : wpStill P l.toArray { w with drawn := w.drawn + 1 } (fun a' => wpListIn F n P l.toArray Q (l.drop m) a' { w with drawn := w.drawn + 1 }) (l.take m) a) : (Code.region id l.toArray true).wpIn F n P Q a w := by
  simp only [Region.lexTailB, Bool.and_eq_true, decide_eq_true_eq] at hB
  obtain ⟨⟨⟨⟨hsel, hn⟩, hs⟩, hc⟩, hlex⟩ := hB
  have hn' : m < l.length := by simpa using hn
  have htl : (l.take m).length = m := by simp; omega
  have hdl : (l.drop m).length = l.toArray.size - m := by simp
  have inv0 : HeadInv .any l.toArray m (Array.replicate l.toArray.size false) :=
    ⟨by simp, fun j oj _ hl => (by rw [getD_replicate_false] at hl; cases hl), fun t _ ht => getD_in (by simpa using ht) (getD_replicate_false _ _)⟩
  have H := wpAnyL_lex (md := .any) (g := l.toArray.size - m) hsel hs hc hn (l.take m) 0 _ a (fun j hj => by
    have hj' : j < m := by rw [htl] at hj; exact hj
    simp [hj']) (by simpa using htl) inv0 (by rw [htl]; exact hlex) h
  refine wpIn_region_any hm ?_
  have := wpAnyIn_of_head (F := F) (n := n) hWd (Q' := Q) (g := l.toArray.size - m) (fun listed a' hL => by
    have := wpAnyIn_of_seq (F := F) (n := n) (md := .any) (Q' := Q) (l.drop m) m listed a' { w with drawn := w.drawn + 1 } (fun j => by simp [List.getElem?_drop]) (by rw [hdl]; exact hL.1) hL.2
    rwa [hdl] at this) _ _ _ H
  rw [htl, show m + (l.toArray.size - m) = l.toArray.size by omega] at this
  exact this

theorem opIn_value (hWd : Wide F) {i : Nat} {o : Oper} {a : Act} {W W' : World} {v : Value} {K : Act → World → Prop} {Q : Exit → Act → World → Prop} (ho : ops[i]? = some o) (hg : o.guard = none) (hnd : ∀ c, o.op ≠ .defer c)
    (hr : (execOp a.eval o).run P W = .ok (.value v) W') (hK : K (a.put o.dst v) W') : wpOpIn F n P ops Q i K a W := by
  unfold wpOpIn
  simp only [ho, Region.wanted, hg, if_true]
  refine ⟨fun f _ => hWd.fn f, ?_⟩
  rw [Oper.semAt_eq _ _ _ hnd, hr]
  exact hK
theorem opIn_call (hWd : Wide F) {i : Nat} {o : Oper} {a : Act} {W : World} {v : Value} {f : FuncId} {args : Array Value} {K : Act → World → Prop} {Q : Exit → Act → World → Prop} (ho : ops[i]? = some o) (hg : o.guard = none) (hnd : ∀ c, o.op ≠ .defer c)
    (hr : (execOp a.eval o).run P W = .ok (.enter f args) W) (hc : Calls P f args W fun e w' => e = .returned v ∧ W = w') (hK : K (a.put o.dst v) W) : wpOpIn F n P ops Q i K a W := by
  unfold wpOpIn
  simp only [ho, Region.wanted, hg, if_true]
  refine ⟨fun f _ => hWd.fn f, ?_⟩
  rw [Oper.semAt_eq _ _ _ hnd, hr]
  refine ⟨fun hd => by (rw [hWd.depth] at hd; cases hd), (hWd.calls hc).mono ?_⟩
  rintro e w' ⟨rfl, rfl⟩
  exact hK

/-- The orders of 'x = append(x, f(y))' where x lies in a box: a load, a call, the one element's row, the append, the store. -/
def fiveB (ops : Array Oper) : Bool :=
  decide (Region.ready .any ops #[false, false, false, false, false] = [0, 1]) && decide (Region.ready .any ops #[true, false, false, false, false] = [1]) && decide (Region.ready .any ops #[false, true, false, false, false] = [0, 2]) &&
  decide (Region.ready .any ops #[true, true, false, false, false] = [2]) && decide (Region.ready .any ops #[false, true, true, false, false] = [0]) && Region.seqB .any ops 2 3 #[true, true, true, false, false]

/-- .. in any of its three orders it comes to what the text's order comes to. -/
theorem wpIn_five (hWd : Wide F) {id : Nat} {Q : Exit → Act → World → Prop} {a : Act} {w w' : World} {o0 o1 o2 o3 o4 : Oper} {d0 d1 d2 : Tmp} {v0 v1 v2 : Value} {f : FuncId} {args : Array Value} (hm : P.follows .mixedOrders = true)
    (hB : fiveB [o0, o1, o2, o3, o4].toArray = true) (e0 : o0.dst = some d0) (e1 : o1.dst = some d1) (e2 : o2.dst = some d2) (hd : d0 ≠ d1 ∧ d0 ≠ d2 ∧ d1 ≠ d2)
    (g0 : o0.guard = none) (g1 : o1.guard = none) (g2 : o2.guard = none) (n0 : ∀ c, o0.op ≠ .defer c) (n1 : ∀ c, o1.op ≠ .defer c) (n2 : ∀ c, o2.op ≠ .defer c)
    (s0 : ∀ cs b, o0.op ≠ .select cs b) (s1 : ∀ cs b, o1.op ≠ .select cs b) (s2 : ∀ cs b, o2.op ≠ .select cs b)
    (l0 : d1 ∉ o0.looksAt [o0, o1, o2, o3, o4].toArray ∧ d2 ∉ o0.looksAt [o0, o1, o2, o3, o4].toArray) (l1 : d0 ∉ o1.looksAt [o0, o1, o2, o3, o4].toArray) (l2 : d0 ∉ o2.looksAt [o0, o1, o2, o3, o4].toArray)
    (r0 : (execOp a.eval o0).run P w.drew = .ok (.value v0) w.drew) (r0' : (execOp a.eval o0).run P w' = .ok (.value v0) w')
    (r1 : (execOp a.eval o1).run P w.drew = .ok (.enter f args) w.drew) (hc : Calls P f args w.drew fun e w2 => e = .returned v1 ∧ w.drew = w2)
    (r2 : (execOp (a.put (some d1) v1).eval o2).run P w.drew = .ok (.value v2) w')
    (h : wpListIn F n P [o0, o1, o2, o3, o4].toArray Q [o3, o4] (((a.put (some d0) v0).put (some d1) v1).put (some d2) v2) w') : (Code.region id [o0, o1, o2, o3, o4].toArray true).wpIn F n P Q a w := by
  simp only [fiveB, Bool.and_eq_true, decide_eq_true_eq] at hB
  obtain ⟨⟨⟨⟨⟨b0, b1⟩, b2⟩, b3⟩, b4⟩, b5⟩ := hB
  refine wpIn_region_any hm ?_
  change wpAnyIn F n P .any _ Q 5 #[false, false, false, false, false] a w.drew
  have tail : wpAnyIn F n P .any [o0, o1, o2, o3, o4].toArray Q 2 #[true, true, true, false, false] (((a.put (some d0) v0).put (some d1) v1).put (some d2) v2) w' :=
    wpAnyIn_of_seq [o3, o4] 3 _ _ _ (fun j => by
      match j with
      | 0 => rfl
      | 1 => rfl
      | j + 2 => simp [show 3 + (j + 2) = j + 5 by omega]) b5 h
  have P01 : ∀ u u', ((a.put (some d0) u).put (some d1) u') = ((a.put (some d1) u').put (some d0) u) := fun u u' => Act.put_comm a u u' (fun d e h => by cases e; cases h; exact hd.1 rfl)
  have P02 : ∀ (b : Act) u u', ((b.put (some d0) u).put (some d2) u') = ((b.put (some d2) u').put (some d0) u) := fun b u u' => Act.put_comm b u u' (fun d e h => by cases e; cases h; exact hd.2.1 rfl)
  refine wpAnyIn_ready (rs := [0, 1]) b0 (by simp) (fun i hi => ?_)
  rcases List.mem_cons.1 hi with rfl | hi
  · refine opIn_value hWd (o := o0) rfl g0 n0 r0 ?_
    rw [e0]
    refine wpAnyIn_ready (rs := [1]) b1 (by simp) (fun i hi => ?_)
    obtain rfl : i = 1 := by simpa using hi
    refine opIn_call hWd (o := o1) rfl g1 n1 (by rw [execOp_put o1 s1 a _ _ (fun d e => by cases e; exact l1)]; exact r1) hc ?_
    rw [e1]
    refine wpAnyIn_ready (rs := [2]) b3 (by simp) (fun i hi => ?_)
    obtain rfl : i = 2 := by simpa using hi
    refine opIn_value hWd (o := o2) rfl g2 n2 (by rw [P01, execOp_put o2 s2 _ _ _ (fun d e => by cases e; exact l2)]; exact r2) ?_
    rw [e2]
    exact tail
  · obtain rfl : i = 1 := by simpa using hi
    refine opIn_call hWd (o := o1) rfl g1 n1 r1 hc ?_
    rw [e1]
    refine wpAnyIn_ready (rs := [0, 2]) b2 (by simp) (fun i hi => ?_)
    rcases List.mem_cons.1 hi with rfl | hi
    · refine opIn_value hWd (o := o0) rfl g0 n0 (by rw [execOp_put o0 s0 a _ _ (fun d e => by cases e; exact l0.1)]; exact r0) ?_
      rw [e0, ← P01]
      refine wpAnyIn_ready (rs := [2]) b3 (by simp) (fun i hi => ?_)
      obtain rfl : i = 2 := by simpa using hi
      refine opIn_value hWd (o := o2) rfl g2 n2 (by rw [P01, execOp_put o2 s2 _ _ _ (fun d e => by cases e; exact l2)]; exact r2) ?_
      rw [e2]
      exact tail
    · obtain rfl : i = 2 := by simpa using hi
      refine opIn_value hWd (o := o2) rfl g2 n2 r2 ?_
      rw [e2]
      refine wpAnyIn_ready (rs := [0]) b4 (by simp) (fun i hi => ?_)
      obtain rfl : i = 0 := by simpa using hi
      refine opIn_value hWd (o := o0) rfl g0 n0 (by rw [execOp_put o0 s0 _ _ _ (fun d e => by cases e; exact l0.2), execOp_put o0 s0 a _ _ (fun d e => by cases e; exact l0.1)]; exact r0') ?_
      rw [e0, ← P02, ← P01]
      exact tail
end
end Go.Proofs.YtkfbdhlfajdpgaaGreatDoor.HDrawn
