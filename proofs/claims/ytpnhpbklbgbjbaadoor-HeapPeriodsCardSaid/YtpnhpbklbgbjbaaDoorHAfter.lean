/- The reference's 'after' lists the moves, in the same order. -/
import Derived.Test.YtpnhpbklbgbjbaaDoorPHeapPeriodsx
import Derived.Test.YtpnhpbklbgbjbaaDoorUEv
namespace Go.Proofs.YtpnhpbklbgbjbaaDoor.PHeapPeriods
set_option linter.unusedVariables false
set_option linter.unusedSimpArgs false
open Go Go.RowKit Go.Proofs.YtpnhpbklbgbjbaaDoorW.PrintWords Go.Proofs.YtpnhpbklbgbjbaaDoorW.PrintLast Go.Proofs.YtpnhpbklbgbjbaaDoorW.PrintMore Go.Proofs.YtpnhpbklbgbjbaaDoor.UEv Go.Proofs.YtpnhpbklbgbjbaaDoor.HSpec Go.Proofs.YtpnhpbklbgbjbaaDoor.HCode Go.Proofs.YtpnhpbklbgbjbaaDoor.HValues Go.Proofs.YtpnhpbklbgbjbaaDoor.HList

def toRow (p : Int × Int) : List Int := if p.1 = 0 then [] else if p.2 = 0 then [p.1] else [p.1, p.2]

theorem mvAt_length (dg left : Int) (h : left ≤ 3000) : (mvAt dg left).length ≤ 3001 := by
  unfold mvAt
  split
  · simp
  · split
    · split <;> simp
    · rw [List.length_append]
      have h1 : (if bits .and .i64 dg 2 = 0 then [] else [(left, (0 : Int))]).length ≤ 1 := by split <;> simp
      have h2 : (if bits .and .i64 dg 4 = 0 then [] else prs left (left / 2).toNat).length ≤ 1500 := by
        split
        · simp
        · simp [prs]; omega
      omega
theorem mvs_length (d : List Int) (m : Int) (h : m ≤ 3000) : ∀ k, (mvs d m k).length ≤ 3001 * k
  | 0 => by simp [mvs_zero]
  | k + 1 => by
    rw [mvs_succ, List.length_append]
    have := mvs_length d m h k
    have := mvAt_length (d[k]?.getD 0) (m - k - 1) (by omega)
    omega
theorem mvs_high (d : List Int) (m : Int) (k j : Nat) (h : m ≤ k) : mvs d m (k + j) = mvs d m k := by
  induction j with
  | zero => rfl
  | succ j ih => rw [← Nat.add_assoc, mvs_succ, ih, mvAt_neg (by omega), List.append_nil]

theorem after_pairs (x0 : ByteArray) (n k6 : Int) (left : Int) (hl : 0 ≤ left) (hl2 : left ≤ 3000) (X : List (List Int)) (hX : X.length ≤ 1000000) (R : List (List Int)) (dd : Nat) : ∀ j : Nat, (left / 2).toNat = j + dd →
    Evt (fun k => staddaref06_after.l0 k x0 n (X ++ (prs left (left / 2).toNat).map toRow) (wrap64 (k6 + 1))) R →
    Evt (fun k => staddaref06_after.l1 k x0 n (X ++ (prs left j).map toRow) k6 left ((j : Int) + 1)) R := by
  induction dd with
  | zero =>
    intro j hj h
    refine Evt.step (fun k => by rw [staddaref06_after.l1]) ?_
    refine Evt.neg (by rw [w64 (by omega) (by omega)]; omega) ?_
    rw [hj] at h
    exact h
  | succ dd ih =>
    intro j hj h
    refine Evt.step (fun k => by rw [staddaref06_after.l1]) ?_
    refine Evt.pos (by rw [w64 (by omega) (by omega)]; omega) ?_
    refine Evt.pos (by simp [prs]; omega) ?_
    have := ih (j + 1) (by omega) h
    rw [prs_succ, List.map_append, ← List.append_assoc] at this
    rw [w64 (by omega) (by omega), w64 (by omega) (by omega)]
    have e : toRow ((j : Int) + 1, left - ((j : Int) + 1)) = [(j : Int) + 1, left - ((j : Int) + 1)] := by
      unfold toRow
      rw [if_neg (by simp only; omega), if_neg (by simp only; omega)]
    rw [List.map_cons, List.map_nil, e] at this
    exact_mod_cast this

theorem bits_dg (dg : Int) (h0 : 0 ≤ dg) (h1 : dg ≤ 7) : (dg % 2 = 1 ↔ ¬ bits .and .i64 dg 1 = 0) ∧ (Int.tmod (wrap64 (Int.tdiv dg 2)) 2 = 1 ↔ ¬ bits .and .i64 dg 2 = 0) ∧ (wrap64 (Int.tdiv dg 4) = 1 ↔ ¬ bits .and .i64 dg 4 = 0) := by
  have : dg = 0 ∨ dg = 1 ∨ dg = 2 ∨ dg = 3 ∨ dg = 4 ∨ dg = 5 ∨ dg = 6 ∨ dg = 7 := by omega
  rcases this with rfl | rfl | rfl | rfl | rfl | rfl | rfl | rfl <;> exact of_decide_eq_true (by kernel_rfl)

theorem bt_dig {s : ByteArray} (h : isCode s = true) (i : Nat) (hi : i < (digs s).length) : (bt s ((i : Int) + 2) - 48) % 256 = (digs s)[i]?.getD 0 := by
  have hc := isCode_of h
  have h2 := hc.two
  have hsz : (s.extract 2 s.size).size = (digs s).length := by rw [ByteArray.size_extract]; omega
  have hb := hc.byte i (by omega)
  have hr := hc.rng i
  have e : bt s ((i : Int) + 2) = 48 + (digs s)[i]?.getD 0 := by
    rw [← hb]
    unfold bt
    rw [dif_pos (by omega)]
    congr 2
    have : ((i : Int) + 2).toNat = 2 + i := by omega
    simp only [this]
    rw [ByteArray.getElem_extract]
  rw [e]; omega

set_option maxHeartbeats 4000000 in
theorem after_rest (s : ByteArray) (n : Int) (h : isCode s = true) (h1 : 1 ≤ n) (h2 : n ≤ 3000) (dd : Nat) : ∀ i : Nat, (digs s).length = i + dd →
    Evt (fun k => staddaref06_after.l0 k s n ((mvs (digs s) n i).map toRow) ((i : Int) + 1)) ((mv (digs s) n).map toRow) := by
  have hc := isCode_of h
  have hsz := hc.two
  have hle := hc.le
  induction dd with
  | zero =>
    intro i hi
    refine Evt.step (fun k => by rw [staddaref06_after.l0]) ?_
    refine Evt.neg (by rw [w64 (by omega) (by omega)]; omega) ?_
    refine Evt.step (fun k => by rw [staddaref06_after.j1]) ?_
    refine Evt.neg (by simp) ?_
    unfold mv
    rw [hi]
    exact Evt.const _
  | succ dd ih =>
    intro i hi
    have hnext := ih (i + 1) (by omega)
    refine Evt.step (fun k => by rw [staddaref06_after.l0]) ?_
    refine Evt.pos (by rw [w64 (by omega) (by omega)]; omega) ?_
    refine Evt.step (fun k => by rw [staddaref06_after.j1]) ?_
    by_cases hin : (i : Int) + 1 ≤ n
    · refine Evt.pos (by simpa using hin) ?_
      rw [w64 (x := (i : Int) + 1 + 1) (by omega) (by omega), show (i : Int) + 1 + 1 = (i : Int) + 2 from by omega]
      refine Evt.pos (by omega) ?_
      refine Evt.pos (by omega) ?_
      rw [bt_dig h i (by omega)]
      have hr := hc.rng i
      obtain ⟨dg, hdg⟩ : ∃ dg, (digs s)[i]?.getD 0 = dg := ⟨_, rfl⟩
      rw [hdg] at hr ⊢
      obtain ⟨b1, b2, b4⟩ := bits_dg dg hr.1 hr.2
      rw [w64 (x := n - ((i : Int) + 1)) (by omega) (by omega)]
      obtain ⟨left, hleft⟩ : ∃ left, n - ((i : Int) + 1) = left := ⟨_, rfl⟩
      rw [hleft]
      have hml := mvs_length (digs s) n h2 i
      have e : (mvs (digs s) n (i + 1)) = mvs (digs s) n i ++ mvAt dg left := by rw [mvs_succ, hdg]; congr 2; omega
      rw [e, List.map_append] at hnext
      have hnext' : Evt (fun k => staddaref06_after.l0 k s n ((mvs (digs s) n i).map toRow ++ (mvAt dg left).map toRow) (wrap64 ((i : Int) + 1 + 1))) ((mv (digs s) n).map toRow) := by
        rw [w64 (by omega) (by omega)]; exact_mod_cast hnext
      clear hnext
      obtain ⟨X, hX⟩ : ∃ X, (mvs (digs s) n i).map toRow = X := ⟨_, rfl⟩
      have hXl : X.length ≤ 400000 := by rw [← hX, List.length_map]; omega
      rw [hX] at hnext' ⊢
      obtain ⟨R, hR⟩ : ∃ R, (mv (digs s) n).map toRow = R := ⟨_, rfl⟩
      rw [hR] at hnext' ⊢
      have hl0 : 0 ≤ left := by omega
      have hl3 : left ≤ 3000 := by omega
      -- the end: the pairs
      have j5 : ∀ Y : List (List Int), Y.length ≤ 1000000 → X ++ (mvAt dg left).map toRow = Y ++ (if bits .and .i64 dg 4 = 0 then [] else (prs left (left / 2).toNat).map toRow) → Evt (fun k => staddaref06_after.j5 k s n Y ((i : Int) + 1) dg left) R := by
        intro Y hY he
        refine Evt.step (fun k => by rw [staddaref06_after.j5]) ?_
        by_cases h4 : bits .and .i64 dg 4 = 0
        · refine Evt.neg (fun hh => (b4.1 hh) h4) ?_
          rw [if_pos h4, List.append_nil] at he
          rw [← he]; exact hnext'
        · refine Evt.pos (b4.2 h4) ?_
          rw [if_neg h4] at he
          rw [he] at hnext'
          have := after_pairs s n ((i : Int) + 1) left hl0 hl3 Y hY R (left / 2).toNat 0 (by omega) hnext'
          simpa [prs_zero] using this
      have j3 : ∀ Y : List (List Int), Y.length ≤ 900000 → X ++ (mvAt dg left).map toRow = Y ++ ((if bits .and .i64 dg 2 = 0 ∨ left = 0 then [] else [[left]]) ++ (if bits .and .i64 dg 4 = 0 then [] else (prs left (left / 2).toNat).map toRow)) → Evt (fun k => staddaref06_after.j3 k s n Y ((i : Int) + 1) dg left) R := by
        intro Y hY he
        refine Evt.step (fun k => by rw [staddaref06_after.j3]) ?_
        by_cases h2' : bits .and .i64 dg 2 = 0
        · refine Evt.neg (fun hh => (b2.1 hh) h2') ?_
          refine Evt.step (fun k => by rw [staddaref06_after.j4]) ?_
          refine Evt.neg (by simp) ?_
          refine j5 Y (by omega) ?_
          rw [he, if_pos (.inl h2'), List.nil_append]
        · refine Evt.pos (b2.2 h2') ?_
          refine Evt.step (fun k => by rw [staddaref06_after.j4]) ?_
          by_cases hz : left = 0
          · refine Evt.neg (by simp; omega) ?_
            refine j5 Y (by omega) ?_
            rw [he, if_pos (.inr hz), List.nil_append]
          · refine Evt.pos (by simp; omega) ?_
            refine Evt.pos (by omega) ?_
            refine j5 _ (by simp; omega) ?_
            rw [he, if_neg (by simp [h2', hz]), List.append_assoc]
      have j2t : left = 0 → ¬ bits .and .i64 dg 1 = 0 → Evt (fun k => staddaref06_after.j2 k s n X ((i : Int) + 1) dg left true) R := by
        intro hz hb
        refine Evt.step (fun k => by rw [staddaref06_after.j2]) ?_
        refine Evt.pos rfl ?_
        refine Evt.pos (by omega) ?_
        refine j3 _ (by simp; omega) ?_
        rw [mvAt_zero1 hz hb, if_pos (.inr hz), List.append_assoc, hz]
        by_cases h4 : bits .and .i64 dg 4 = 0
        · rw [if_pos h4]; rfl
        · rw [if_neg h4]; rfl
      have j2f : (¬ left = 0 ∨ bits .and .i64 dg 1 = 0) → Evt (fun k => staddaref06_after.j2 k s n X ((i : Int) + 1) dg left false) R := by
        intro hb
        refine Evt.step (fun k => by rw [staddaref06_after.j2]) ?_
        refine Evt.neg (by simp) ?_
        refine j3 _ (by omega) ?_
        by_cases hz : left = 0
        · rw [mvAt_zero0 hz (hb.resolve_left (fun h => h hz)), if_pos (.inr hz), hz]
          by_cases h4 : bits .and .i64 dg 4 = 0
          · rw [if_pos h4]; rfl
          · rw [if_neg h4]; rfl
        · rw [mvAt_pos (by omega), List.map_append]
          congr 2
          · by_cases h2' : bits .and .i64 dg 2 = 0
            · rw [if_pos h2', if_pos (.inl h2')]; rfl
            · rw [if_neg h2', if_neg (by simp [h2', hz])]
              simp [toRow, hz]
          · by_cases h4 : bits .and .i64 dg 4 = 0
            · rw [if_pos h4, if_pos h4]; rfl
            · rw [if_neg h4, if_neg h4]
      by_cases hb : bits .and .i64 dg 1 = 0
      · refine Evt.neg (fun hh => (b1.1 hh) hb) ?_
        exact j2f (.inr hb)
      · refine Evt.pos (b1.2 hb) ?_
        by_cases hz : left = 0
        · rw [show (left == 0) = true from by simpa using hz]; exact j2t hz hb
        · rw [show (left == 0) = false from by simpa using hz]; exact j2f (.inl hz)
    · refine Evt.neg (by simpa using hin) ?_
      have e : mv (digs s) n = mvs (digs s) n i := by
        unfold mv; rw [hi]; exact mvs_high _ _ _ _ (by omega)
      rw [e]
      exact Evt.const _

theorem after_ev (s : ByteArray) (n : Int) (h : isCode s = true) (h1 : 1 ≤ n) (h2 : n ≤ 3000) : Evt (fun k => staddaref06_after.f k s n) ((mv (digs s) n).map toRow) := by
  have := after_rest s n h h1 h2 (digs s).length 0 (by omega)
  simpa [mvs_zero, staddaref06_after.f] using this
end Go.Proofs.YtpnhpbklbgbjbaaDoor.PHeapPeriods
