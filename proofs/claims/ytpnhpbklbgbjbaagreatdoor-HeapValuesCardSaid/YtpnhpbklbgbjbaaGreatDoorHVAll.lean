/- A fuelled function from some fuel on. The reference's 'after' lists the moves, in the same order. The reference's values are the values. What Check says, and list, at a code. code makes a code of any string. Check, of any string: the program's and the reference's alike; the least missing number: alike. The least number that is missing: the program's and the reference's alike. HeapValues: the plain law: what it computes is true, whatever the input. -/
import Derived.RowKit
import Derived.Test.YtpnhpbklbgbjbaaGreatDoorPHeapValuesx
namespace Go.Proofs.YtpnhpbklbgbjbaaGreatDoor.UEv
set_option linter.unusedVariables false
open Go Go.RowKit

def Evt {α : Type} (f : Nat → Option α) (r : α) : Prop := ∃ K, ∀ k, K ≤ k → f k = some r
variable {α β : Type}
theorem Evt.const (r : α) : Evt (fun _ => some r) r := ⟨0, fun _ _ => rfl⟩
theorem Evt.step {f g : Nat → Option α} {r : α} (h : ∀ k, f (k + 1) = g k) (hg : Evt g r) : Evt f r := by
  obtain ⟨K, hK⟩ := hg
  refine ⟨K + 1, fun k hk => ?_⟩
  obtain ⟨j, rfl⟩ : ∃ j, k = j + 1 := ⟨k - 1, by omega⟩
  rw [h]; exact hK j (by omega)
theorem Evt.unstep {f g : Nat → Option α} {r : α} (h : ∀ k, f (k + 1) = g k) (hf : Evt f r) : Evt g r := by
  obtain ⟨K, hK⟩ := hf
  exact ⟨K, fun k hk => by rw [← h]; exact hK (k + 1) (by omega)⟩
theorem Evt.pos {c : Prop} [Decidable c] {f g : Nat → Option α} {r : α} (h : c) (hf : Evt f r) : Evt (fun k => if c then f k else g k) r := by
  simp only [if_pos h]; exact hf
theorem Evt.neg {c : Prop} [Decidable c] {f g : Nat → Option α} {r : α} (h : ¬ c) (hf : Evt g r) : Evt (fun k => if c then f k else g k) r := by
  simp only [if_neg h]; exact hf
theorem Evt.bind {f : Nat → Option α} {a : α} {g : Nat → α → Option β} {r : β} (hf : Evt f a) (hg : Evt (fun k => g k a) r) : Evt (fun k => (f k).bind (g k)) r := by
  obtain ⟨K, hK⟩ := hf
  obtain ⟨L, hL⟩ := hg
  exact ⟨max K L, fun k hk => by simp only [hK k (by omega), Option.bind_some]; exact hL k (by omega)⟩
theorem Evt.uniq {f : Nat → Option α} {a b : α} (h : Evt f a) (g : Evt f b) : a = b := by
  obtain ⟨K, hK⟩ := h
  obtain ⟨L, hL⟩ := g
  exact Option.some.inj ((hK (max K L) (by omega)).symm.trans (hL (max K L) (by omega)))
theorem Evt.of_eq {f g : Nat → Option α} {r : α} (h : ∀ k, f k = g k) (hg : Evt g r) : Evt f r := by
  obtain ⟨K, hK⟩ := hg
  exact ⟨K, fun k hk => by rw [h]; exact hK k hk⟩
theorem Evt.get {f : Nat → Option α} {r : α} (h : Evt f r) : ∃ k, f k = some r := ⟨h.choose, h.choose_spec _ (Nat.le_refl _)⟩
theorem w64 {x : Int} (h1 : -9223372036854775808 ≤ x) (h2 : x ≤ 9223372036854775807) : wrap64 x = x := by unfold wrap64; omega
end Go.Proofs.YtpnhpbklbgbjbaaGreatDoor.UEv
namespace Go.Proofs.YtpnhpbklbgbjbaaGreatDoor.PHeapValues
set_option linter.unusedVariables false
set_option linter.unusedSimpArgs false
open Go Go.RowKit Go.Proofs.YtpnhpbklbgbjbaaGreatDoorW.PrintWords Go.Proofs.YtpnhpbklbgbjbaaGreatDoorW.PrintLast Go.Proofs.YtpnhpbklbgbjbaaGreatDoorW.PrintMore Go.Proofs.YtpnhpbklbgbjbaaGreatDoor.UEv Go.Proofs.YtpnhpbklbgbjbaaGreatDoor.HSpec Go.Proofs.YtpnhpbklbgbjbaaGreatDoor.HCode Go.Proofs.YtpnhpbklbgbjbaaGreatDoor.HValues Go.Proofs.YtpnhpbklbgbjbaaGreatDoor.HList

def toRow (p : Int × Int) : List Int := if p.1 = 0 then [] else if p.2 = 0 then [p.1] else [p.1, p.2]

theorem mvAt_length (dg left : Int) (h : left ≤ 3000) : (mvAt dg left).length ≤ 3001 := by
  unfold mvAt
  split
  · simp
  · split
    · split <;> simp
    · rw [List.length_append]
      have h1 : (if bits .and .i64 dg 2 = 0 then [] else [(left, (0 : Int))]).length ≤ 1 := by split <;> simp
      have h2 : (if bits .and .i64 dg 4 = 0 then [] else prs left (left / 2).toNat).length ≤ 1500 := by
        split
        · simp
        · simp [prs]; omega
      omega
theorem mvs_length (d : List Int) (m : Int) (h : m ≤ 3000) : ∀ k, (mvs d m k).length ≤ 3001 * k
  | 0 => by simp [mvs_zero]
  | k + 1 => by
    rw [mvs_succ, List.length_append]
    have := mvs_length d m h k
    have := mvAt_length (d[k]?.getD 0) (m - k - 1) (by omega)
    omega
theorem mvs_high (d : List Int) (m : Int) (k j : Nat) (h : m ≤ k) : mvs d m (k + j) = mvs d m k := by
  induction j with
  | zero => rfl
  | succ j ih => rw [← Nat.add_assoc, mvs_succ, ih, mvAt_neg (by omega), List.append_nil]

theorem after_pairs (x0 : ByteArray) (n k6 : Int) (left : Int) (hl : 0 ≤ left) (hl2 : left ≤ 3000) (X : List (List Int)) (hX : X.length ≤ 1000000) (R : List (List Int)) (dd : Nat) : ∀ j : Nat, (left / 2).toNat = j + dd →
    Evt (fun k => staddaref06_after.l0 k x0 n (X ++ (prs left (left / 2).toNat).map toRow) (wrap64 (k6 + 1))) R →
    Evt (fun k => staddaref06_after.l1 k x0 n (X ++ (prs left j).map toRow) k6 left ((j : Int) + 1)) R := by
  induction dd with
  | zero =>
    intro j hj h
    refine Evt.step (fun k => by rw [staddaref06_after.l1]) ?_
    refine Evt.neg (by rw [w64 (by omega) (by omega)]; omega) ?_
    rw [hj] at h
    exact h
  | succ dd ih =>
    intro j hj h
    refine Evt.step (fun k => by rw [staddaref06_after.l1]) ?_
    refine Evt.pos (by rw [w64 (by omega) (by omega)]; omega) ?_
    refine Evt.pos (by simp [prs]; omega) ?_
    have := ih (j + 1) (by omega) h
    rw [prs_succ, List.map_append, ← List.append_assoc] at this
    rw [w64 (by omega) (by omega), w64 (by omega) (by omega)]
    have e : toRow ((j : Int) + 1, left - ((j : Int) + 1)) = [(j : Int) + 1, left - ((j : Int) + 1)] := by
      unfold toRow
      rw [if_neg (by simp only; omega), if_neg (by simp only; omega)]
    rw [List.map_cons, List.map_nil, e] at this
    exact_mod_cast this

theorem bits_dg (dg : Int) (h0 : 0 ≤ dg) (h1 : dg ≤ 7) : (dg % 2 = 1 ↔ ¬ bits .and .i64 dg 1 = 0) ∧ (Int.tmod (wrap64 (Int.tdiv dg 2)) 2 = 1 ↔ ¬ bits .and .i64 dg 2 = 0) ∧ (wrap64 (Int.tdiv dg 4) = 1 ↔ ¬ bits .and .i64 dg 4 = 0) := by
  have : dg = 0 ∨ dg = 1 ∨ dg = 2 ∨ dg = 3 ∨ dg = 4 ∨ dg = 5 ∨ dg = 6 ∨ dg = 7 := by omega
  rcases this with rfl | rfl | rfl | rfl | rfl | rfl | rfl | rfl <;> exact of_decide_eq_true (by kernel_rfl)

theorem bt_dig {s : ByteArray} (h : isCode s = true) (i : Nat) (hi : i < (digs s).length) : (bt s ((i : Int) + 2) - 48) % 256 = (digs s)[i]?.getD 0 := by
  have hc := isCode_of h
  have h2 := hc.two
  have hsz : (s.extract 2 s.size).size = (digs s).length := by rw [ByteArray.size_extract]; omega
  have hb := hc.byte i (by omega)
  have hr := hc.rng i
  have e : bt s ((i : Int) + 2) = 48 + (digs s)[i]?.getD 0 := by
    rw [← hb]
    unfold bt
    rw [dif_pos (by omega)]
    congr 2
    have : ((i : Int) + 2).toNat = 2 + i := by omega
    simp only [this]
    rw [ByteArray.getElem_extract]
  rw [e]; omega

set_option maxHeartbeats 4000000 in
theorem after_rest (s : ByteArray) (n : Int) (h : isCode s = true) (h1 : 1 ≤ n) (h2 : n ≤ 3000) (dd : Nat) : ∀ i : Nat, (digs s).length = i + dd →
    Evt (fun k => staddaref06_after.l0 k s n ((mvs (digs s) n i).map toRow) ((i : Int) + 1)) ((mv (digs s) n).map toRow) := by
  have hc := isCode_of h
  have hsz := hc.two
  have hle := hc.le
  induction dd with
  | zero =>
    intro i hi
    refine Evt.step (fun k => by rw [staddaref06_after.l0]) ?_
    refine Evt.neg (by rw [w64 (by omega) (by omega)]; omega) ?_
    refine Evt.step (fun k => by rw [staddaref06_after.j1]) ?_
    refine Evt.neg (by simp) ?_
    unfold mv
    rw [hi]
    exact Evt.const _
  | succ dd ih =>
    intro i hi
    have hnext := ih (i + 1) (by omega)
    refine Evt.step (fun k => by rw [staddaref06_after.l0]) ?_
    refine Evt.pos (by rw [w64 (by omega) (by omega)]; omega) ?_
    refine Evt.step (fun k => by rw [staddaref06_after.j1]) ?_
    by_cases hin : (i : Int) + 1 ≤ n
    · refine Evt.pos (by simpa using hin) ?_
      rw [w64 (x := (i : Int) + 1 + 1) (by omega) (by omega), show (i : Int) + 1 + 1 = (i : Int) + 2 from by omega]
      refine Evt.pos (by omega) ?_
      refine Evt.pos (by omega) ?_
      rw [bt_dig h i (by omega)]
      have hr := hc.rng i
      obtain ⟨dg, hdg⟩ : ∃ dg, (digs s)[i]?.getD 0 = dg := ⟨_, rfl⟩
      rw [hdg] at hr ⊢
      obtain ⟨b1, b2, b4⟩ := bits_dg dg hr.1 hr.2
      rw [w64 (x := n - ((i : Int) + 1)) (by omega) (by omega)]
      obtain ⟨left, hleft⟩ : ∃ left, n - ((i : Int) + 1) = left := ⟨_, rfl⟩
      rw [hleft]
      have hml := mvs_length (digs s) n h2 i
      have e : (mvs (digs s) n (i + 1)) = mvs (digs s) n i ++ mvAt dg left := by rw [mvs_succ, hdg]; congr 2; omega
      rw [e, List.map_append] at hnext
      have hnext' : Evt (fun k => staddaref06_after.l0 k s n ((mvs (digs s) n i).map toRow ++ (mvAt dg left).map toRow) (wrap64 ((i : Int) + 1 + 1))) ((mv (digs s) n).map toRow) := by
        rw [w64 (by omega) (by omega)]; exact_mod_cast hnext
      clear hnext
      obtain ⟨X, hX⟩ : ∃ X, (mvs (digs s) n i).map toRow = X := ⟨_, rfl⟩
      have hXl : X.length ≤ 400000 := by rw [← hX, List.length_map]; omega
      rw [hX] at hnext' ⊢
      obtain ⟨R, hR⟩ : ∃ R, (mv (digs s) n).map toRow = R := ⟨_, rfl⟩
      rw [hR] at hnext' ⊢
      have hl0 : 0 ≤ left := by omega
      have hl3 : left ≤ 3000 := by omega
      -- the end: the pairs
      have j5 : ∀ Y : List (List Int), Y.length ≤ 1000000 → X ++ (mvAt dg left).map toRow = Y ++ (if bits .and .i64 dg 4 = 0 then [] else (prs left (left / 2).toNat).map toRow) → Evt (fun k => staddaref06_after.j5 k s n Y ((i : Int) + 1) dg left) R := by
        intro Y hY he
        refine Evt.step (fun k => by rw [staddaref06_after.j5]) ?_
        by_cases h4 : bits .and .i64 dg 4 = 0
        · refine Evt.neg (fun hh => (b4.1 hh) h4) ?_
          rw [if_pos h4, List.append_nil] at he
          rw [← he]; exact hnext'
        · refine Evt.pos (b4.2 h4) ?_
          rw [if_neg h4] at he
          rw [he] at hnext'
          have := after_pairs s n ((i : Int) + 1) left hl0 hl3 Y hY R (left / 2).toNat 0 (by omega) hnext'
          simpa [prs_zero] using this
      have j3 : ∀ Y : List (List Int), Y.length ≤ 900000 → X ++ (mvAt dg left).map toRow = Y ++ ((if bits .and .i64 dg 2 = 0 ∨ left = 0 then [] else [[left]]) ++ (if bits .and .i64 dg 4 = 0 then [] else (prs left (left / 2).toNat).map toRow)) → Evt (fun k => staddaref06_after.j3 k s n Y ((i : Int) + 1) dg left) R := by
        intro Y hY he
        refine Evt.step (fun k => by rw [staddaref06_after.j3]) ?_
        by_cases h2' : bits .and .i64 dg 2 = 0
        · refine Evt.neg (fun hh => (b2.1 hh) h2') ?_
          refine Evt.step (fun k => by rw [staddaref06_after.j4]) ?_
          refine Evt.neg (by simp) ?_
          refine j5 Y (by omega) ?_
          rw [he, if_pos (.inl h2'), List.nil_append]
        · refine Evt.pos (b2.2 h2') ?_
          refine Evt.step (fun k => by rw [staddaref06_after.j4]) ?_
          by_cases hz : left = 0
          · refine Evt.neg (by simp; omega) ?_
            refine j5 Y (by omega) ?_
            rw [he, if_pos (.inr hz), List.nil_append]
          · refine Evt.pos (by simp; omega) ?_
            refine Evt.pos (by omega) ?_
            refine j5 _ (by simp; omega) ?_
            rw [he, if_neg (by simp [h2', hz]), List.append_assoc]
      have j2t : left = 0 → ¬ bits .and .i64 dg 1 = 0 → Evt (fun k => staddaref06_after.j2 k s n X ((i : Int) + 1) dg left true) R := by
        intro hz hb
        refine Evt.step (fun k => by rw [staddaref06_after.j2]) ?_
        refine Evt.pos rfl ?_
        refine Evt.pos (by omega) ?_
        refine j3 _ (by simp; omega) ?_
        rw [mvAt_zero1 hz hb, if_pos (.inr hz), List.append_assoc, hz]
        by_cases h4 : bits .and .i64 dg 4 = 0
        · rw [if_pos h4]; rfl
        · rw [if_neg h4]; rfl
      have j2f : (¬ left = 0 ∨ bits .and .i64 dg 1 = 0) → Evt (fun k => staddaref06_after.j2 k s n X ((i : Int) + 1) dg left false) R := by
        intro hb
        refine Evt.step (fun k => by rw [staddaref06_after.j2]) ?_
        refine Evt.neg (by simp) ?_
        refine j3 _ (by omega) ?_
        by_cases hz : left = 0
        · rw [mvAt_zero0 hz (hb.resolve_left (fun h => h hz)), if_pos (.inr hz), hz]
          by_cases h4 : bits .and .i64 dg 4 = 0
          · rw [if_pos h4]; rfl
          · rw [if_neg h4]; rfl
        · rw [mvAt_pos (by omega), List.map_append]
          congr 2
          · by_cases h2' : bits .and .i64 dg 2 = 0
            · rw [if_pos h2', if_pos (.inl h2')]; rfl
            · rw [if_neg h2', if_neg (by simp [h2', hz])]
              simp [toRow, hz]
          · by_cases h4 : bits .and .i64 dg 4 = 0
            · rw [if_pos h4, if_pos h4]; rfl
            · rw [if_neg h4, if_neg h4]
      by_cases hb : bits .and .i64 dg 1 = 0
      · refine Evt.neg (fun hh => (b1.1 hh) hb) ?_
        exact j2f (.inr hb)
      · refine Evt.pos (b1.2 hb) ?_
        by_cases hz : left = 0
        · rw [show (left == 0) = true from by simpa using hz]; exact j2t hz hb
        · rw [show (left == 0) = false from by simpa using hz]; exact j2f (.inl hz)
    · refine Evt.neg (by simpa using hin) ?_
      have e : mv (digs s) n = mvs (digs s) n i := by
        unfold mv; rw [hi]; exact mvs_high _ _ _ _ (by omega)
      rw [e]
      exact Evt.const _

theorem after_ev (s : ByteArray) (n : Int) (h : isCode s = true) (h1 : 1 ≤ n) (h2 : n ≤ 3000) : Evt (fun k => staddaref06_after.f k s n) ((mv (digs s) n).map toRow) := by
  have := after_rest s n h h1 h2 (digs s).length 0 (by omega)
  simpa [mvs_zero, staddaref06_after.f] using this
end Go.Proofs.YtpnhpbklbgbjbaaGreatDoor.PHeapValues
namespace Go.Proofs.YtpnhpbklbgbjbaaGreatDoor.PHeapValues
set_option linter.unusedVariables false
set_option linter.unusedSimpArgs false
open Go Go.RowKit Go.Proofs.YtpnhpbklbgbjbaaGreatDoorW.PrintWords Go.Proofs.YtpnhpbklbgbjbaaGreatDoorW.PrintLast Go.Proofs.YtpnhpbklbgbjbaaGreatDoorW.PrintMore Go.Proofs.YtpnhpbklbgbjbaaGreatDoor.UEv Go.Proofs.YtpnhpbklbgbjbaaGreatDoor.HSpec Go.Proofs.YtpnhpbklbgbjbaaGreatDoor.HCode Go.Proofs.YtpnhpbklbgbjbaaGreatDoor.HValues Go.Proofs.YtpnhpbklbgbjbaaGreatDoor.HList Go.Proofs.YtpnhpbklbgbjbaaGreatDoor.UBits

theorem rd_at0 (V : List Int) (i : Int) : rd V i = at0 V i := rfl

theorem rvals_l3 (x0 : ByteArray) (x1 : Int) (V : List Int) (x6 : Int) (S : List Bool) (m : Nat) (hm : m < S.length) (hSl : S.length ≤ 1000000) (h1 : S.getD m false = false) (h2 : ∀ v, v < m → S.getD v false = true) (hV : V.length ≤ 1000000) (R : List Int)
    (hR : Evt (fun k => staddaref06_Values.l0 k x0 x1 (V ++ [(m : Int)]) (wrap64 (x6 + 1))) R) (dd : Nat) : ∀ v : Nat, m = v + dd → Evt (fun k => staddaref06_Values.l3 k x0 x1 V x6 S (v : Int)) R := by
  induction dd with
  | zero =>
    intro v hv
    obtain rfl : m = v := by omega
    refine Evt.step (fun k => by rw [staddaref06_Values.l3]) ?_
    refine Evt.pos (by omega) ?_
    refine Evt.pos (by omega) ?_
    refine Evt.neg (by unfold rdOf; rw [Int.toNat_natCast, h1]; simp) ?_
    refine Evt.pos (by omega) ?_
    exact hR
  | succ dd ih =>
    intro v hv
    refine Evt.step (fun k => by rw [staddaref06_Values.l3]) ?_
    refine Evt.pos (by omega) ?_
    refine Evt.pos (by omega) ?_
    refine Evt.pos (by unfold rdOf; rw [Int.toNat_natCast]; exact h2 v (by omega)) ?_
    have := ih (v + 1) (by omega)
    rw [w64 (by omega) (by omega)]
    exact_mod_cast this

theorem xor_zero_left {a : Int} (h : 0 ≤ a) (h2 : a ≤ 1000000) : bits .xor .i64 0 a = a := by
  rw [xor_int (by omega) h (by omega) (by omega)]
  simp; omega
theorem xor_zero_right {a : Int} (h : 0 ≤ a) (h2 : a ≤ 1000000) : bits .xor .i64 a 0 = a := by
  rw [xor_int h (by omega) (by omega) (by omega)]
  simp; omega

theorem rvals_l2 (x0 : ByteArray) (x1 : Int) (V : List Int) (x6 : Int) (S : List Bool) (rows : List (List Int)) (j : Nat) (p : Int × Int) (hj : j < rows.length) (hrow : rd_L2 rows (j : Int) = toRow p) (hg : HSpec.Good V) (hVl : V.length ≤ 1000000)
    (hz : p.1 = 0 → p.2 = 0) (hp1 : 0 ≤ p.1) (hp2 : 0 ≤ p.2) (hp : p.1 + p.2 < V.length) (hv : 0 ≤ optv V p ∧ optv V p < V.length) (hS : V.length ≤ S.length) (R : List Int)
    (hR : Evt (fun k => staddaref06_Values.l1 k x0 x1 V x6 (S.set (optv V p).toNat true) rows (wrap64 ((j : Int) + 1))) R) :
    Evt (fun k => staddaref06_Values.l2 k x0 x1 V x6 S rows (j : Int) 0 0) R := by
  have hV0 : at0 V 0 = 0 := by have := hg.at0 (i := 0) (by omega) (by omega); omega
  have ha := hg.at0 hp1 (by omega)
  have hb := hg.at0 hp2 (by omega)
  have fin : ∀ (x : Int) (i : Int), x = optv V p → i = ((toRow p).length : Int) → Evt (fun k => staddaref06_Values.l2 k x0 x1 V x6 S rows (j : Int) x i) R := by
    intro x i hx hi
    refine Evt.step (fun k => by rw [staddaref06_Values.l2]) ?_
    refine Evt.pos (by omega) ?_
    refine Evt.pos (by omega) ?_
    refine Evt.neg (by rw [hrow]; omega) ?_
    refine Evt.pos (by omega) ?_
    refine Evt.pos (by omega) ?_
    rw [hx]; exact hR
  have step : ∀ (x : Int) (i : Nat) (q : Int), (toRow p)[i]? = some q → 0 ≤ q → q < V.length → i < 2 → Evt (fun k => staddaref06_Values.l2 k x0 x1 V x6 S rows (j : Int) (bits .xor .i64 x (at0 V q)) ((i : Int) + 1)) R → Evt (fun k => staddaref06_Values.l2 k x0 x1 V x6 S rows (j : Int) x (i : Int)) R := by
    intro x i q hq h0 h1 hi h
    have hil : i < (toRow p).length := (List.getElem?_eq_some_iff.1 hq).1
    have e : rd (rd_L2 rows (j : Int)) (i : Int) = q := by
      rw [hrow]; unfold rd
      rw [Int.toNat_natCast, List.getD_eq_getElem?_getD, hq]; rfl
    refine Evt.step (fun k => by rw [staddaref06_Values.l2]) ?_
    refine Evt.pos (by omega) ?_
    refine Evt.pos (by omega) ?_
    refine Evt.pos (by rw [hrow]; omega) ?_
    refine Evt.pos (by omega) ?_
    refine Evt.pos (by rw [e]; omega) ?_
    refine Evt.pos (by rw [e]; omega) ?_
    rw [e, w64 (by omega) (by omega)]
    exact h
  by_cases h1 : p.1 = 0
  · have e : toRow p = [] := by unfold toRow; rw [if_pos h1]
    refine fin 0 0 ?_ (by rw [e]; rfl)
    unfold optv xr
    rw [h1, hz h1, hV0, xor_zero_left (by omega) (by omega)]
  · by_cases h2 : p.2 = 0
    · have e : toRow p = [p.1] := by unfold toRow; rw [if_neg h1, if_pos h2]
      refine step 0 0 p.1 (by rw [e]; rfl) hp1 (by omega) (by omega) ?_
      rw [xor_zero_left ha.1 (by omega)]
      refine fin _ _ ?_ (by rw [e]; rfl)
      unfold optv xr
      rw [h2, hV0, xor_zero_right ha.1 (by omega)]
    · have e : toRow p = [p.1, p.2] := by unfold toRow; rw [if_neg h1, if_neg h2]
      refine step 0 0 p.1 (by rw [e]; rfl) hp1 (by omega) (by omega) ?_
      rw [xor_zero_left ha.1 (by omega)]
      refine step _ 1 p.2 (by rw [e]; rfl) hp2 (by omega) (by omega) ?_
      exact fin _ _ rfl (by rw [e]; rfl)

theorem mv_zero {d : List Int} {m : Int} {p : Int × Int} (h : p ∈ mv d m) : p.1 = 0 → p.2 = 0 := by
  unfold mv mvs at h
  obtain ⟨i, hi, hp⟩ := List.mem_flatMap.1 h
  unfold mvAt at hp
  split at hp
  · simp at hp
  · split at hp
    · split at hp
      · simp at hp
      · intro _; rw [List.mem_singleton.1 hp]
    · rcases List.mem_append.1 hp with hp | hp
      · split at hp
        · simp at hp
        · intro _; rw [List.mem_singleton.1 hp]
      · split at hp
        · simp at hp
        · have := mem_prs hp; omega

theorem rvals_l1 (x0 : ByteArray) (x1 : Int) (d V : List Int) (x6 : Int) (hg : HSpec.Good V) (hVl : V.length ≤ 3000) (L : Nat) (hL : V.length + 2 ≤ L) (hL2 : L ≤ 10000) (R : List Int)
    (hR : Evt (fun k => staddaref06_Values.l0 k x0 x1 (V ++ [(mexN (opts d V) : Int)]) (wrap64 (x6 + 1))) R) (hml : (mv d V.length).length ≤ 1000000) (dd : Nat) : ∀ (j : Nat) (S : List Bool), (mv d V.length).length = j + dd → S.length = L → (∀ v : Nat, v < L → S.getD v false = (((mv d V.length).take j).map (optv V)).contains (v : Int)) →
    Evt (fun k => staddaref06_Values.l1 k x0 x1 V x6 S ((mv d V.length).map toRow) (j : Int)) R := by
  induction dd with
  | zero =>
    intro j S hj hS hval
    refine Evt.step (fun k => by rw [staddaref06_Values.l1]) ?_
    refine Evt.neg (by rw [List.length_map]; omega) ?_
    have hspec := mexN_spec (opts d V)
    have hle : mexN (opts d V) ≤ V.length := by
      refine mexN_le _ _ (fun x hx => ?_)
      obtain ⟨y, hy, rfl⟩ := List.mem_map.1 hx
      exact (optv_bound hg (by omega) hy).2
    rw [List.take_of_length_le (by omega)] at hval
    refine rvals_l3 x0 x1 V x6 S (mexN (opts d V)) (by omega) (by omega) ?_ ?_ (by omega) R hR (mexN (opts d V)) 0 (by omega)
    · rw [hval _ (by omega)]
      have := hspec.1
      rw [show (mv d V.length).map (optv V) = opts d V from rfl]
      simpa using this
    · intro v hv
      rw [hval _ (by omega)]
      have := hspec.2 v hv
      rw [show (mv d V.length).map (optv V) = opts d V from rfl]
      simpa using this
  | succ dd ih =>
    intro j S hj hS hval
    have hjl : j < (mv d V.length).length := by omega
    obtain ⟨p, hp⟩ : ∃ p, (mv d V.length)[j]? = some p := ⟨_, List.getElem?_eq_getElem hjl⟩
    have hmem : p ∈ mv d V.length := List.mem_of_getElem? hp
    have hb := optv_bound hg (by omega) hmem
    obtain ⟨m1, m2, m3⟩ := mem_mv hmem
    refine Evt.step (fun k => by rw [staddaref06_Values.l1]) ?_
    refine Evt.pos (by rw [List.length_map]; omega) ?_
    refine rvals_l2 x0 x1 V x6 S _ j p (by rw [List.length_map]; omega) ?_ hg (by omega) (mv_zero hmem) m1 m2 (by omega) hb (by omega) R ?_
    · unfold rd_L2
      rw [Int.toNat_natCast, List.getD_eq_getElem?_getD, List.getElem?_map, hp]; rfl
    · have := ih (j + 1) (S.set (optv V p).toNat true) (by omega) (by simpa using hS) (fun v hv => ?_)
      · rw [w64 (by omega) (by omega)]
        exact_mod_cast this
      · rw [List.take_add_one, hp, List.map_append, List.getD_eq_getElem?_getD, List.getElem?_set]
        by_cases he : (optv V p).toNat = v
        · rw [if_pos he, if_pos (by omega)]
          have : optv V p = (v : Int) := by omega
          simp [this]
        · rw [if_neg he, ← List.getD_eq_getElem?_getD, hval v hv]
          have : ¬ (v : Int) = optv V p := by omega
          simp [this]

theorem rvals_l0 (s : ByteArray) (h : isCode s = true) (N : Nat) (hN : N ≤ 2000) (dd : Nat) : ∀ i : Nat, N = i + dd → Evt (fun k => staddaref06_Values.l0 k s (N : Int) (vals (digs s) i) ((i : Int) + 1)) (vals (digs s) N) := by
  induction dd with
  | zero =>
    intro i hi
    obtain rfl : N = i := by omega
    refine Evt.step (fun k => by rw [staddaref06_Values.l0]) ?_
    refine Evt.neg (by omega) ?_
    exact Evt.const _
  | succ dd ih =>
    intro i hi
    have hlen := vals_length (digs s) i
    refine Evt.step (fun k => by rw [staddaref06_Values.l0]) ?_
    rw [w64 (x := 2 * (N : Int)) (by omega) (by omega), w64 (x := 2 * (N : Int) + 4) (by omega) (by omega)]
    refine Evt.pos (by omega) ?_
    refine Evt.pos (by omega) ?_
    refine Evt.pos (by omega) ?_
    refine Evt.bind (after_ev s ((i : Int) + 1) h (by omega) (by omega)) ?_
    have hn : ((i : Int) + 1) = ((vals (digs s) i).length : Int) := by rw [hlen]; rfl
    have hml : (mv (digs s) (vals (digs s) i).length).length ≤ 1000000 := by
      have := mvs_length (digs s) ((vals (digs s) i).length : Int) (by omega) (digs s).length
      have := (isCode_of h).le
      unfold mv; omega
    have := rvals_l1 s (N : Int) (digs s) (vals (digs s) i) ((vals (digs s) i).length : Int) (vals_good _ _ (by omega)) (by omega) (2 * (N : Int) + 4).toNat (by omega) (by omega) (vals (digs s) N) (by
      have := ih (i + 1) (by omega)
      rw [← hn, w64 (by omega) (by omega)]
      exact_mod_cast this) hml (mv (digs s) (vals (digs s) i).length).length 0 (List.replicate (2 * (N : Int) + 4).toNat false) (by omega) (by simp) (fun v hv => by simp [List.getD_eq_getElem?_getD, List.getElem?_replicate, hv])
    rw [hn]
    exact_mod_cast this

theorem rvals_ev (s : ByteArray) (h : isCode s = true) (n : Int) (h0 : 0 ≤ n) (hn : n ≤ 2000) : Evt (fun k => staddaref06_Values.f k s n) (vals (digs s) n.toNat) := by
  obtain ⟨N, rfl⟩ := Int.eq_ofNat_of_zero_le h0
  have := rvals_l0 s h N (by omega) N 0 (by omega)
  rw [Int.toNat_natCast]
  exact this
end Go.Proofs.YtpnhpbklbgbjbaaGreatDoor.PHeapValues
namespace Go.Proofs.YtpnhpbklbgbjbaaGreatDoor.PHeapValues
set_option linter.unusedVariables false
set_option linter.unusedSimpArgs false
open Go Go.RowKit Go.Proofs.YtpnhpbklbgbjbaaGreatDoorW.PrintWords Go.Proofs.YtpnhpbklbgbjbaaGreatDoorW.PrintLast Go.Proofs.YtpnhpbklbgbjbaaGreatDoorW.PrintMore Go.Proofs.YtpnhpbklbgbjbaaGreatDoor.UEv Go.Proofs.YtpnhpbklbgbjbaaGreatDoor.HSpec Go.Proofs.YtpnhpbklbgbjbaaGreatDoor.HCode Go.Proofs.YtpnhpbklbgbjbaaGreatDoor.HValues Go.Proofs.YtpnhpbklbgbjbaaGreatDoor.HList Go.Proofs.YtpnhpbklbgbjbaaGreatDoor.UBits

structure okc (c : ByteArray) : Prop where
  code : isCode c = true
  size : c.size ≤ 10
  head : (c.extract 0 2).toList = [48, 46]

theorem dropWhile_all {α : Type} (p : α → Bool) : ∀ l : List α, (∀ b ∈ l, p b = true) → l.dropWhile p = []
  | [], _ => rfl
  | x :: l, h => by
    rw [List.dropWhile_cons, if_pos (h x (by simp))]
    exact dropWhile_all p l (fun b hb => h b (by simp [hb]))

theorem check_ok {c : ByteArray} (h : okc c) : heap_Check.f c = some 0 := by
  have hc := isCode_of h.code
  have hsz := hc.two
  have hps := hc.pos
  have hle := h.size
  have hP : stringslite_HasPrefix.f c (⟨#[48, 46]⟩ : ByteArray) = some true := by
    unfold stringslite_HasPrefix.f
    have e2 : (⟨#[48, 46]⟩ : ByteArray).size = 2 := rfl
    rw [e2, if_pos (by omega), if_pos (by omega), if_pos (by omega)]
    have : (((2 : Nat) : Int) : Int).toNat = 2 := rfl
    rw [this, h.head]
    exact congrArg some (by kernel_rfl)
  have hC : strings_CutPrefix.f c (⟨#[48, 46]⟩ : ByteArray) = some (c.extract 2 c.size, true) := by
    unfold strings_CutPrefix.f stringslite_CutPrefix.f
    rw [hP]
    simp only [Option.bind_some, if_true]
    have e2 : (⟨#[48, 46]⟩ : ByteArray).size = 2 := rfl
    rw [e2, if_pos (by omega), if_pos (by omega)]
    rfl
  have hex : (c.extract 2 c.size).size = (digs c).length := by rw [ByteArray.size_extract]; omega
  unfold heap_Check.f
  rw [hC]
  simp only [Option.bind_some, if_true]
  rw [if_neg (by omega), if_neg (by omega)]
  have hT : strings_Trim.f (c.extract 2 c.size) (⟨#[48, 49, 50, 51, 52, 53, 54, 55]⟩ : ByteArray) = some ⟨#[]⟩ := by
    unfold strings_Trim.f
    rw [if_pos ⟨by kernel_rfl, of_decide_eq_true (by kernel_rfl), by omega⟩]
    have hall := h.code
    unfold isCode at hall
    simp only [Bool.and_eq_true, decide_eq_true_eq] at hall
    have hall := hall.2
    have hr : Lib.trimRightS (c.extract 2 c.size).data.toList (⟨#[48, 49, 50, 51, 52, 53, 54, 55]⟩ : ByteArray).data.toList = [] := by
      unfold Lib.trimRightS
      rw [List.reverse_eq_nil_iff]
      refine dropWhile_all _ _ (fun b hb => ?_)
      have hb' := List.all_eq_true.1 hall b (List.mem_reverse.1 hb)
      simp only [Bool.and_eq_true, decide_eq_true_eq] at hb'
      have : b = 48 ∨ b = 49 ∨ b = 50 ∨ b = 51 ∨ b = 52 ∨ b = 53 ∨ b = 54 ∨ b = 55 := by
        have e : ∀ n : Nat, b.toNat = n → b = UInt8.ofNat n := fun n hn => by rw [← hn]; simp
        have : b.toNat = 48 ∨ b.toNat = 49 ∨ b.toNat = 50 ∨ b.toNat = 51 ∨ b.toNat = 52 ∨ b.toNat = 53 ∨ b.toNat = 54 ∨ b.toNat = 55 := by omega
        rcases this with h | h | h | h | h | h | h | h
        · exact .inl (e _ h)
        · exact .inr (.inl (e _ h))
        · exact .inr (.inr (.inl (e _ h)))
        · exact .inr (.inr (.inr (.inl (e _ h))))
        · exact .inr (.inr (.inr (.inr (.inl (e _ h)))))
        · exact .inr (.inr (.inr (.inr (.inr (.inl (e _ h))))))
        · exact .inr (.inr (.inr (.inr (.inr (.inr (.inl (e _ h)))))))
        · exact .inr (.inr (.inr (.inr (.inr (.inr (.inr (e _ h)))))))
      rcases this with rfl | rfl | rfl | rfl | rfl | rfl | rfl | rfl <;> exact (show List.contains _ _ = true from by kernel_rfl)
    unfold Lib.trimS
    rw [hr]
    rfl
  rw [hT]
  simp only [Option.bind_some]
  rw [if_pos (by kernel_rfl)]

theorem list_ok {c : ByteArray} (h : okc c) {n : Int} (h0 : 0 ≤ n) (h1 : n ≤ 2000) : heap_list.f c n = some (vals (digs c) n.toNat) := by
  unfold heap_list.f
  rw [if_pos ⟨h.code, h0, by omega⟩]

end Go.Proofs.YtpnhpbklbgbjbaaGreatDoor.PHeapValues
namespace Go.Proofs.YtpnhpbklbgbjbaaGreatDoor.PHeapValues
set_option linter.unusedVariables false
set_option linter.unusedSimpArgs false
open Go Go.RowKit Go.Proofs.YtpnhpbklbgbjbaaGreatDoorW.PrintWords Go.Proofs.YtpnhpbklbgbjbaaGreatDoorW.PrintLast Go.Proofs.YtpnhpbklbgbjbaaGreatDoorW.PrintMore Go.Proofs.YtpnhpbklbgbjbaaGreatDoor.UEv Go.Proofs.YtpnhpbklbgbjbaaGreatDoor.HSpec Go.Proofs.YtpnhpbklbgbjbaaGreatDoor.HCode

def outOf (ds : List UInt8) : ByteArray := ⟨(48 :: 46 :: ds).toArray⟩
theorem outOf_size (ds : List UInt8) : (outOf ds).size = ds.length + 2 := by simp [outOf, ByteArray.size]
theorem outOf_snoc (ds : List UInt8) (b : UInt8) : outOf ds ++ ⟨#[b]⟩ = outOf (ds ++ [b]) := by
  apply ByteArray.ext
  simp [outOf, ByteArray.data_append]
theorem outOf_ok (ds : List UInt8) (h0 : ds ≠ []) (h1 : ds.length ≤ 8) (h : ∀ b ∈ ds, 48 ≤ b.toNat ∧ b.toNat ≤ 55) : okc (outOf ds) := by
  have hl : 0 < ds.length := List.length_pos_iff.2 h0
  have hs := outOf_size ds
  refine ⟨?_, by omega, ?_⟩
  · unfold isCode
    have e : ((outOf ds).extract 2 (outOf ds).size).data.toList = ds := by
      rw [hs, ByteArray.data_extract]
      simp [outOf]
    rw [e]
    simp only [Bool.and_eq_true, decide_eq_true_eq]
    refine ⟨⟨by omega, by omega⟩, List.all_eq_true.2 (fun b hb => ?_)⟩
    simp only [Bool.and_eq_true, decide_eq_true_eq]
    exact h b hb
  · have e : (outOf ds).extract 0 2 = ⟨#[48, 46]⟩ := by
      apply ByteArray.ext
      rw [ByteArray.data_extract]
      apply Array.toList_inj.1
      simp [outOf]
    have e2 : (⟨#[48, 46]⟩ : ByteArray).toList = [48, 46] := by kernel_rfl
    rw [e]
    exact e2

theorem dig_byte (s : ByteArray) (i : Int) : 48 ≤ (UInt8.ofNat ((48 + Int.tmod (bt s i) 8) % 256).toNat).toNat ∧ (UInt8.ofNat ((48 + Int.tmod (bt s i) 8) % 256).toNat).toNat ≤ 55 := by
  have hb : 0 ≤ bt s i := by unfold bt; split <;> omega
  rw [Int.tmod_eq_emod_of_nonneg hb]
  have h1 := Int.emod_nonneg (bt s i) (by decide : (8 : Int) ≠ 0)
  have h2 := Int.emod_lt_of_pos (bt s i) (by decide : (0 : Int) < 8)
  generalize bt s i % 8 = e at *
  rw [Int.emod_eq_of_lt (by omega) (by omega)]
  have : (48 + e).toNat < 256 := by omega
  rw [UInt8.toNat_ofNat']
  rw [Nat.mod_eq_of_lt this]
  omega

theorem code_from (s : ByteArray) (hs : s.size ≤ 9223372036854775807) (dd : Nat) : ∀ (ds : List UInt8), ds.length + dd = 8 → (∀ b ∈ ds, 48 ≤ b.toNat ∧ b.toNat ≤ 55) →
    ∃ c, Evt (fun k => staddalaw06_code.l0 k s (outOf ds) (ds.length : Int)) c ∧ okc c := by
  have fin : ∀ ds : List UInt8, ds.length ≤ 8 → (∀ b ∈ ds, 48 ≤ b.toNat ∧ b.toNat ≤ 55) → ∃ c, (if ((outOf ds).size : Int) = 2 then (if (outOf ds).size + 1 ≤ 9223372036854775807 then (some (outOf ds ++ (⟨#[55]⟩ : ByteArray))) else (none)) else (some (outOf ds))) = some c ∧ okc c := by
    intro ds h1 h2
    have hz := outOf_size ds
    by_cases h : ds.length = 0
    · have h0 : ds = [] := List.length_eq_zero_iff.1 h
      refine ⟨outOf (ds ++ [55]), ?_, outOf_ok _ (by simp) (by simp [h0]) (fun b hb => by rw [h0] at hb; simp at hb; subst hb; decide)⟩
      rw [if_pos (by omega), if_pos (by omega), outOf_snoc]
    · refine ⟨outOf ds, ?_, outOf_ok _ (by intro e; rw [e] at h; simp at h) h1 h2⟩
      rw [if_neg (by omega)]
  induction dd with
  | zero =>
    intro ds hd hall
    obtain ⟨c, h1, h2⟩ := fin ds (by omega) hall
    refine ⟨c, Evt.step (fun k => by rw [staddalaw06_code.l0]) ?_, h2⟩
    by_cases hx : (ds.length : Int) < (s.size : Int)
    · refine Evt.pos hx (Evt.neg (by omega) ?_)
      rw [h1]; exact Evt.const _
    · refine Evt.neg hx ?_
      rw [h1]; exact Evt.const _
  | succ dd ih =>
    intro ds hd hall
    by_cases hx : (ds.length : Int) < (s.size : Int)
    · obtain ⟨c, h1, h2⟩ := ih (ds ++ [UInt8.ofNat ((48 + Int.tmod (bt s (ds.length : Int)) 8) % 256).toNat]) (by simp; omega) (fun b hb => by
        rcases List.mem_append.1 hb with hb | hb
        · exact hall b hb
        · rw [List.mem_singleton.1 hb]; exact dig_byte s _)
      refine ⟨c, Evt.step (fun k => by rw [staddalaw06_code.l0]) ?_, h2⟩
      refine Evt.pos hx (Evt.pos (by omega) (Evt.pos (by omega) ?_))
      refine Evt.bind (Evt.const _) ?_
      have hz := outOf_size ds
      have e1 : strOfNums [(48 + Int.tmod (bt s (ds.length : Int)) 8) % 256] = ⟨#[UInt8.ofNat ((48 + Int.tmod (bt s (ds.length : Int)) 8) % 256).toNat]⟩ := rfl
      rw [e1]
      refine Evt.pos (by rw [hz]; show ds.length + 2 + 1 ≤ _; omega) ?_
      rw [outOf_snoc, w64 (by omega) (by omega)]
      rw [List.length_append, List.length_singleton, show ((ds.length + 1 : Nat) : Int) = (ds.length : Int) + 1 from by omega] at h1
      exact h1
    · obtain ⟨c, h1, h2⟩ := fin ds (by omega) hall
      refine ⟨c, Evt.step (fun k => by rw [staddalaw06_code.l0]) ?_, h2⟩
      refine Evt.neg hx ?_
      rw [h1]; exact Evt.const _

theorem code_ev (s : ByteArray) (hs : s.size ≤ 9223372036854775807) : ∃ c, Evt (fun k => staddalaw06_code.f k s) c ∧ okc c :=
  code_from s hs 8 [] rfl (fun b hb => by simp at hb)

set_option maxRecDepth 1000000 in
theorem awake_true : staddalaw06_awake.f 200 = some true := by kernel_rfl
end Go.Proofs.YtpnhpbklbgbjbaaGreatDoor.PHeapValues
namespace Go.Proofs.YtpnhpbklbgbjbaaGreatDoor.PHeapValues
set_option linter.unusedVariables false
set_option linter.unusedSimpArgs false
open Go Go.RowKit Go.Proofs.YtpnhpbklbgbjbaaGreatDoorW.PrintWords Go.Proofs.YtpnhpbklbgbjbaaGreatDoorW.PrintLast Go.Proofs.YtpnhpbklbgbjbaaGreatDoorW.PrintMore Go.Proofs.YtpnhpbklbgbjbaaGreatDoor.UEv Go.Proofs.YtpnhpbklbgbjbaaGreatDoor.HSpec Go.Proofs.YtpnhpbklbgbjbaaGreatDoor.HCode

def okd (b : UInt8) : Bool := decide (48 ≤ b.toNat) && decide (b.toNat ≤ 55)
def okB (s : ByteArray) : Bool := decide (3 ≤ s.size) && (decide (s.size ≤ 10) && (((s.extract 0 2).toList == [48, 46]) && (s.extract 2 s.size).data.toList.all okd))
def chk (s : ByteArray) : Int := if okB s = true then 0 else 60

theorem okc_of {s : ByteArray} (h : okB s = true) : okc s := by
  unfold okB at h
  simp only [Bool.and_eq_true, decide_eq_true_eq, beq_iff_eq] at h
  obtain ⟨h1, h2, h3, h4⟩ := h
  refine ⟨?_, h2, h3⟩
  unfold isCode
  simp only [Bool.and_eq_true, decide_eq_true_eq]
  exact ⟨⟨h1, by omega⟩, h4⟩

theorem mem_dropWhile {α : Type} (p : α → Bool) : ∀ (l : List α) (b : α), b ∈ l → p b = false → b ∈ l.dropWhile p
  | [], _, h, _ => h
  | x :: l, b, h, hp => by
    rw [List.dropWhile_cons]
    by_cases hx : p x = true
    · rw [if_pos hx]
      rcases List.mem_cons.1 h with rfl | h
      · rw [hp] at hx; cases hx
      · exact mem_dropWhile p l b h hp
    · rw [if_neg hx]; exact h

theorem cut_okd : ((List.range 256).all fun n => ([48, 49, 50, 51, 52, 53, 54, 55] : List UInt8).contains (UInt8.ofNat n) == okd (UInt8.ofNat n)) = true := by kernel_rfl
theorem cut_is (b : UInt8) : ([48, 49, 50, 51, 52, 53, 54, 55] : List UInt8).contains b = okd b := by
  have h := List.all_eq_true.1 cut_okd b.toNat (List.mem_range.2 b.toNat_lt)
  have e : UInt8.ofNat b.toNat = b := by simp
  rw [e] at h
  exact eq_of_beq h

theorem trim_nil (l : List UInt8) : Lib.trimS l [48, 49, 50, 51, 52, 53, 54, 55] = [] ↔ l.all okd = true := by
  have hp : ∀ b, (([48, 49, 50, 51, 52, 53, 54, 55] : List UInt8).contains b) = okd b := cut_is
  constructor
  · intro h
    rw [List.all_eq_true]
    intro b hb
    refine Classical.byContradiction fun hn => ?_
    have hf : ([48, 49, 50, 51, 52, 53, 54, 55] : List UInt8).contains b = false := by rw [hp]; simpa using hn
    have h1 : b ∈ Lib.trimRightS l [48, 49, 50, 51, 52, 53, 54, 55] := by
      unfold Lib.trimRightS
      rw [List.mem_reverse]
      exact mem_dropWhile _ _ b (List.mem_reverse.2 hb) hf
    have h2 : b ∈ Lib.trimS l [48, 49, 50, 51, 52, 53, 54, 55] := by
      unfold Lib.trimS Lib.trimLeftS
      exact mem_dropWhile _ _ b h1 hf
    rw [h] at h2
    simp at h2
  · intro h
    have hr : Lib.trimRightS l [48, 49, 50, 51, 52, 53, 54, 55] = [] := by
      unfold Lib.trimRightS
      rw [List.reverse_eq_nil_iff]
      refine dropWhile_all _ _ (fun b hb => ?_)
      rw [hp]
      exact List.all_eq_true.1 h b (List.mem_reverse.1 hb)
    unfold Lib.trimS
    rw [hr]
    rfl

theorem heap_chk (s : ByteArray) (hs : s.size ≤ 140737488351232) : heap_Check.f s = some (chk s) := by
  by_cases hok : okB s = true
  · unfold chk; rw [if_pos hok]; exact check_ok (okc_of hok)
  · unfold chk
    rw [if_neg hok]
    have e2 : (⟨#[48, 46]⟩ : ByteArray).size = 2 := rfl
    by_cases h2 : 2 ≤ s.size
    · have hP : stringslite_HasPrefix.f s (⟨#[48, 46]⟩ : ByteArray) = some ((s.extract 0 2).toList == [48, 46]) := by
        unfold stringslite_HasPrefix.f
        rw [e2, if_pos (by omega), if_pos (by omega), if_pos (by omega)]
        have e3 : (⟨#[48, 46]⟩ : ByteArray).toList = [48, 46] := by kernel_rfl
        rw [e3]
        rfl
      by_cases h3 : ((s.extract 0 2).toList == [48, 46]) = true
      · rw [h3] at hP
        have hC : strings_CutPrefix.f s (⟨#[48, 46]⟩ : ByteArray) = some (s.extract 2 s.size, true) := by
          unfold strings_CutPrefix.f stringslite_CutPrefix.f
          rw [hP]
          simp only [Option.bind_some, if_true]
          rw [e2, if_pos (by omega), if_pos (by omega)]
          rfl
        have hex : (s.extract 2 s.size).size = s.size - 2 := by rw [ByteArray.size_extract]; omega
        unfold heap_Check.f
        rw [hC]
        simp only [Option.bind_some, if_true]
        by_cases h4 : s.size < 3
        · rw [if_pos (by omega)]
        · rw [if_neg (by omega)]
          by_cases h5 : s.size > 10
          · rw [if_pos (by omega)]
          · rw [if_neg (by omega)]
            have hT : strings_Trim.f (s.extract 2 s.size) (⟨#[48, 49, 50, 51, 52, 53, 54, 55]⟩ : ByteArray) = some ⟨(Lib.trimS (s.extract 2 s.size).data.toList [48, 49, 50, 51, 52, 53, 54, 55]).toArray⟩ := by
              unfold strings_Trim.f
              rw [if_pos ⟨by kernel_rfl, of_decide_eq_true (by kernel_rfl), by omega⟩]
            rw [hT]
            simp only [Option.bind_some]
            rw [if_neg]
            rw [ByteArray.toList_eq]
            intro hn
            have hn' : Lib.trimS (s.extract 2 s.size).data.toList [48, 49, 50, 51, 52, 53, 54, 55] = [] := by simpa using hn
            have := (trim_nil _).1 hn'
            apply hok
            unfold okB
            rw [this, h3, decide_eq_true (show 3 ≤ s.size by omega), decide_eq_true (show s.size ≤ 10 by omega)]
            rfl
      · have h3' : ((s.extract 0 2).toList == [48, 46]) = false := by simpa using h3
        rw [h3'] at hP
        unfold heap_Check.f strings_CutPrefix.f stringslite_CutPrefix.f
        rw [hP]
        simp
    · have hP : stringslite_HasPrefix.f s (⟨#[48, 46]⟩ : ByteArray) = some false := by
        unfold stringslite_HasPrefix.f
        rw [e2, if_neg (by omega)]
      unfold heap_Check.f strings_CutPrefix.f stringslite_CutPrefix.f
      rw [hP]
      simp

theorem rchk_from (s : ByteArray) (hs : s.size ≤ 10) (h3 : 2 ≤ s.size) (dd : Nat) : ∀ i : Nat, 2 ≤ i → s.size = i + dd →
    Evt (fun k => staddaref06_Check.l0 k s (i : Int)) (if ((s.extract i s.size).data.toList.all okd) = true then 0 else 60) := by
  induction dd with
  | zero =>
    intro i h2 hi
    refine Evt.step (fun k => by rw [staddaref06_Check.l0]) ?_
    refine Evt.neg (by omega) ?_
    have e : (s.extract i s.size).data.toList = [] := by
      apply List.length_eq_zero_iff.1
      rw [Array.length_toList]
      show (s.extract i s.size).size = 0
      rw [ByteArray.size_extract]; omega
    rw [e, if_pos (by rfl)]
    exact Evt.const _
  | succ dd ih =>
    intro i h2 hi
    have hn := ih (i + 1) (by omega) (by omega)
    have hlt : i < s.size := by omega
    have e : (s.extract i s.size).data.toList = s[i] :: (s.extract (i + 1) s.size).data.toList := by
      rw [ByteArray.data_extract, ByteArray.data_extract, Array.toList_extract, Array.toList_extract]
      rw [List.extract_eq_take_drop, List.extract_eq_take_drop]
      have hl : i < s.data.toList.length := by rw [Array.length_toList]; exact hlt
      rw [List.drop_eq_getElem_cons hl]
      rw [show s.size - i = (s.size - (i + 1)) + 1 by omega, List.take_succ_cons]
      rfl
    have eb : bt s (i : Int) = ((s[i]).toNat : Int) := by
      unfold bt
      rw [dif_pos (by omega)]
      rfl
    refine Evt.step (fun k => by rw [staddaref06_Check.l0]) ?_
    refine Evt.pos (by omega) (Evt.pos (by omega) ?_)
    rw [eb, e, List.all_cons]
    by_cases a : ((s[i]).toNat : Int) < 48
    · refine Evt.pos a ?_
      rw [if_neg (by unfold okd; rw [decide_eq_false (show ¬ 48 ≤ (s[i]).toNat by omega)]; simp)]
      exact Evt.const _
    · refine Evt.neg a ?_
      by_cases b : ((s[i]).toNat : Int) > 55
      · refine Evt.pos b ?_
        rw [if_neg (by unfold okd; rw [decide_eq_false (show ¬ (s[i]).toNat ≤ 55 by omega)]; simp)]
        exact Evt.const _
      · refine Evt.neg b ?_
        have : okd s[i] = true := by unfold okd; rw [decide_eq_true (show 48 ≤ (s[i]).toNat by omega), decide_eq_true (show (s[i]).toNat ≤ 55 by omega)]; rfl
        rw [this, Bool.true_and, w64 (by omega) (by omega)]
        exact_mod_cast hn

theorem ref_chk (s : ByteArray) : Evt (fun k => staddaref06_Check.f k s) (chk s) := by
  have jt : okB s = false → Evt (fun k => staddaref06_Check.j0 k s true) (chk s) := fun h => by
    unfold chk
    rw [h, if_neg (by simp)]
    exact Evt.step (fun k => by rw [staddaref06_Check.j0]) (Evt.pos rfl (Evt.const _))
  refine Evt.of_eq (fun k => by rw [staddaref06_Check.f]) ?_
  by_cases h1 : s.size < 3
  · refine Evt.pos (by omega) (jt ?_)
    unfold okB; rw [decide_eq_false (show ¬ 3 ≤ s.size by omega)]; rfl
  refine Evt.neg (by omega) ?_
  by_cases h2 : s.size > 10
  · refine Evt.pos (by omega) (jt ?_)
    unfold okB; rw [decide_eq_false (show ¬ s.size ≤ 10 by omega)]; simp
  refine Evt.neg (by omega) (Evt.pos (by omega) (Evt.pos (by omega) ?_))
  by_cases h3 : (s.extract 0 2).toList = [48, 46]
  · rw [show ((s.extract 0 2).toList != ([48, 46] : List UInt8)) = false from by simp [h3]]
    refine Evt.step (fun k => by rw [staddaref06_Check.j0]) ?_
    refine Evt.neg (by simp) ?_
    have := rchk_from s (by omega) (by omega) (s.size - 2) 2 (by omega) (by omega)
    have e : chk s = (if ((s.extract 2 s.size).data.toList.all okd) = true then 0 else 60) := by
      unfold chk okB
      rw [decide_eq_true (show 3 ≤ s.size by omega), decide_eq_true (show s.size ≤ 10 by omega), h3]
      simp
    rw [e]
    exact this
  · rw [show ((s.extract 0 2).toList != ([48, 46] : List UInt8)) = true from by simp [h3]]
    refine jt ?_
    unfold okB
    have : ((s.extract 0 2).toList == [48, 46]) = false := by simp [h3]
    rw [this]; simp
end Go.Proofs.YtpnhpbklbgbjbaaGreatDoor.PHeapValues
namespace Go.Proofs.YtpnhpbklbgbjbaaGreatDoor.PHeapValues
set_option linter.unusedVariables false
set_option linter.unusedSimpArgs false
open Go Go.RowKit Go.Proofs.YtpnhpbklbgbjbaaGreatDoorW.PrintWords Go.Proofs.YtpnhpbklbgbjbaaGreatDoorW.PrintLast Go.Proofs.YtpnhpbklbgbjbaaGreatDoorW.PrintMore Go.Proofs.YtpnhpbklbgbjbaaGreatDoor.UEv Go.Proofs.YtpnhpbklbgbjbaaGreatDoor.HSpec Go.Proofs.YtpnhpbklbgbjbaaGreatDoor.HCode

theorem mexN_len (y : List Int) : mexN y ≤ y.length := pigeon y (mexN y) (mexN_spec y).2

theorem index_at (S : List Bool) (hSl : S.length ≤ 1000000) (m : Nat) (hm : m < S.length) (h1 : S.getD m false = false) (h2 : ∀ v, v < m → S.getD v false = true) (dd : Nat) : ∀ v : Nat, m = v + dd →
    Evt (fun k => slices_Index_bool_bool.l0 k S false (S.length : Int) (v : Int)) (m : Int) := by
  induction dd with
  | zero =>
    intro v hv
    obtain rfl : m = v := by omega
    refine Evt.step (fun k => by rw [slices_Index_bool_bool.l0]) ?_
    refine Evt.pos (by omega) (Evt.pos (by omega) (Evt.pos (by omega) (Evt.pos ?_ (Evt.const _))))
    unfold rdOf; rw [Int.toNat_natCast, h1]; rfl
  | succ dd ih =>
    intro v hv
    refine Evt.step (fun k => by rw [slices_Index_bool_bool.l0]) ?_
    refine Evt.pos (by omega) (Evt.pos (by omega) (Evt.pos (by omega) (Evt.neg ?_ ?_)))
    · unfold rdOf; rw [Int.toNat_natCast, h2 v (by omega)]; simp
    · have := ih (v + 1) (by omega)
      rw [w64 (by omega) (by omega)]
      exact_mod_cast this

theorem contains_snoc (l : List Int) (a v : Int) : (l ++ [a]).contains v = (l.contains v || (v == a)) := by
  apply Bool.eq_iff_iff.2
  simp

theorem miss_from (y : List Int) (hy : y.length ≤ 1000) (dd : Nat) : ∀ (i : Nat) (S : List Bool), y.length = i + dd → S.length = y.length + 1 → (∀ v : Nat, v < y.length + 1 → S.getD v false = (y.take i).contains (v : Int)) →
    Evt (fun k => heap_Missing.l0 k S y (y.length : Int) (i : Int)) (mexN y : Int) := by
  induction dd with
  | zero =>
    intro i S hi hS hval
    refine Evt.step (fun k => by rw [heap_Missing.l0]) ?_
    refine Evt.neg (by omega) ?_
    rw [List.take_of_length_le (by omega)] at hval
    have hm := mexN_len y
    have hspec := mexN_spec y
    have := index_at S (by omega) (mexN y) (by omega) (by rw [hval _ (by omega)]; simpa using hspec.1) (fun v hv => by rw [hval _ (by omega)]; simpa using hspec.2 v hv) (mexN y) 0 (by omega)
    refine Evt.bind (f := fun k => slices_Index_bool_bool.f k S false) (Evt.of_eq (fun k => by rw [slices_Index_bool_bool.f]; rfl) this) (Evt.const _)
  | succ dd ih =>
    intro i S hi hS hval
    have hil : i < y.length := by omega
    have hr : rd y (i : Int) = y[i] := by
      unfold rd; rw [Int.toNat_natCast, List.getD_eq_getElem?_getD, List.getElem?_eq_getElem hil]; rfl
    have htake : y.take (i + 1) = y.take i ++ [y[i]] := by rw [List.take_add_one, List.getElem?_eq_getElem hil]; rfl
    have same : (∀ v : Nat, v < y.length + 1 → ¬ y[i] = (v : Int)) → ∀ v : Nat, v < y.length + 1 → S.getD v false = (y.take (i + 1)).contains (v : Int) := fun hne v hv => by
      rw [hval v hv, htake, contains_snoc]
      have : ((v : Int) == y[i]) = false := beq_eq_false_iff_ne.mpr (fun e => hne v hv e.symm)
      rw [this, Bool.or_false]
    refine Evt.step (fun k => by rw [heap_Missing.l0]) ?_
    refine Evt.pos (by omega) (Evt.pos (by omega) (Evt.pos (by omega) ?_))
    rw [hr, w64 (x := (i : Int) + 1) (by omega) (by omega)]
    have e1 : ((i + 1 : Nat) : Int) = (i : Int) + 1 := by omega
    by_cases h0 : y[i] ≥ 0
    · refine Evt.pos h0 ?_
      by_cases h1 : y[i] < (S.length : Int)
      · refine Evt.pos h1 (Evt.pos h0 ?_)
        have := ih (i + 1) (S.set (y[i]).toNat true) (by omega) (by simpa using hS) (fun v hv => by
          rw [htake, contains_snoc, List.getD_eq_getElem?_getD, List.getElem?_set]
          by_cases he : (y[i]).toNat = v
          · rw [if_pos he, if_pos (by omega)]
            have : ((v : Int) == y[i]) = true := beq_iff_eq.mpr (by omega)
            rw [this, Bool.or_true]
            rfl
          · rw [if_neg he, ← List.getD_eq_getElem?_getD, hval v hv]
            have : ((v : Int) == y[i]) = false := beq_eq_false_iff_ne.mpr (by omega)
            rw [this, Bool.or_false])
        rw [e1] at this
        exact this
      · refine Evt.neg h1 ?_
        have := ih (i + 1) S (by omega) hS (same (fun v hv e => by omega))
        rw [e1] at this
        exact this
    · refine Evt.neg h0 ?_
      have := ih (i + 1) S (by omega) hS (same (fun v hv e => by omega))
      rw [e1] at this
      exact this

theorem miss_ev (y : List Int) (hy : y.length ≤ 1000) : Evt (fun k => heap_Missing.f k y) (mexN y : Int) := by
  refine Evt.of_eq (fun k => by rw [heap_Missing.f]) ?_
  rw [w64 (by omega) (by omega)]
  refine Evt.pos (by omega) (Evt.pos (by omega) ?_)
  have e : ((y.length : Int) + 1).toNat = y.length + 1 := by omega
  rw [e]
  exact miss_from y hy y.length 0 (List.replicate (y.length + 1) false) (by omega) (by simp) (fun v hv => by simp [List.getD_eq_getElem?_getD, List.getElem?_replicate, hv])

theorem rmiss_scan (y : List Int) (hy : y.length ≤ 1000) (n : Int) (r : Int) (h1 : y.contains n = true → Evt (fun k => staddaref06_Missing.l0 k y (wrap64 (n + 1))) r) (h2 : y.contains n = false → n = r) (dd : Nat) : ∀ i : Nat, y.length = i + dd →
    Evt (fun k => staddaref06_Missing.l1 k y n ((y.take i).contains n) (i : Int)) r := by
  induction dd with
  | zero =>
    intro i hi
    refine Evt.step (fun k => by rw [staddaref06_Missing.l1]) ?_
    refine Evt.neg (by omega) ?_
    rw [List.take_of_length_le (by omega)]
    cases hc : y.contains n with
    | true => exact Evt.pos rfl (h1 hc)
    | false =>
      refine Evt.neg (by simp) ?_
      rw [h2 hc]
      exact Evt.const _
  | succ dd ih =>
    intro i hi
    have hil : i < y.length := by omega
    have hr : rd y (i : Int) = y[i] := by
      unfold rd; rw [Int.toNat_natCast, List.getD_eq_getElem?_getD, List.getElem?_eq_getElem hil]; rfl
    have htake : y.take (i + 1) = y.take i ++ [y[i]] := by rw [List.take_add_one, List.getElem?_eq_getElem hil]; rfl
    have e1 : ((i + 1 : Nat) : Int) = (i : Int) + 1 := by omega
    have hn := ih (i + 1) (by omega)
    rw [e1, htake] at hn
    refine Evt.step (fun k => by rw [staddaref06_Missing.l1]) ?_
    refine Evt.pos (by omega) ?_
    rw [w64 (x := (i : Int) + 1) (by omega) (by omega), hr]
    cases hc : (y.take i).contains n with
    | true =>
      refine Evt.pos rfl ?_
      rw [List.contains_eq_mem] at hc
      have : (y.take i ++ [y[i]]).contains n = true := by
        rw [List.contains_eq_mem]
        simp only [decide_eq_true_eq] at hc ⊢
        exact List.mem_append_left _ hc
      rw [this] at hn
      exact hn
    | false =>
      refine Evt.neg (by simp) (Evt.pos (by omega) ?_)
      have : (y.take i ++ [y[i]]).contains n = (y[i] == n) := by
        rw [List.contains_eq_mem] at hc ⊢
        simp only [decide_eq_false_iff_not] at hc
        apply Bool.eq_iff_iff.2
        simp only [decide_eq_true_eq, List.mem_append, List.mem_singleton, beq_iff_eq]
        exact ⟨fun h => (h.resolve_left hc).symm, fun h => .inr h.symm⟩
      rw [this] at hn
      exact hn

theorem rmiss_from (y : List Int) (hy : y.length ≤ 1000) (dd : Nat) : ∀ n : Nat, mexN y = n + dd → Evt (fun k => staddaref06_Missing.l0 k y (n : Int)) (mexN y : Int) := by
  have hm := mexN_len y
  have hspec := mexN_spec y
  induction dd with
  | zero =>
    intro n hn
    obtain rfl : mexN y = n := by omega
    refine Evt.step (fun k => by rw [staddaref06_Missing.l0]) ?_
    exact rmiss_scan y hy _ _ (fun h => absurd (by simpa using h) hspec.1) (fun _ => rfl) y.length 0 (by omega)
  | succ dd ih =>
    intro n hn
    have e1 : ((n + 1 : Nat) : Int) = (n : Int) + 1 := by omega
    refine Evt.step (fun k => by rw [staddaref06_Missing.l0]) ?_
    refine rmiss_scan y hy _ _ (fun _ => ?_) (fun h => ?_) y.length 0 (by omega)
    · have := ih (n + 1) (by omega)
      rw [e1] at this
      rw [w64 (by omega) (by omega)]
      exact this
    · have := hspec.2 n (by omega)
      rw [List.contains_eq_mem] at h
      simp [this] at h
theorem rmiss_ev (y : List Int) (hy : y.length ≤ 1000) : Evt (fun k => staddaref06_Missing.f k y) (mexN y : Int) := rmiss_from y hy (mexN y) 0 (by omega)
end Go.Proofs.YtpnhpbklbgbjbaaGreatDoor.PHeapValues
namespace Go.Proofs.YtpnhpbklbgbjbaaGreatDoor.PHeapValues
set_option linter.unusedVariables false
set_option linter.unusedSimpArgs false
open Go Go.RowKit Go.Proofs.YtpnhpbklbgbjbaaGreatDoorW.PrintWords Go.Proofs.YtpnhpbklbgbjbaaGreatDoorW.PrintLast Go.Proofs.YtpnhpbklbgbjbaaGreatDoorW.PrintMore Go.Proofs.YtpnhpbklbgbjbaaGreatDoor.UEv Go.Proofs.YtpnhpbklbgbjbaaGreatDoor.HSpec Go.Proofs.YtpnhpbklbgbjbaaGreatDoor.HCode

theorem same_from (V : List Int) (hV : V.length ≤ 3000) (dd : Nat) : ∀ i : Nat, V.length = i + dd → Evt (fun k => staddalaw06_same.l0 k V V (i : Int)) true := by
  induction dd with
  | zero =>
    intro i hi
    exact Evt.step (fun k => by rw [staddalaw06_same.l0]) (Evt.neg (by omega) (Evt.const _))
  | succ dd ih =>
    intro i hi
    refine Evt.step (fun k => by rw [staddalaw06_same.l0]) ?_
    refine Evt.pos (by omega) (Evt.pos (by omega) (Evt.pos (by omega) (Evt.pos rfl ?_)))
    have := ih (i + 1) (by omega)
    rw [show ((i + 1 : Nat) : Int) = (i : Int) + 1 by omega] at this
    rw [w64 (by omega) (by omega)]
    exact this
theorem same_ev (V : List Int) (hV : V.length ≤ 3000) : Evt (fun k => staddalaw06_same.f k V V) true := by
  refine Evt.of_eq (fun k => by rw [staddalaw06_same.f]) (Evt.pos rfl ?_)
  exact same_from V hV V.length 0 (by omega)

theorem awake_ev : Evt (fun k => staddalaw06_awake.f k) true := by
  refine ⟨200, fun k hk => ?_⟩
  obtain ⟨j, rfl⟩ := Nat.le.dest hk
  exact staddalaw06_awake.up awake_true j

theorem hv_j3 (a0 : ByteArray) (hs : a0.size ≤ 140737488351232) (x9 : Int) (h9 : x9 = 0 ∨ x9 = 1) (hn : ∀ (n' : Int) (c : ByteArray), okc c → Evt (fun k => staddalaw06_HeapValues.l0 k a0 n' c (x9 + 1)) true) (x1 : Int) (x8 : ByteArray) (h8 : x8.size ≤ 140737488351232) :
    Evt (fun k => staddalaw06_HeapValues.j3 k a0 x1 x8 x9) true := by
  obtain ⟨c, hc1, hc2⟩ := code_ev a0 (by omega)
  have e9 : wrap64 (x9 + 1) = x9 + 1 := w64 (by omega) (by omega)
  refine Evt.step (fun k => by rw [staddalaw06_HeapValues.j3]) ?_
  refine Evt.bind (ref_chk x8) ?_
  rw [e9]
  by_cases hok : okB x8 = true
  · have e : chk x8 = 0 := by unfold chk; rw [if_pos hok]
    rw [e]
    exact Evt.pos rfl (Evt.bind hc1 (hn _ c hc2))
  · have e : chk x8 = 60 := by unfold chk; rw [if_neg hok]
    have hh := heap_chk x8 h8
    rw [e] at hh
    rw [e]
    refine Evt.neg (by decide) ?_
    have hP : Evt (fun k => heap_Period.f k x8 100) (0, 0, false, 60) := Evt.of_eq (fun k => by rw [heap_Period.f, hh, Option.bind_some, if_neg (by decide)]) (Evt.const _)
    have hM : heap_Moves.f x8 [1] = some ([], 60) := by unfold heap_Moves.f; rw [hh, Option.bind_some, if_neg (by decide)]
    have hI : Evt (fun k => heap_IsPeriod.f k x8 100 0 1) false := Evt.of_eq (fun k => by rw [heap_IsPeriod.f, hh, Option.bind_some, if_neg (by decide)]) (Evt.step (fun k => by rw [heap_IsPeriod.j0]) (Evt.pos rfl (Evt.const _)))
    refine Evt.bind hP ?_
    rw [hM]
    refine Evt.bind (f := fun _ => some (([] : List (List Int)), (60 : Int))) (Evt.const _) ?_
    refine Evt.pos rfl (Evt.pos rfl (Evt.neg (by simp) (Evt.pos rfl ?_)))
    refine Evt.bind hI (Evt.neg (by simp) ?_)
    exact Evt.bind hc1 (hn _ c hc2)

theorem hv_round (a0 : ByteArray) (hs : a0.size ≤ 140737488351232) (x9 : Int) (h9 : x9 = 0 ∨ x9 = 1) (hn : ∀ (n' : Int) (c : ByteArray), okc c → Evt (fun k => staddalaw06_HeapValues.l0 k a0 n' c (x9 + 1)) true) (x1 : Int) (x8 : ByteArray) (h8 : x8.size ≤ 140737488351232) :
    Evt (fun k => staddalaw06_HeapValues.l0 k a0 x1 x8 x9) true := by
  have h3 := hv_j3 a0 hs x9 h9 hn x1 x8 h8
  have bad : ∀ (x10 : Int), ¬ x10 = 0 → Evt (fun k => staddalaw06_HeapValues.j2 k a0 x1 x8 x9 x10 [] x10) true := fun x10 hx => by
    refine Evt.step (fun k => by rw [staddalaw06_HeapValues.j2]) ?_
    exact Evt.neg hx (Evt.pos rfl (Evt.pos rfl h3))
  refine Evt.step (fun k => by rw [staddalaw06_HeapValues.l0]) ?_
  refine Evt.pos (by omega) (Evt.bind (ref_chk x8) ?_)
  rw [heap_chk x8 h8]
  refine Evt.bind (f := fun _ => some (chk x8)) (Evt.const _) (Evt.pos rfl ?_)
  by_cases hok : okB x8 = true
  · have e : chk x8 = 0 := by unfold chk; rw [if_pos hok]
    have hc := okc_of hok
    have hh := heap_chk x8 h8
    rw [e] at hh
    rw [e]
    by_cases h0 : x1 < 0
    · have hv : heap_Values.f x8 x1 = some ([], 1) := by unfold heap_Values.f; rw [hh, Option.bind_some, if_pos rfl, if_pos h0]
      rw [hv]
      refine Evt.bind (f := fun _ => some (([] : List Int), (1 : Int))) (Evt.const _) (Evt.pos rfl (Evt.pos h0 ?_))
      exact Evt.step (fun k => by rw [staddalaw06_HeapValues.j1]) (Evt.pos rfl (bad 1 (by decide)))
    · by_cases h1 : x1 > 2000
      · have hv : heap_Values.f x8 x1 = some ([], 1) := by unfold heap_Values.f; rw [hh, Option.bind_some, if_pos rfl, if_neg h0, if_pos h1]
        rw [hv]
        refine Evt.bind (f := fun _ => some (([] : List Int), (1 : Int))) (Evt.const _) (Evt.pos rfl (Evt.neg h0 ?_))
        rw [decide_eq_true h1]
        exact Evt.step (fun k => by rw [staddalaw06_HeapValues.j1]) (Evt.pos rfl (bad 1 (by decide)))
      · have hv : heap_Values.f x8 x1 = some (vals (digs x8) x1.toNat, 0) := by unfold heap_Values.f; rw [hh, Option.bind_some, if_pos rfl, if_neg h0, if_neg h1, list_ok hc (by omega) (by omega), Option.bind_some]
        have hl := vals_length (digs x8) x1.toNat
        rw [hv]
        refine Evt.bind (f := fun _ => some (vals (digs x8) x1.toNat, (0 : Int))) (Evt.const _) (Evt.pos rfl (Evt.neg h0 ?_))
        rw [decide_eq_false h1]
        refine Evt.step (fun k => by rw [staddalaw06_HeapValues.j1]) (Evt.neg (by simp) ?_)
        refine Evt.step (fun k => by rw [staddalaw06_HeapValues.j2]) (Evt.pos rfl (Evt.pos rfl (Evt.pos ?_ ?_)))
        · rw [w64 (by omega) (by omega)]; simp only; omega
        · by_cases h2 : x1 ≤ 300
          · refine Evt.pos h2 (Evt.bind (rvals_ev x8 hc.code x1 (by omega) (by omega)) ?_)
            exact Evt.bind (same_ev (vals (digs x8) x1.toNat) (by omega)) (Evt.pos rfl h3)
          · exact Evt.neg h2 h3
  · have e : chk x8 = 60 := by unfold chk; rw [if_neg hok]
    have hh := heap_chk x8 h8
    rw [e] at hh
    have hv : heap_Values.f x8 x1 = some ([], 60) := by unfold heap_Values.f; rw [hh, Option.bind_some, if_neg (by decide)]
    rw [e, hv]
    refine Evt.bind (f := fun _ => some (([] : List Int), (60 : Int))) (Evt.const _) (Evt.neg (by decide) ?_)
    exact Evt.step (fun k => by rw [staddalaw06_HeapValues.j1]) (Evt.neg (by simp) (bad 60 (by decide)))

theorem hv_pure : staddalaw06_HeapValues.Pure := by
  intro a0 a1 l2 hs _ hl _ _
  have hm : mn (l2.length : Int) 40 = ((min l2.length 40 : Nat) : Int) := by unfold mn; split <;> omega
  have hf : Evt (fun k => staddalaw06_HeapValues.f k a0 a1 l2) true := by
    refine Evt.of_eq (fun k => by rw [staddalaw06_HeapValues.f]) ?_
    rw [hm, Int.toNat_natCast]
    have htl : (l2.take (min l2.length 40)).length ≤ 40 := by rw [List.length_take]; omega
    refine Evt.pos (by omega) (Evt.pos (by omega) (Evt.pos (by simp only [List.length_nil]; omega) ?_))
    refine Evt.bind (f := fun _ => some ([] ++ l2.take (min l2.length 40))) (Evt.const _) ?_
    refine Evt.bind (miss_ev _ (by rw [List.nil_append]; omega)) (Evt.bind (rmiss_ev _ (by rw [List.nil_append]; omega)) (Evt.pos rfl ?_))
    have last : ∀ (n' : Int) (c : ByteArray), okc c → Evt (fun k => staddalaw06_HeapValues.l0 k a0 n' c 2) true := fun n' c _ => by
      refine Evt.step (fun k => by rw [staddalaw06_HeapValues.l0]) (Evt.neg (by decide) ?_)
      exact Evt.bind awake_ev (Evt.const _)
    refine hv_round a0 hs 0 (.inl rfl) (fun n' c hc => ?_) a1 a0 hs
    exact hv_round a0 hs 1 (.inr rfl) last n' c (by have := hc.size; omega)
  exact hf.get
end Go.Proofs.YtpnhpbklbgbjbaaGreatDoor.PHeapValues
