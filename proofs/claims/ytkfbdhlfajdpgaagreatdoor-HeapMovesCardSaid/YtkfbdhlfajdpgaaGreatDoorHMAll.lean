/- A fuelled function from some fuel on. The reference's 'after' lists the moves, in the same order. The reference's values are the values. What Check says, and list, at a code. code makes a code of any string. The theorem of Sprague and Grundy, for heaps: no program in sight. What the reference's Moves builds: rows with their numbers put in, lists with their rows put in. No program in sight. The reference's Moves lists the moves of the code. HeapMoves: the plain law: what it computes is true, whatever the input. -/
import Derived.RowKit
import Derived.Test.YtkfbdhlfajdpgaaGreatDoorPHeapMovesx
import Derived.Test.YtkfbdhlfajdpgaaGreatDoorHNim
import Derived.Test.YtkfbdhlfajdpgaaGreatDoorHInP
namespace Go.Proofs.YtkfbdhlfajdpgaaGreatDoor.UEv
set_option linter.unusedVariables false
open Go Go.RowKit

def Evt {α : Type} (f : Nat → Option α) (r : α) : Prop := ∃ K, ∀ k, K ≤ k → f k = some r
variable {α β : Type}
theorem Evt.const (r : α) : Evt (fun _ => some r) r := ⟨0, fun _ _ => rfl⟩
theorem Evt.step {f g : Nat → Option α} {r : α} (h : ∀ k, f (k + 1) = g k) (hg : Evt g r) : Evt f r := by
  obtain ⟨K, hK⟩ := hg
  refine ⟨K + 1, fun k hk => ?_⟩
  obtain ⟨j, rfl⟩ : ∃ j, k = j + 1 := ⟨k - 1, by omega⟩
  rw [h]; exact hK j (by omega)
theorem Evt.unstep {f g : Nat → Option α} {r : α} (h : ∀ k, f (k + 1) = g k) (hf : Evt f r) : Evt g r := by
  obtain ⟨K, hK⟩ := hf
  exact ⟨K, fun k hk => by rw [← h]; exact hK (k + 1) (by omega)⟩
theorem Evt.pos {c : Prop} [Decidable c] {f g : Nat → Option α} {r : α} (h : c) (hf : Evt f r) : Evt (fun k => if c then f k else g k) r := by
  simp only [if_pos h]; exact hf
theorem Evt.neg {c : Prop} [Decidable c] {f g : Nat → Option α} {r : α} (h : ¬ c) (hf : Evt g r) : Evt (fun k => if c then f k else g k) r := by
  simp only [if_neg h]; exact hf
theorem Evt.bind {f : Nat → Option α} {a : α} {g : Nat → α → Option β} {r : β} (hf : Evt f a) (hg : Evt (fun k => g k a) r) : Evt (fun k => (f k).bind (g k)) r := by
  obtain ⟨K, hK⟩ := hf
  obtain ⟨L, hL⟩ := hg
  exact ⟨max K L, fun k hk => by simp only [hK k (by omega), Option.bind_some]; exact hL k (by omega)⟩
theorem Evt.uniq {f : Nat → Option α} {a b : α} (h : Evt f a) (g : Evt f b) : a = b := by
  obtain ⟨K, hK⟩ := h
  obtain ⟨L, hL⟩ := g
  exact Option.some.inj ((hK (max K L) (by omega)).symm.trans (hL (max K L) (by omega)))
theorem Evt.of_eq {f g : Nat → Option α} {r : α} (h : ∀ k, f k = g k) (hg : Evt g r) : Evt f r := by
  obtain ⟨K, hK⟩ := hg
  exact ⟨K, fun k hk => by rw [h]; exact hK k hk⟩
theorem Evt.get {f : Nat → Option α} {r : α} (h : Evt f r) : ∃ k, f k = some r := ⟨h.choose, h.choose_spec _ (Nat.le_refl _)⟩
theorem w64 {x : Int} (h1 : -9223372036854775808 ≤ x) (h2 : x ≤ 9223372036854775807) : wrap64 x = x := by unfold wrap64; omega
end Go.Proofs.YtkfbdhlfajdpgaaGreatDoor.UEv
namespace Go.Proofs.YtkfbdhlfajdpgaaGreatDoor.PHeapMoves
set_option linter.unusedVariables false
set_option linter.unusedSimpArgs false
open Go Go.RowKit Go.Proofs.YtkfbdhlfajdpgaaGreatDoorW.PrintWords Go.Proofs.YtkfbdhlfajdpgaaGreatDoorW.PrintLast Go.Proofs.YtkfbdhlfajdpgaaGreatDoorW.PrintMore Go.Proofs.YtkfbdhlfajdpgaaGreatDoor.UEv Go.Proofs.YtkfbdhlfajdpgaaGreatDoor.HSpec Go.Proofs.YtkfbdhlfajdpgaaGreatDoor.HCode Go.Proofs.YtkfbdhlfajdpgaaGreatDoor.HValues Go.Proofs.YtkfbdhlfajdpgaaGreatDoor.HList

def toRow (p : Int × Int) : List Int := if p.1 = 0 then [] else if p.2 = 0 then [p.1] else [p.1, p.2]

theorem mvAt_length (dg left : Int) (h : left ≤ 3000) : (mvAt dg left).length ≤ 3001 := by
  unfold mvAt
  split
  · simp
  · split
    · split <;> simp
    · rw [List.length_append]
      have h1 : (if bits .and .i64 dg 2 = 0 then [] else [(left, (0 : Int))]).length ≤ 1 := by split <;> simp
      have h2 : (if bits .and .i64 dg 4 = 0 then [] else prs left (left / 2).toNat).length ≤ 1500 := by
        split
        · simp
        · simp [prs]; omega
      omega
theorem mvs_length (d : List Int) (m : Int) (h : m ≤ 3000) : ∀ k, (mvs d m k).length ≤ 3001 * k
  | 0 => by simp [mvs_zero]
  | k + 1 => by
    rw [mvs_succ, List.length_append]
    have := mvs_length d m h k
    have := mvAt_length (d[k]?.getD 0) (m - k - 1) (by omega)
    omega
theorem mvs_high (d : List Int) (m : Int) (k j : Nat) (h : m ≤ k) : mvs d m (k + j) = mvs d m k := by
  induction j with
  | zero => rfl
  | succ j ih => rw [← Nat.add_assoc, mvs_succ, ih, mvAt_neg (by omega), List.append_nil]

theorem after_pairs (x0 : ByteArray) (n k6 : Int) (left : Int) (hl : 0 ≤ left) (hl2 : left ≤ 3000) (X : List (List Int)) (hX : X.length ≤ 1000000) (R : List (List Int)) (dd : Nat) : ∀ j : Nat, (left / 2).toNat = j + dd →
    Evt (fun k => staddaref06_after.l0 k x0 n (X ++ (prs left (left / 2).toNat).map toRow) (wrap64 (k6 + 1))) R →
    Evt (fun k => staddaref06_after.l1 k x0 n (X ++ (prs left j).map toRow) k6 left ((j : Int) + 1)) R := by
  induction dd with
  | zero =>
    intro j hj h
    refine Evt.step (fun k => by rw [staddaref06_after.l1]) ?_
    refine Evt.neg (by rw [w64 (by omega) (by omega)]; omega) ?_
    rw [hj] at h
    exact h
  | succ dd ih =>
    intro j hj h
    refine Evt.step (fun k => by rw [staddaref06_after.l1]) ?_
    refine Evt.pos (by rw [w64 (by omega) (by omega)]; omega) ?_
    refine Evt.pos (by simp [prs]; omega) ?_
    have := ih (j + 1) (by omega) h
    rw [prs_succ, List.map_append, ← List.append_assoc] at this
    rw [w64 (by omega) (by omega), w64 (by omega) (by omega)]
    have e : toRow ((j : Int) + 1, left - ((j : Int) + 1)) = [(j : Int) + 1, left - ((j : Int) + 1)] := by
      unfold toRow
      rw [if_neg (by simp only; omega), if_neg (by simp only; omega)]
    rw [List.map_cons, List.map_nil, e] at this
    exact_mod_cast this

theorem bits_dg (dg : Int) (h0 : 0 ≤ dg) (h1 : dg ≤ 7) : (dg % 2 = 1 ↔ ¬ bits .and .i64 dg 1 = 0) ∧ (Int.tmod (wrap64 (Int.tdiv dg 2)) 2 = 1 ↔ ¬ bits .and .i64 dg 2 = 0) ∧ (wrap64 (Int.tdiv dg 4) = 1 ↔ ¬ bits .and .i64 dg 4 = 0) := by
  have : dg = 0 ∨ dg = 1 ∨ dg = 2 ∨ dg = 3 ∨ dg = 4 ∨ dg = 5 ∨ dg = 6 ∨ dg = 7 := by omega
  rcases this with rfl | rfl | rfl | rfl | rfl | rfl | rfl | rfl <;> exact of_decide_eq_true (by kernel_rfl)

theorem bt_dig {s : ByteArray} (h : isCode s = true) (i : Nat) (hi : i < (digs s).length) : (bt s ((i : Int) + 2) - 48) % 256 = (digs s)[i]?.getD 0 := by
  have hc := isCode_of h
  have h2 := hc.two
  have hsz : (s.extract 2 s.size).size = (digs s).length := by rw [ByteArray.size_extract]; omega
  have hb := hc.byte i (by omega)
  have hr := hc.rng i
  have e : bt s ((i : Int) + 2) = 48 + (digs s)[i]?.getD 0 := by
    rw [← hb]
    unfold bt
    rw [dif_pos (by omega)]
    congr 2
    have : ((i : Int) + 2).toNat = 2 + i := by omega
    simp only [this]
    rw [ByteArray.getElem_extract]
  rw [e]; omega

set_option maxHeartbeats 4000000 in
theorem after_rest (s : ByteArray) (n : Int) (h : isCode s = true) (h1 : 1 ≤ n) (h2 : n ≤ 3000) (dd : Nat) : ∀ i : Nat, (digs s).length = i + dd →
    Evt (fun k => staddaref06_after.l0 k s n ((mvs (digs s) n i).map toRow) ((i : Int) + 1)) ((mv (digs s) n).map toRow) := by
  have hc := isCode_of h
  have hsz := hc.two
  have hle := hc.le
  induction dd with
  | zero =>
    intro i hi
    refine Evt.step (fun k => by rw [staddaref06_after.l0]) ?_
    refine Evt.neg (by rw [w64 (by omega) (by omega)]; omega) ?_
    refine Evt.step (fun k => by rw [staddaref06_after.j1]) ?_
    refine Evt.neg (by simp) ?_
    unfold mv
    rw [hi]
    exact Evt.const _
  | succ dd ih =>
    intro i hi
    have hnext := ih (i + 1) (by omega)
    refine Evt.step (fun k => by rw [staddaref06_after.l0]) ?_
    refine Evt.pos (by rw [w64 (by omega) (by omega)]; omega) ?_
    refine Evt.step (fun k => by rw [staddaref06_after.j1]) ?_
    by_cases hin : (i : Int) + 1 ≤ n
    · refine Evt.pos (by simpa using hin) ?_
      rw [w64 (x := (i : Int) + 1 + 1) (by omega) (by omega), show (i : Int) + 1 + 1 = (i : Int) + 2 from by omega]
      refine Evt.pos (by omega) ?_
      refine Evt.pos (by omega) ?_
      rw [bt_dig h i (by omega)]
      have hr := hc.rng i
      obtain ⟨dg, hdg⟩ : ∃ dg, (digs s)[i]?.getD 0 = dg := ⟨_, rfl⟩
      rw [hdg] at hr ⊢
      obtain ⟨b1, b2, b4⟩ := bits_dg dg hr.1 hr.2
      rw [w64 (x := n - ((i : Int) + 1)) (by omega) (by omega)]
      obtain ⟨left, hleft⟩ : ∃ left, n - ((i : Int) + 1) = left := ⟨_, rfl⟩
      rw [hleft]
      have hml := mvs_length (digs s) n h2 i
      have e : (mvs (digs s) n (i + 1)) = mvs (digs s) n i ++ mvAt dg left := by rw [mvs_succ, hdg]; congr 2; omega
      rw [e, List.map_append] at hnext
      have hnext' : Evt (fun k => staddaref06_after.l0 k s n ((mvs (digs s) n i).map toRow ++ (mvAt dg left).map toRow) (wrap64 ((i : Int) + 1 + 1))) ((mv (digs s) n).map toRow) := by
        rw [w64 (by omega) (by omega)]; exact_mod_cast hnext
      clear hnext
      obtain ⟨X, hX⟩ : ∃ X, (mvs (digs s) n i).map toRow = X := ⟨_, rfl⟩
      have hXl : X.length ≤ 400000 := by rw [← hX, List.length_map]; omega
      rw [hX] at hnext' ⊢
      obtain ⟨R, hR⟩ : ∃ R, (mv (digs s) n).map toRow = R := ⟨_, rfl⟩
      rw [hR] at hnext' ⊢
      have hl0 : 0 ≤ left := by omega
      have hl3 : left ≤ 3000 := by omega
      -- the end: the pairs
      have j5 : ∀ Y : List (List Int), Y.length ≤ 1000000 → X ++ (mvAt dg left).map toRow = Y ++ (if bits .and .i64 dg 4 = 0 then [] else (prs left (left / 2).toNat).map toRow) → Evt (fun k => staddaref06_after.j5 k s n Y ((i : Int) + 1) dg left) R := by
        intro Y hY he
        refine Evt.step (fun k => by rw [staddaref06_after.j5]) ?_
        by_cases h4 : bits .and .i64 dg 4 = 0
        · refine Evt.neg (fun hh => (b4.1 hh) h4) ?_
          rw [if_pos h4, List.append_nil] at he
          rw [← he]; exact hnext'
        · refine Evt.pos (b4.2 h4) ?_
          rw [if_neg h4] at he
          rw [he] at hnext'
          have := after_pairs s n ((i : Int) + 1) left hl0 hl3 Y hY R (left / 2).toNat 0 (by omega) hnext'
          simpa [prs_zero] using this
      have j3 : ∀ Y : List (List Int), Y.length ≤ 900000 → X ++ (mvAt dg left).map toRow = Y ++ ((if bits .and .i64 dg 2 = 0 ∨ left = 0 then [] else [[left]]) ++ (if bits .and .i64 dg 4 = 0 then [] else (prs left (left / 2).toNat).map toRow)) → Evt (fun k => staddaref06_after.j3 k s n Y ((i : Int) + 1) dg left) R := by
        intro Y hY he
        refine Evt.step (fun k => by rw [staddaref06_after.j3]) ?_
        by_cases h2' : bits .and .i64 dg 2 = 0
        · refine Evt.neg (fun hh => (b2.1 hh) h2') ?_
          refine Evt.step (fun k => by rw [staddaref06_after.j4]) ?_
          refine Evt.neg (by simp) ?_
          refine j5 Y (by omega) ?_
          rw [he, if_pos (.inl h2'), List.nil_append]
        · refine Evt.pos (b2.2 h2') ?_
          refine Evt.step (fun k => by rw [staddaref06_after.j4]) ?_
          by_cases hz : left = 0
          · refine Evt.neg (by simp; omega) ?_
            refine j5 Y (by omega) ?_
            rw [he, if_pos (.inr hz), List.nil_append]
          · refine Evt.pos (by simp; omega) ?_
            refine Evt.pos (by omega) ?_
            refine j5 _ (by simp; omega) ?_
            rw [he, if_neg (by simp [h2', hz]), List.append_assoc]
      have j2t : left = 0 → ¬ bits .and .i64 dg 1 = 0 → Evt (fun k => staddaref06_after.j2 k s n X ((i : Int) + 1) dg left true) R := by
        intro hz hb
        refine Evt.step (fun k => by rw [staddaref06_after.j2]) ?_
        refine Evt.pos rfl ?_
        refine Evt.pos (by omega) ?_
        refine j3 _ (by simp; omega) ?_
        rw [mvAt_zero1 hz hb, if_pos (.inr hz), List.append_assoc, hz]
        by_cases h4 : bits .and .i64 dg 4 = 0
        · rw [if_pos h4]; rfl
        · rw [if_neg h4]; rfl
      have j2f : (¬ left = 0 ∨ bits .and .i64 dg 1 = 0) → Evt (fun k => staddaref06_after.j2 k s n X ((i : Int) + 1) dg left false) R := by
        intro hb
        refine Evt.step (fun k => by rw [staddaref06_after.j2]) ?_
        refine Evt.neg (by simp) ?_
        refine j3 _ (by omega) ?_
        by_cases hz : left = 0
        · rw [mvAt_zero0 hz (hb.resolve_left (fun h => h hz)), if_pos (.inr hz), hz]
          by_cases h4 : bits .and .i64 dg 4 = 0
          · rw [if_pos h4]; rfl
          · rw [if_neg h4]; rfl
        · rw [mvAt_pos (by omega), List.map_append]
          congr 2
          · by_cases h2' : bits .and .i64 dg 2 = 0
            · rw [if_pos h2', if_pos (.inl h2')]; rfl
            · rw [if_neg h2', if_neg (by simp [h2', hz])]
              simp [toRow, hz]
          · by_cases h4 : bits .and .i64 dg 4 = 0
            · rw [if_pos h4, if_pos h4]; rfl
            · rw [if_neg h4, if_neg h4]
      by_cases hb : bits .and .i64 dg 1 = 0
      · refine Evt.neg (fun hh => (b1.1 hh) hb) ?_
        exact j2f (.inr hb)
      · refine Evt.pos (b1.2 hb) ?_
        by_cases hz : left = 0
        · rw [show (left == 0) = true from by simpa using hz]; exact j2t hz hb
        · rw [show (left == 0) = false from by simpa using hz]; exact j2f (.inl hz)
    · refine Evt.neg (by simpa using hin) ?_
      have e : mv (digs s) n = mvs (digs s) n i := by
        unfold mv; rw [hi]; exact mvs_high _ _ _ _ (by omega)
      rw [e]
      exact Evt.const _

theorem after_ev (s : ByteArray) (n : Int) (h : isCode s = true) (h1 : 1 ≤ n) (h2 : n ≤ 3000) : Evt (fun k => staddaref06_after.f k s n) ((mv (digs s) n).map toRow) := by
  have := after_rest s n h h1 h2 (digs s).length 0 (by omega)
  simpa [mvs_zero, staddaref06_after.f] using this
end Go.Proofs.YtkfbdhlfajdpgaaGreatDoor.PHeapMoves
namespace Go.Proofs.YtkfbdhlfajdpgaaGreatDoor.PHeapMoves
set_option linter.unusedVariables false
set_option linter.unusedSimpArgs false
open Go Go.RowKit Go.Proofs.YtkfbdhlfajdpgaaGreatDoorW.PrintWords Go.Proofs.YtkfbdhlfajdpgaaGreatDoorW.PrintLast Go.Proofs.YtkfbdhlfajdpgaaGreatDoorW.PrintMore Go.Proofs.YtkfbdhlfajdpgaaGreatDoor.UEv Go.Proofs.YtkfbdhlfajdpgaaGreatDoor.HSpec Go.Proofs.YtkfbdhlfajdpgaaGreatDoor.HCode Go.Proofs.YtkfbdhlfajdpgaaGreatDoor.HValues Go.Proofs.YtkfbdhlfajdpgaaGreatDoor.HList Go.Proofs.YtkfbdhlfajdpgaaGreatDoor.UBits

theorem rd_at0 (V : List Int) (i : Int) : rd V i = at0 V i := rfl

theorem rvals_l3 (x0 : ByteArray) (x1 : Int) (V : List Int) (x6 : Int) (S : List Bool) (m : Nat) (hm : m < S.length) (hSl : S.length ≤ 1000000) (h1 : S.getD m false = false) (h2 : ∀ v, v < m → S.getD v false = true) (hV : V.length ≤ 1000000) (R : List Int)
    (hR : Evt (fun k => staddaref06_Values.l0 k x0 x1 (V ++ [(m : Int)]) (wrap64 (x6 + 1))) R) (dd : Nat) : ∀ v : Nat, m = v + dd → Evt (fun k => staddaref06_Values.l3 k x0 x1 V x6 S (v : Int)) R := by
  induction dd with
  | zero =>
    intro v hv
    obtain rfl : m = v := by omega
    refine Evt.step (fun k => by rw [staddaref06_Values.l3]) ?_
    refine Evt.pos (by omega) ?_
    refine Evt.pos (by omega) ?_
    refine Evt.neg (by unfold rdOf; rw [Int.toNat_natCast, h1]; simp) ?_
    refine Evt.pos (by omega) ?_
    exact hR
  | succ dd ih =>
    intro v hv
    refine Evt.step (fun k => by rw [staddaref06_Values.l3]) ?_
    refine Evt.pos (by omega) ?_
    refine Evt.pos (by omega) ?_
    refine Evt.pos (by unfold rdOf; rw [Int.toNat_natCast]; exact h2 v (by omega)) ?_
    have := ih (v + 1) (by omega)
    rw [w64 (by omega) (by omega)]
    exact_mod_cast this

theorem xor_zero_left {a : Int} (h : 0 ≤ a) (h2 : a ≤ 1000000) : bits .xor .i64 0 a = a := by
  rw [xor_int (by omega) h (by omega) (by omega)]
  simp; omega
theorem xor_zero_right {a : Int} (h : 0 ≤ a) (h2 : a ≤ 1000000) : bits .xor .i64 a 0 = a := by
  rw [xor_int h (by omega) (by omega) (by omega)]
  simp; omega

theorem rvals_l2 (x0 : ByteArray) (x1 : Int) (V : List Int) (x6 : Int) (S : List Bool) (rows : List (List Int)) (j : Nat) (p : Int × Int) (hj : j < rows.length) (hrow : rd_L2 rows (j : Int) = toRow p) (hg : HSpec.Good V) (hVl : V.length ≤ 1000000)
    (hz : p.1 = 0 → p.2 = 0) (hp1 : 0 ≤ p.1) (hp2 : 0 ≤ p.2) (hp : p.1 + p.2 < V.length) (hv : 0 ≤ optv V p ∧ optv V p < V.length) (hS : V.length ≤ S.length) (R : List Int)
    (hR : Evt (fun k => staddaref06_Values.l1 k x0 x1 V x6 (S.set (optv V p).toNat true) rows (wrap64 ((j : Int) + 1))) R) :
    Evt (fun k => staddaref06_Values.l2 k x0 x1 V x6 S rows (j : Int) 0 0) R := by
  have hV0 : at0 V 0 = 0 := by have := hg.at0 (i := 0) (by omega) (by omega); omega
  have ha := hg.at0 hp1 (by omega)
  have hb := hg.at0 hp2 (by omega)
  have fin : ∀ (x : Int) (i : Int), x = optv V p → i = ((toRow p).length : Int) → Evt (fun k => staddaref06_Values.l2 k x0 x1 V x6 S rows (j : Int) x i) R := by
    intro x i hx hi
    refine Evt.step (fun k => by rw [staddaref06_Values.l2]) ?_
    refine Evt.pos (by omega) ?_
    refine Evt.pos (by omega) ?_
    refine Evt.neg (by rw [hrow]; omega) ?_
    refine Evt.pos (by omega) ?_
    refine Evt.pos (by omega) ?_
    rw [hx]; exact hR
  have step : ∀ (x : Int) (i : Nat) (q : Int), (toRow p)[i]? = some q → 0 ≤ q → q < V.length → i < 2 → Evt (fun k => staddaref06_Values.l2 k x0 x1 V x6 S rows (j : Int) (bits .xor .i64 x (at0 V q)) ((i : Int) + 1)) R → Evt (fun k => staddaref06_Values.l2 k x0 x1 V x6 S rows (j : Int) x (i : Int)) R := by
    intro x i q hq h0 h1 hi h
    have hil : i < (toRow p).length := (List.getElem?_eq_some_iff.1 hq).1
    have e : rd (rd_L2 rows (j : Int)) (i : Int) = q := by
      rw [hrow]; unfold rd
      rw [Int.toNat_natCast, List.getD_eq_getElem?_getD, hq]; rfl
    refine Evt.step (fun k => by rw [staddaref06_Values.l2]) ?_
    refine Evt.pos (by omega) ?_
    refine Evt.pos (by omega) ?_
    refine Evt.pos (by rw [hrow]; omega) ?_
    refine Evt.pos (by omega) ?_
    refine Evt.pos (by rw [e]; omega) ?_
    refine Evt.pos (by rw [e]; omega) ?_
    rw [e, w64 (by omega) (by omega)]
    exact h
  by_cases h1 : p.1 = 0
  · have e : toRow p = [] := by unfold toRow; rw [if_pos h1]
    refine fin 0 0 ?_ (by rw [e]; rfl)
    unfold optv xr
    rw [h1, hz h1, hV0, xor_zero_left (by omega) (by omega)]
  · by_cases h2 : p.2 = 0
    · have e : toRow p = [p.1] := by unfold toRow; rw [if_neg h1, if_pos h2]
      refine step 0 0 p.1 (by rw [e]; rfl) hp1 (by omega) (by omega) ?_
      rw [xor_zero_left ha.1 (by omega)]
      refine fin _ _ ?_ (by rw [e]; rfl)
      unfold optv xr
      rw [h2, hV0, xor_zero_right ha.1 (by omega)]
    · have e : toRow p = [p.1, p.2] := by unfold toRow; rw [if_neg h1, if_neg h2]
      refine step 0 0 p.1 (by rw [e]; rfl) hp1 (by omega) (by omega) ?_
      rw [xor_zero_left ha.1 (by omega)]
      refine step _ 1 p.2 (by rw [e]; rfl) hp2 (by omega) (by omega) ?_
      exact fin _ _ rfl (by rw [e]; rfl)

theorem mv_zero {d : List Int} {m : Int} {p : Int × Int} (h : p ∈ mv d m) : p.1 = 0 → p.2 = 0 := by
  unfold mv mvs at h
  obtain ⟨i, hi, hp⟩ := List.mem_flatMap.1 h
  unfold mvAt at hp
  split at hp
  · simp at hp
  · split at hp
    · split at hp
      · simp at hp
      · intro _; rw [List.mem_singleton.1 hp]
    · rcases List.mem_append.1 hp with hp | hp
      · split at hp
        · simp at hp
        · intro _; rw [List.mem_singleton.1 hp]
      · split at hp
        · simp at hp
        · have := mem_prs hp; omega

theorem rvals_l1 (x0 : ByteArray) (x1 : Int) (d V : List Int) (x6 : Int) (hg : HSpec.Good V) (hVl : V.length ≤ 3000) (L : Nat) (hL : V.length + 2 ≤ L) (hL2 : L ≤ 10000) (R : List Int)
    (hR : Evt (fun k => staddaref06_Values.l0 k x0 x1 (V ++ [(mexN (opts d V) : Int)]) (wrap64 (x6 + 1))) R) (hml : (mv d V.length).length ≤ 1000000) (dd : Nat) : ∀ (j : Nat) (S : List Bool), (mv d V.length).length = j + dd → S.length = L → (∀ v : Nat, v < L → S.getD v false = (((mv d V.length).take j).map (optv V)).contains (v : Int)) →
    Evt (fun k => staddaref06_Values.l1 k x0 x1 V x6 S ((mv d V.length).map toRow) (j : Int)) R := by
  induction dd with
  | zero =>
    intro j S hj hS hval
    refine Evt.step (fun k => by rw [staddaref06_Values.l1]) ?_
    refine Evt.neg (by rw [List.length_map]; omega) ?_
    have hspec := mexN_spec (opts d V)
    have hle : mexN (opts d V) ≤ V.length := by
      refine mexN_le _ _ (fun x hx => ?_)
      obtain ⟨y, hy, rfl⟩ := List.mem_map.1 hx
      exact (optv_bound hg (by omega) hy).2
    rw [List.take_of_length_le (by omega)] at hval
    refine rvals_l3 x0 x1 V x6 S (mexN (opts d V)) (by omega) (by omega) ?_ ?_ (by omega) R hR (mexN (opts d V)) 0 (by omega)
    · rw [hval _ (by omega)]
      have := hspec.1
      rw [show (mv d V.length).map (optv V) = opts d V from rfl]
      simpa using this
    · intro v hv
      rw [hval _ (by omega)]
      have := hspec.2 v hv
      rw [show (mv d V.length).map (optv V) = opts d V from rfl]
      simpa using this
  | succ dd ih =>
    intro j S hj hS hval
    have hjl : j < (mv d V.length).length := by omega
    obtain ⟨p, hp⟩ : ∃ p, (mv d V.length)[j]? = some p := ⟨_, List.getElem?_eq_getElem hjl⟩
    have hmem : p ∈ mv d V.length := List.mem_of_getElem? hp
    have hb := optv_bound hg (by omega) hmem
    obtain ⟨m1, m2, m3⟩ := mem_mv hmem
    refine Evt.step (fun k => by rw [staddaref06_Values.l1]) ?_
    refine Evt.pos (by rw [List.length_map]; omega) ?_
    refine rvals_l2 x0 x1 V x6 S _ j p (by rw [List.length_map]; omega) ?_ hg (by omega) (mv_zero hmem) m1 m2 (by omega) hb (by omega) R ?_
    · unfold rd_L2
      rw [Int.toNat_natCast, List.getD_eq_getElem?_getD, List.getElem?_map, hp]; rfl
    · have := ih (j + 1) (S.set (optv V p).toNat true) (by omega) (by simpa using hS) (fun v hv => ?_)
      · rw [w64 (by omega) (by omega)]
        exact_mod_cast this
      · rw [List.take_add_one, hp, List.map_append, List.getD_eq_getElem?_getD, List.getElem?_set]
        by_cases he : (optv V p).toNat = v
        · rw [if_pos he, if_pos (by omega)]
          have : optv V p = (v : Int) := by omega
          simp [this]
        · rw [if_neg he, ← List.getD_eq_getElem?_getD, hval v hv]
          have : ¬ (v : Int) = optv V p := by omega
          simp [this]

theorem rvals_l0 (s : ByteArray) (h : isCode s = true) (N : Nat) (hN : N ≤ 2000) (dd : Nat) : ∀ i : Nat, N = i + dd → Evt (fun k => staddaref06_Values.l0 k s (N : Int) (vals (digs s) i) ((i : Int) + 1)) (vals (digs s) N) := by
  induction dd with
  | zero =>
    intro i hi
    obtain rfl : N = i := by omega
    refine Evt.step (fun k => by rw [staddaref06_Values.l0]) ?_
    refine Evt.neg (by omega) ?_
    exact Evt.const _
  | succ dd ih =>
    intro i hi
    have hlen := vals_length (digs s) i
    refine Evt.step (fun k => by rw [staddaref06_Values.l0]) ?_
    rw [w64 (x := 2 * (N : Int)) (by omega) (by omega), w64 (x := 2 * (N : Int) + 4) (by omega) (by omega)]
    refine Evt.pos (by omega) ?_
    refine Evt.pos (by omega) ?_
    refine Evt.pos (by omega) ?_
    refine Evt.bind (after_ev s ((i : Int) + 1) h (by omega) (by omega)) ?_
    have hn : ((i : Int) + 1) = ((vals (digs s) i).length : Int) := by rw [hlen]; rfl
    have hml : (mv (digs s) (vals (digs s) i).length).length ≤ 1000000 := by
      have := mvs_length (digs s) ((vals (digs s) i).length : Int) (by omega) (digs s).length
      have := (isCode_of h).le
      unfold mv; omega
    have := rvals_l1 s (N : Int) (digs s) (vals (digs s) i) ((vals (digs s) i).length : Int) (vals_good _ _ (by omega)) (by omega) (2 * (N : Int) + 4).toNat (by omega) (by omega) (vals (digs s) N) (by
      have := ih (i + 1) (by omega)
      rw [← hn, w64 (by omega) (by omega)]
      exact_mod_cast this) hml (mv (digs s) (vals (digs s) i).length).length 0 (List.replicate (2 * (N : Int) + 4).toNat false) (by omega) (by simp) (fun v hv => by simp [List.getD_eq_getElem?_getD, List.getElem?_replicate, hv])
    rw [hn]
    exact_mod_cast this

theorem rvals_ev (s : ByteArray) (h : isCode s = true) (n : Int) (h0 : 0 ≤ n) (hn : n ≤ 2000) : Evt (fun k => staddaref06_Values.f k s n) (vals (digs s) n.toNat) := by
  obtain ⟨N, rfl⟩ := Int.eq_ofNat_of_zero_le h0
  have := rvals_l0 s h N (by omega) N 0 (by omega)
  rw [Int.toNat_natCast]
  exact this
end Go.Proofs.YtkfbdhlfajdpgaaGreatDoor.PHeapMoves
namespace Go.Proofs.YtkfbdhlfajdpgaaGreatDoor.PHeapMoves
set_option linter.unusedVariables false
set_option linter.unusedSimpArgs false
open Go Go.RowKit Go.Proofs.YtkfbdhlfajdpgaaGreatDoorW.PrintWords Go.Proofs.YtkfbdhlfajdpgaaGreatDoorW.PrintLast Go.Proofs.YtkfbdhlfajdpgaaGreatDoorW.PrintMore Go.Proofs.YtkfbdhlfajdpgaaGreatDoor.UEv Go.Proofs.YtkfbdhlfajdpgaaGreatDoor.HSpec Go.Proofs.YtkfbdhlfajdpgaaGreatDoor.HCode Go.Proofs.YtkfbdhlfajdpgaaGreatDoor.HValues Go.Proofs.YtkfbdhlfajdpgaaGreatDoor.HList Go.Proofs.YtkfbdhlfajdpgaaGreatDoor.UBits

structure okc (c : ByteArray) : Prop where
  code : isCode c = true
  size : c.size ≤ 10
  head : (c.extract 0 2).toList = [48, 46]

theorem dropWhile_all {α : Type} (p : α → Bool) : ∀ l : List α, (∀ b ∈ l, p b = true) → l.dropWhile p = []
  | [], _ => rfl
  | x :: l, h => by
    rw [List.dropWhile_cons, if_pos (h x (by simp))]
    exact dropWhile_all p l (fun b hb => h b (by simp [hb]))

theorem check_ok {c : ByteArray} (h : okc c) : heap_Check.f c = some 0 := by
  have hc := isCode_of h.code
  have hsz := hc.two
  have hps := hc.pos
  have hle := h.size
  have hP : stringslite_HasPrefix.f c (⟨#[48, 46]⟩ : ByteArray) = some true := by
    unfold stringslite_HasPrefix.f
    have e2 : (⟨#[48, 46]⟩ : ByteArray).size = 2 := rfl
    rw [e2, if_pos (by omega), if_pos (by omega), if_pos (by omega)]
    have : (((2 : Nat) : Int) : Int).toNat = 2 := rfl
    rw [this, h.head]
    exact congrArg some (by kernel_rfl)
  have hC : strings_CutPrefix.f c (⟨#[48, 46]⟩ : ByteArray) = some (c.extract 2 c.size, true) := by
    unfold strings_CutPrefix.f stringslite_CutPrefix.f
    rw [hP]
    simp only [Option.bind_some, if_true]
    have e2 : (⟨#[48, 46]⟩ : ByteArray).size = 2 := rfl
    rw [e2, if_pos (by omega), if_pos (by omega)]
    rfl
  have hex : (c.extract 2 c.size).size = (digs c).length := by rw [ByteArray.size_extract]; omega
  unfold heap_Check.f
  rw [hC]
  simp only [Option.bind_some, if_true]
  rw [if_neg (by omega), if_neg (by omega)]
  have hT : strings_Trim.f (c.extract 2 c.size) (⟨#[48, 49, 50, 51, 52, 53, 54, 55]⟩ : ByteArray) = some ⟨#[]⟩ := by
    unfold strings_Trim.f
    rw [if_pos ⟨by kernel_rfl, of_decide_eq_true (by kernel_rfl), by omega⟩]
    have hall := h.code
    unfold isCode at hall
    simp only [Bool.and_eq_true, decide_eq_true_eq] at hall
    have hall := hall.2
    have hr : Lib.trimRightS (c.extract 2 c.size).data.toList (⟨#[48, 49, 50, 51, 52, 53, 54, 55]⟩ : ByteArray).data.toList = [] := by
      unfold Lib.trimRightS
      rw [List.reverse_eq_nil_iff]
      refine dropWhile_all _ _ (fun b hb => ?_)
      have hb' := List.all_eq_true.1 hall b (List.mem_reverse.1 hb)
      simp only [Bool.and_eq_true, decide_eq_true_eq] at hb'
      have : b = 48 ∨ b = 49 ∨ b = 50 ∨ b = 51 ∨ b = 52 ∨ b = 53 ∨ b = 54 ∨ b = 55 := by
        have e : ∀ n : Nat, b.toNat = n → b = UInt8.ofNat n := fun n hn => by rw [← hn]; simp
        have : b.toNat = 48 ∨ b.toNat = 49 ∨ b.toNat = 50 ∨ b.toNat = 51 ∨ b.toNat = 52 ∨ b.toNat = 53 ∨ b.toNat = 54 ∨ b.toNat = 55 := by omega
        rcases this with h | h | h | h | h | h | h | h
        · exact .inl (e _ h)
        · exact .inr (.inl (e _ h))
        · exact .inr (.inr (.inl (e _ h)))
        · exact .inr (.inr (.inr (.inl (e _ h))))
        · exact .inr (.inr (.inr (.inr (.inl (e _ h)))))
        · exact .inr (.inr (.inr (.inr (.inr (.inl (e _ h))))))
        · exact .inr (.inr (.inr (.inr (.inr (.inr (.inl (e _ h)))))))
        · exact .inr (.inr (.inr (.inr (.inr (.inr (.inr (e _ h)))))))
      rcases this with rfl | rfl | rfl | rfl | rfl | rfl | rfl | rfl <;> exact (show List.contains _ _ = true from by kernel_rfl)
    unfold Lib.trimS
    rw [hr]
    rfl
  rw [hT]
  simp only [Option.bind_some]
  rw [if_pos (by kernel_rfl)]

theorem list_ok {c : ByteArray} (h : okc c) {n : Int} (h0 : 0 ≤ n) (h1 : n ≤ 2000) : heap_list.f c n = some (vals (digs c) n.toNat) := by
  unfold heap_list.f
  rw [if_pos ⟨h.code, h0, by omega⟩]

end Go.Proofs.YtkfbdhlfajdpgaaGreatDoor.PHeapMoves
namespace Go.Proofs.YtkfbdhlfajdpgaaGreatDoor.PHeapMoves
set_option linter.unusedVariables false
set_option linter.unusedSimpArgs false
open Go Go.RowKit Go.Proofs.YtkfbdhlfajdpgaaGreatDoorW.PrintWords Go.Proofs.YtkfbdhlfajdpgaaGreatDoorW.PrintLast Go.Proofs.YtkfbdhlfajdpgaaGreatDoorW.PrintMore Go.Proofs.YtkfbdhlfajdpgaaGreatDoor.UEv Go.Proofs.YtkfbdhlfajdpgaaGreatDoor.HSpec Go.Proofs.YtkfbdhlfajdpgaaGreatDoor.HCode

def outOf (ds : List UInt8) : ByteArray := ⟨(48 :: 46 :: ds).toArray⟩
theorem outOf_size (ds : List UInt8) : (outOf ds).size = ds.length + 2 := by simp [outOf, ByteArray.size]
theorem outOf_snoc (ds : List UInt8) (b : UInt8) : outOf ds ++ ⟨#[b]⟩ = outOf (ds ++ [b]) := by
  apply ByteArray.ext
  simp [outOf, ByteArray.data_append]
theorem outOf_ok (ds : List UInt8) (h0 : ds ≠ []) (h1 : ds.length ≤ 8) (h : ∀ b ∈ ds, 48 ≤ b.toNat ∧ b.toNat ≤ 55) : okc (outOf ds) := by
  have hl : 0 < ds.length := List.length_pos_iff.2 h0
  have hs := outOf_size ds
  refine ⟨?_, by omega, ?_⟩
  · unfold isCode
    have e : ((outOf ds).extract 2 (outOf ds).size).data.toList = ds := by
      rw [hs, ByteArray.data_extract]
      simp [outOf]
    rw [e]
    simp only [Bool.and_eq_true, decide_eq_true_eq]
    refine ⟨⟨by omega, by omega⟩, List.all_eq_true.2 (fun b hb => ?_)⟩
    simp only [Bool.and_eq_true, decide_eq_true_eq]
    exact h b hb
  · have e : (outOf ds).extract 0 2 = ⟨#[48, 46]⟩ := by
      apply ByteArray.ext
      rw [ByteArray.data_extract]
      apply Array.toList_inj.1
      simp [outOf]
    have e2 : (⟨#[48, 46]⟩ : ByteArray).toList = [48, 46] := by kernel_rfl
    rw [e]
    exact e2

theorem dig_byte (s : ByteArray) (i : Int) : 48 ≤ (UInt8.ofNat ((48 + Int.tmod (bt s i) 8) % 256).toNat).toNat ∧ (UInt8.ofNat ((48 + Int.tmod (bt s i) 8) % 256).toNat).toNat ≤ 55 := by
  have hb : 0 ≤ bt s i := by unfold bt; split <;> omega
  rw [Int.tmod_eq_emod_of_nonneg hb]
  have h1 := Int.emod_nonneg (bt s i) (by decide : (8 : Int) ≠ 0)
  have h2 := Int.emod_lt_of_pos (bt s i) (by decide : (0 : Int) < 8)
  generalize bt s i % 8 = e at *
  rw [Int.emod_eq_of_lt (by omega) (by omega)]
  have : (48 + e).toNat < 256 := by omega
  rw [UInt8.toNat_ofNat']
  rw [Nat.mod_eq_of_lt this]
  omega

theorem code_from (s : ByteArray) (hs : s.size ≤ 9223372036854775807) (dd : Nat) : ∀ (ds : List UInt8), ds.length + dd = 8 → (∀ b ∈ ds, 48 ≤ b.toNat ∧ b.toNat ≤ 55) →
    ∃ c, Evt (fun k => staddalaw06_code.l0 k s (outOf ds) (ds.length : Int)) c ∧ okc c := by
  have fin : ∀ ds : List UInt8, ds.length ≤ 8 → (∀ b ∈ ds, 48 ≤ b.toNat ∧ b.toNat ≤ 55) → ∃ c, (if ((outOf ds).size : Int) = 2 then (if (outOf ds).size + 1 ≤ 9223372036854775807 then (some (outOf ds ++ (⟨#[55]⟩ : ByteArray))) else (none)) else (some (outOf ds))) = some c ∧ okc c := by
    intro ds h1 h2
    have hz := outOf_size ds
    by_cases h : ds.length = 0
    · have h0 : ds = [] := List.length_eq_zero_iff.1 h
      refine ⟨outOf (ds ++ [55]), ?_, outOf_ok _ (by simp) (by simp [h0]) (fun b hb => by rw [h0] at hb; simp at hb; subst hb; decide)⟩
      rw [if_pos (by omega), if_pos (by omega), outOf_snoc]
    · refine ⟨outOf ds, ?_, outOf_ok _ (by intro e; rw [e] at h; simp at h) h1 h2⟩
      rw [if_neg (by omega)]
  induction dd with
  | zero =>
    intro ds hd hall
    obtain ⟨c, h1, h2⟩ := fin ds (by omega) hall
    refine ⟨c, Evt.step (fun k => by rw [staddalaw06_code.l0]) ?_, h2⟩
    by_cases hx : (ds.length : Int) < (s.size : Int)
    · refine Evt.pos hx (Evt.neg (by omega) ?_)
      rw [h1]; exact Evt.const _
    · refine Evt.neg hx ?_
      rw [h1]; exact Evt.const _
  | succ dd ih =>
    intro ds hd hall
    by_cases hx : (ds.length : Int) < (s.size : Int)
    · obtain ⟨c, h1, h2⟩ := ih (ds ++ [UInt8.ofNat ((48 + Int.tmod (bt s (ds.length : Int)) 8) % 256).toNat]) (by simp; omega) (fun b hb => by
        rcases List.mem_append.1 hb with hb | hb
        · exact hall b hb
        · rw [List.mem_singleton.1 hb]; exact dig_byte s _)
      refine ⟨c, Evt.step (fun k => by rw [staddalaw06_code.l0]) ?_, h2⟩
      refine Evt.pos hx (Evt.pos (by omega) (Evt.pos (by omega) ?_))
      refine Evt.bind (Evt.const _) ?_
      have hz := outOf_size ds
      have e1 : strOfNums [(48 + Int.tmod (bt s (ds.length : Int)) 8) % 256] = ⟨#[UInt8.ofNat ((48 + Int.tmod (bt s (ds.length : Int)) 8) % 256).toNat]⟩ := rfl
      rw [e1]
      refine Evt.pos (by rw [hz]; show ds.length + 2 + 1 ≤ _; omega) ?_
      rw [outOf_snoc, w64 (by omega) (by omega)]
      rw [List.length_append, List.length_singleton, show ((ds.length + 1 : Nat) : Int) = (ds.length : Int) + 1 from by omega] at h1
      exact h1
    · obtain ⟨c, h1, h2⟩ := fin ds (by omega) hall
      refine ⟨c, Evt.step (fun k => by rw [staddalaw06_code.l0]) ?_, h2⟩
      refine Evt.neg hx ?_
      rw [h1]; exact Evt.const _

theorem code_ev (s : ByteArray) (hs : s.size ≤ 9223372036854775807) : ∃ c, Evt (fun k => staddalaw06_code.f k s) c ∧ okc c :=
  code_from s hs 8 [] rfl (fun b hb => by simp at hb)

set_option maxRecDepth 1000000 in
theorem awake_true : staddalaw06_awake.f 200 = some true := by kernel_rfl
end Go.Proofs.YtkfbdhlfajdpgaaGreatDoor.PHeapMoves
namespace Go.Proofs.YtkfbdhlfajdpgaaGreatDoor.HWins
set_option linter.unusedVariables false
set_option linter.unusedSimpArgs false
open Go Go.Proofs.YtkfbdhlfajdpgaaGreatDoor.UBits Go.Proofs.YtkfbdhlfajdpgaaGreatDoor.HSpec Go.Proofs.YtkfbdhlfajdpgaaGreatDoor.HNim

/-- The value of a heap, as a natural number. -/
def vN (V : List Int) (n : Int) : Nat := (at0 V n).toNat
structure Tab (V : List Int) (B : Nat) : Prop where
  len : V.length = B + 1
  good : HSpec.Good V
  small : B < 256
theorem Tab.at {V : List Int} {B : Nat} (h : Tab V B) {n : Int} (h0 : 0 ≤ n) (h1 : n ≤ B) : at0 V n = (vN V n : Int) ∧ vN V n < 256 ∧ (vN V n : Int) ≤ n := by
  have hl := h.len
  have hs := h.small
  have := h.good.at0 h0 (by omega)
  unfold vN
  omega
theorem xr_nat (a b : Nat) (ha : a < 256) (hb : b < 256) : xr (a : Int) (b : Int) = ((a ^^^ b : Nat) : Int) ∧ a ^^^ b < 256 := by
  unfold xr
  rw [xor_i64 a b (by omega) (by omega)]
  exact ⟨rfl, Nat.xor_lt_two_pow (n := 8) ha hb⟩
theorem wsum_from {V : List Int} {B : Nat} (h : Tab V B) : ∀ (l : List Int) (s : Nat), s < 256 → (∀ n ∈ l, 0 ≤ n ∧ n ≤ B) → l.foldl (fun s n => xr s (at0 V n)) (s : Int) = ((s ^^^ nx (l.map (vN V)) : Nat) : Int) ∧ s ^^^ nx (l.map (vN V)) < 256
  | [], s, hs, _ => by simp [nx, hs]
  | n :: l, s, hs, hl => by
    obtain ⟨e1, e2, _⟩ := h.at (hl n (by simp)).1 (hl n (by simp)).2
    obtain ⟨e3, e4⟩ := xr_nat s (vN V n) hs e2
    rw [List.foldl_cons, e1, e3]
    obtain ⟨i1, i2⟩ := wsum_from h l (s ^^^ vN V n) e4 (fun m hm => hl m (by simp [hm]))
    rw [List.map_cons, nx, ← Nat.xor_assoc]
    exact ⟨i1, i2⟩
theorem wsum_nx {V : List Int} {B : Nat} (h : Tab V B) {l : List Int} (hl : ∀ n ∈ l, 0 ≤ n ∧ n ≤ B) : wsum V l = (nx (l.map (vN V)) : Int) ∧ nx (l.map (vN V)) < 256 := by
  have := wsum_from h l 0 (by omega) hl
  simpa [wsum] using this
theorem nx_filter {V : List Int} (h0 : vN V 0 = 0) : ∀ l : List Int, nx ((l.filter fun n => !(n == 0)).map (vN V)) = nx (l.map (vN V))
  | [] => rfl
  | n :: l => by
    by_cases h : n = 0
    · subst h
      simp only [List.map_cons, nx, h0]
      rw [List.filter_cons_of_neg (by simp), nx_filter h0 l]
      simp
    · rw [List.filter_cons_of_pos (by simpa using h), List.map_cons, List.map_cons, nx, nx, nx_filter h0 l]
theorem nx_erase {V : List Int} {l : List Int} {i : Nat} (hi : i < l.length) : nx (l.map (vN V)) = vN V (l.getD i 0) ^^^ nx ((l.eraseIdx i).map (vN V)) := by
  have e : l = l.take i ++ l[i] :: l.drop (i + 1) := by rw [← List.drop_eq_getElem_cons hi, List.take_append_drop]
  have e2 : l.eraseIdx i = l.take i ++ l.drop (i + 1) := List.eraseIdx_eq_take_drop_succ ..
  have e3 : l.getD i 0 = l[i] := by rw [List.getD_eq_getElem?_getD, List.getElem?_eq_getElem hi]; rfl
  rw [e3, e2]
  conv => lhs; rw [e]
  rw [List.map_append, List.map_append, nx_append, nx_append, List.map_cons, nx]
  rw [← Nat.xor_assoc, ← Nat.xor_assoc, Nat.xor_comm (nx _) (vN V _)]

/-- A table of values by the moves. -/
structure VTab (d V : List Int) (B : Nat) : Prop extends Tab V B where
  mex : ∀ n : Nat, 1 ≤ n → n ≤ B → (vN V n : Int) ∉ (mv d n).map (optv V) ∧ ∀ k : Nat, k < vN V n → (k : Int) ∈ (mv d n).map (optv V)
theorem at0_prefix (d : List Int) {m B : Nat} (hm : m ≤ B) {n : Int} (h0 : 0 ≤ n) (h1 : n ≤ m) : at0 (vals d B) n = at0 (vals d m) n := by
  obtain ⟨r, hr⟩ := vals_prefix d hm
  have hl := vals_length d m
  unfold at0
  rw [hr, List.getD_eq_getElem?_getD, List.getD_eq_getElem?_getD, List.getElem?_append_left (by omega)]
theorem vtab (d : List Int) (B : Nat) (hB : B < 256) : VTab d (vals d B) B where
  len := vals_length d B
  good := vals_good d B (by omega)
  small := hB
  mex := by
    intro n h1 h2
    obtain ⟨m, rfl⟩ : ∃ m, n = m + 1 := ⟨n - 1, by omega⟩
    have hlen := vals_length d m
    have e0 : at0 (vals d B) ((m + 1 : Nat) : Int) = (mexN (opts d (vals d m)) : Int) := by
      rw [at0_prefix d h2 (by omega) (by omega)]
      unfold at0
      rw [vals, vstep, Int.toNat_natCast, List.getD_eq_getElem?_getD, List.getElem?_append_right (by omega), hlen]
      simp
    have e1 : vN (vals d B) ((m + 1 : Nat) : Int) = mexN (opts d (vals d m)) := by unfold vN; rw [e0]; simp
    have e2 : (mv d ((m + 1 : Nat) : Int)).map (optv (vals d B)) = opts d (vals d m) := by
      unfold opts
      rw [hlen]
      refine List.map_congr_left (fun p hp => ?_)
      obtain ⟨p1, p2, p3⟩ := mem_mv hp
      unfold optv
      rw [at0_prefix d (show m ≤ B by omega) p1 (by omega), at0_prefix d (show m ≤ B by omega) p2 (by omega)]
    rw [e1, e2]
    exact mexN_spec _
theorem xor_self4 (s a : Nat) (h : a = s) : a ^^^ s = 0 := by subst h; simp
theorem okM_nat {V : List Int} {B : Nat} (h : Tab V B) {s v : Nat} (hs : s < 256) (hv : v < 256) {p : Int × Int} (h1 : 0 ≤ p.1) (h2 : 0 ≤ p.2) (h3 : p.1 ≤ B) (h4 : p.2 ≤ B) :
    (okM V (xr (s : Int) (v : Int)) p = true ↔ ((s ^^^ v) ^^^ vN V p.1) ^^^ vN V p.2 = 0) ∧ optv V p = ((vN V p.1 ^^^ vN V p.2 : Nat) : Int) := by
  obtain ⟨a1, a2, _⟩ := h.at h1 h3
  obtain ⟨b1, b2, _⟩ := h.at h2 h4
  obtain ⟨e1, e2⟩ := xr_nat s v hs hv
  obtain ⟨e3, e4⟩ := xr_nat (s ^^^ v) (vN V p.1) e2 a2
  obtain ⟨e5, e6⟩ := xr_nat ((s ^^^ v) ^^^ vN V p.1) (vN V p.2) e4 b2
  unfold okM optv
  rw [a1, b1, e1, e3, e5, (xr_nat _ _ a2 b2).1]
  refine ⟨?_, rfl⟩
  rw [beq_iff_eq]
  omega
/-- Who is to move from a sum that is not 0, and only who is, can leave the sum 0. -/
theorem wins_iff {d V : List Int} {B : Nat} (h : VTab d V B) {l : List Int} (hl : ∀ n ∈ l, 0 ≤ n ∧ n ≤ B) : movesOf d V l ≠ [] ↔ wsum V l ≠ 0 := by
  obtain ⟨w1, w2⟩ := wsum_nx h.toTab hl
  have hget : ∀ i, i < l.length → l.getD i 0 ∈ l := fun i hi => by rw [List.getD_eq_getElem?_getD, List.getElem?_eq_getElem hi]; exact List.getElem_mem hi
  constructor
  · intro hne hz
    obtain ⟨z, hz2⟩ := List.exists_mem_of_ne_nil _ hne
    obtain ⟨i, hi, p, hp, hok, _⟩ := mem_movesOf.1 hz2
    obtain ⟨n0, n1⟩ := hl _ (hget i hi)
    obtain ⟨n, hn⟩ := Int.eq_ofNat_of_zero_le n0
    obtain ⟨p1, p2, p3⟩ := mem_mv hp
    obtain ⟨v1, v2, _⟩ := h.toTab.at n0 n1
    have hs : nx (l.map (vN V)) = 0 := by omega
    rw [w1, v1] at hok
    obtain ⟨k1, k2⟩ := okM_nat h.toTab w2 v2 p1 p2 (by omega) (by omega)
    have := k1.1 hok
    rw [hs, Nat.zero_xor, Nat.xor_assoc] at this
    have e : vN V (l.getD i 0) = vN V p.1 ^^^ vN V p.2 := by
      have h2 := congrArg (vN V (l.getD i 0) ^^^ ·) this
      simpa [← Nat.xor_assoc] using h2.symm
    have hm := (h.mex n (by omega) (by omega)).1
    refine hm (List.mem_map.2 ⟨p, by rw [hn] at hp; exact hp, ?_⟩)
    rw [k2, ← e, hn]
  · intro hne
    have hs : nx (l.map (vN V)) ≠ 0 := by omega
    obtain ⟨x, hx, hlt⟩ := nim_lt hs
    obtain ⟨y, hy, rfl⟩ := List.mem_map.1 hx
    obtain ⟨i, hi, rfl⟩ := List.getElem_of_mem hy
    have e3 : l.getD i 0 = l[i] := by rw [List.getD_eq_getElem?_getD, List.getElem?_eq_getElem hi]; rfl
    obtain ⟨n0, n1⟩ := hl _ hy
    obtain ⟨n, hn⟩ := Int.eq_ofNat_of_zero_le n0
    obtain ⟨v1, v2, v3⟩ := h.toTab.at n0 n1
    have hn1 : 1 ≤ n := by omega
    have hm := (h.mex n hn1 (by omega)).2 (vN V l[i] ^^^ nx (l.map (vN V))) (by rw [hn] at hlt ⊢; exact hlt)
    obtain ⟨p, hp, hpe⟩ := List.mem_map.1 hm
    obtain ⟨p1, p2, p3⟩ := mem_mv hp
    obtain ⟨k1, k2⟩ := okM_nat h.toTab w2 v2 p1 p2 (by omega) (by omega)
    rw [k2] at hpe
    have hpe : vN V p.1 ^^^ vN V p.2 = vN V l[i] ^^^ nx (l.map (vN V)) := by omega
    refine List.ne_nil_of_mem (mem_movesOf.2 ⟨i, hi, p, by rw [e3, hn]; exact hp, ?_, rfl⟩)
    rw [e3, w1, v1]
    refine k1.2 ?_
    rw [Nat.xor_assoc, hpe, Nat.xor_comm (nx _)]
    simp
theorem x4 (e v a b : Nat) : e ^^^ (a ^^^ b) = ((v ^^^ e) ^^^ v ^^^ a) ^^^ b := by
  have : (v ^^^ e) ^^^ v = e := by rw [Nat.xor_comm v e, Nat.xor_assoc, Nat.xor_self, Nat.xor_zero]
  rw [this, Nat.xor_assoc]
/-- The sum behind a move. -/
theorem own_sum {d V : List Int} {B : Nat} (h : VTab d V B) {l : List Int} (hl : ∀ n ∈ l, 0 ≤ n ∧ n ≤ B) {i : Nat} (hi : i < l.length) {p : Int × Int} (hp : p ∈ mv d (l.getD i 0)) : (wsum V (ownOf l i p) = 0 ↔ okM V (xr (wsum V l) (at0 V (l.getD i 0))) p = true) ∧ ∀ y ∈ ownOf l i p, 1 ≤ y ∧ ((∃ n ∈ l, y ≤ n) ∧ y ≤ B) := by
  obtain ⟨w1, w2⟩ := wsum_nx h.toTab hl
  have hmem : l.getD i 0 ∈ l := by rw [List.getD_eq_getElem?_getD, List.getElem?_eq_getElem hi]; exact List.getElem_mem hi
  obtain ⟨n0, n1⟩ := hl _ hmem
  obtain ⟨p1, p2, p3⟩ := mem_mv hp
  obtain ⟨v1, v2, _⟩ := h.toTab.at n0 n1
  rw [w1, v1]
  obtain ⟨k1, k2⟩ := okM_nat h.toTab w2 v2 p1 p2 (by omega) (by omega)
  have hperm := isort_perm ((l.eraseIdx i ++ [p.1, p.2]).filter fun n => !(n == 0))
  have hrng : ∀ y ∈ ownOf l i p, 1 ≤ y ∧ ((∃ n ∈ l, y ≤ n) ∧ y ≤ B) := by
    intro y hy
    have hy := hperm.mem_iff.1 hy
    rw [List.mem_filter] at hy
    obtain ⟨hy, hy0⟩ := hy
    have hy0 : y ≠ 0 := by simpa using hy0
    rcases List.mem_append.1 hy with hy | hy
    · have hy := List.mem_of_mem_eraseIdx hy
      have := hl y hy
      exact ⟨by omega, ⟨y, hy, Int.le_refl _⟩, by omega⟩
    · have : y = p.1 ∨ y = p.2 := by simpa using hy
      rcases this with rfl | rfl
      · exact ⟨by omega, ⟨_, hmem, by omega⟩, by omega⟩
      · exact ⟨by omega, ⟨_, hmem, by omega⟩, by omega⟩
  refine ⟨?_, hrng⟩
  have h0 : vN V 0 = 0 := by
    obtain ⟨_, _, h3⟩ := h.toTab.at (n := 0) (by omega) (by omega)
    omega
  rw [(wsum_nx h.toTab (fun y hy => ⟨by have := hrng y hy; omega, (hrng y hy).2.2⟩)).1]
  have e : nx ((ownOf l i p).map (vN V)) = ((nx (l.map (vN V)) ^^^ vN V (l.getD i 0)) ^^^ vN V p.1) ^^^ vN V p.2 := by
    unfold ownOf
    rw [nx_perm (hperm.map _), nx_filter h0, List.map_append, nx_append, nx_erase hi]
    simp only [List.map_cons, List.map_nil, nx, Nat.xor_zero]
    exact x4 _ _ _ _
  rw [e, k1]
  omega
/-- Each move that is listed leaves the sum 0, in heaps that are not empty. -/
theorem wins_mem {d V : List Int} {B : Nat} (h : VTab d V B) {l : List Int} (hl : ∀ n ∈ l, 0 ≤ n ∧ n ≤ B) {C : Int} (hC : ∀ n ∈ l, n ≤ C) {z : List Int} (hz : z ∈ movesOf d V l) : (∀ y ∈ z, 1 ≤ y ∧ y ≤ C ∧ y ≤ B) ∧ wsum V z = 0 ∧ z.length ≤ l.length + 1 := by
  obtain ⟨w1, w2⟩ := wsum_nx h.toTab hl
  obtain ⟨i, hi, p, hp, hok, rfl⟩ := mem_movesOf.1 hz
  have hmem : l.getD i 0 ∈ l := by rw [List.getD_eq_getElem?_getD, List.getElem?_eq_getElem hi]; exact List.getElem_mem hi
  obtain ⟨n0, n1⟩ := hl _ hmem
  have nC := hC _ hmem
  obtain ⟨p1, p2, p3⟩ := mem_mv hp
  obtain ⟨v1, v2, _⟩ := h.toTab.at n0 n1
  rw [w1, v1] at hok
  obtain ⟨k1, k2⟩ := okM_nat h.toTab w2 v2 p1 p2 (by omega) (by omega)
  have hsum := k1.1 hok
  have hperm := isort_perm ((l.eraseIdx i ++ [p.1, p.2]).filter fun n => !(n == 0))
  have hrng : ∀ y ∈ ownOf l i p, 1 ≤ y ∧ y ≤ C ∧ y ≤ B := by
    intro y hy
    have hy := hperm.mem_iff.1 hy
    rw [List.mem_filter] at hy
    obtain ⟨hy, hy0⟩ := hy
    have hy0 : y ≠ 0 := by simpa using hy0
    rcases List.mem_append.1 hy with hy | hy
    · have hy := List.mem_of_mem_eraseIdx hy
      have := hl y hy
      have := hC y hy
      omega
    · have : y = p.1 ∨ y = p.2 := by simpa using hy
      rcases this with rfl | rfl <;> omega
  refine ⟨hrng, ?_, ?_⟩
  · have h0 : vN V 0 = 0 := by
      obtain ⟨_, _, h3⟩ := h.toTab.at (n := 0) (by omega) (by omega)
      omega
    rw [(wsum_nx h.toTab (fun y hy => ⟨by have := hrng y hy; omega, (hrng y hy).2.2⟩)).1]
    have e : nx ((ownOf l i p).map (vN V)) = ((nx (l.map (vN V)) ^^^ vN V (l.getD i 0)) ^^^ vN V p.1) ^^^ vN V p.2 := by
      unfold ownOf
      rw [nx_perm (hperm.map _), nx_filter h0, List.map_append, nx_append, nx_erase hi]
      simp only [List.map_cons, List.map_nil, nx, Nat.xor_zero]
      exact x4 _ _ _ _
    rw [e, hsum]; rfl
  · unfold ownOf
    rw [(isort_perm _).length_eq]
    refine Nat.le_trans (List.length_filter_le _ _) ?_
    rw [List.length_append, List.length_eraseIdx, if_pos hi]
    simp only [List.length_cons, List.length_nil]
    omega
end Go.Proofs.YtkfbdhlfajdpgaaGreatDoor.HWins
namespace Go.Proofs.YtkfbdhlfajdpgaaGreatDoor.HIns
set_option linter.unusedVariables false
set_option linter.unusedSimpArgs false
open Go Go.Proofs.YtkfbdhlfajdpgaaGreatDoor.HSpec Go.Proofs.YtkfbdhlfajdpgaaGreatDoor.HNim Go.Proofs.YtkfbdhlfajdpgaaGreatDoor.HWins

def putL (n : Int) : List Int → List Int
  | [] => [n]
  | x :: l => if x < n then x :: putL n l else n :: x :: l
def putF (l : List Int) (n : Int) : List Int := if n = 0 then l else putL n l
theorem putL_perm (n : Int) : ∀ l, (putL n l).Perm (n :: l)
  | [] => List.Perm.refl _
  | x :: l => by
    rw [putL]
    split
    · exact ((putL_perm n l).cons x).trans (List.Perm.swap n x l)
    · exact List.Perm.refl _
theorem putL_le (n : Int) : ∀ l, l.Pairwise (fun a b => a ≤ b) → (putL n l).Pairwise (fun a b => a ≤ b)
  | [], _ => by simp [putL]
  | x :: l, h => by
    obtain ⟨h1, h2⟩ := List.pairwise_cons.1 h
    rw [putL]
    split
    · rename_i hx
      refine List.pairwise_cons.2 ⟨fun y hy => ?_, putL_le n l h2⟩
      rcases List.mem_cons.1 ((putL_perm n l).mem_iff.1 hy) with rfl | hy
      · omega
      · exact h1 y hy
    · rename_i hx
      refine List.pairwise_cons.2 ⟨fun y hy => ?_, h⟩
      rcases List.mem_cons.1 hy with rfl | hy
      · omega
      · have := h1 y hy; omega
theorem fold_put : ∀ (xs acc : List Int), acc.Pairwise (fun a b => a ≤ b) → (xs.foldl putF acc).Pairwise (fun a b => a ≤ b) ∧ (xs.foldl putF acc).Perm (acc ++ xs.filter fun n => !(n == 0))
  | [], acc, h => by simpa using h
  | x :: xs, acc, h => by
    rw [List.foldl_cons]
    by_cases hx : x = 0
    · have e : putF acc x = acc := by unfold putF; rw [if_pos hx]
      rw [e, List.filter_cons_of_neg (by simpa using hx)]
      exact fold_put xs acc h
    · have e : putF acc x = putL x acc := by unfold putF; rw [if_neg hx]
      rw [e, List.filter_cons_of_pos (by simpa using hx)]
      obtain ⟨h1, h2⟩ := fold_put xs (putL x acc) (putL_le x acc h)
      refine ⟨h1, h2.trans ?_⟩
      have := (putL_perm x acc).append_right (xs.filter fun n => !(n == 0))
      refine this.trans ?_
      rw [List.cons_append]
      exact List.perm_middle.symm
theorem fold_isort (xs : List Int) : xs.foldl putF [] = isort (xs.filter fun n => !(n == 0)) := by
  obtain ⟨h1, h2⟩ := fold_put xs [] (by simp)
  exact isort_of (by simpa using h2) h1
/-- A move as the reference lists it. -/
def rowOf (p : Int × Int) : List Int := if p.1 = 0 then [] else if p.2 = 0 then [p.1] else [p.1, p.2]
def posR (hs : List Int) (i : Nat) (p : Int × Int) : List Int := (rowOf p).foldl putF ((hs.eraseIdx i).foldl putF [])
theorem posR_own (hs : List Int) (i : Nat) {p : Int × Int} (hz : p.1 = 0 → p.2 = 0) : posR hs i p = ownOf hs i p := by
  unfold posR ownOf
  rw [← List.foldl_append, fold_isort, List.filter_append, List.filter_append]
  congr 2
  unfold rowOf
  by_cases h1 : p.1 = 0
  · rw [if_pos h1, h1, hz h1]; rfl
  · rw [if_neg h1]
    by_cases h2 : p.2 = 0
    · rw [if_pos h2, h2]; simp [h1]
    · rw [if_neg h2]
/-- A row put into a list of rows. -/
def insP (p : List Int) : List (List Int) → List (List Int)
  | [] => [p]
  | x :: l => if cmpL x p < 0 then x :: insP p l else if cmpL p x < 0 then p :: x :: l else x :: l
theorem mem_insP (p z : List Int) : ∀ l, z ∈ insP p l ↔ z = p ∨ z ∈ l
  | [] => by simp [insP]
  | x :: l => by
    rw [insP]
    split
    · rw [List.mem_cons, mem_insP p z l, List.mem_cons]
      constructor
      · rintro (h | h | h)
        · exact .inr (.inl h)
        · exact .inl h
        · exact .inr (.inr h)
      · rintro (h | h | h)
        · exact .inr (.inl h)
        · exact .inl h
        · exact .inr (.inr h)
    · split
      · rw [List.mem_cons]
      · rename_i h1 h2
        have e : x = p := by
          rcases cmpL_total x p with h | h | h
          · exact absurd h h1
          · exact h
          · exact absurd h h2
        subst e
        simp
theorem insP_rising (p : List Int) : ∀ l : List (List Int), l.Pairwise (fun a b => cmpL a b < 0) → (insP p l).Pairwise (fun a b => cmpL a b < 0)
  | [], _ => by simp [insP]
  | x :: l, h => by
    obtain ⟨h1, h2⟩ := List.pairwise_cons.1 h
    rw [insP]
    split
    · rename_i hx
      refine List.pairwise_cons.2 ⟨fun y hy => ?_, insP_rising p l h2⟩
      rcases (mem_insP p y l).1 hy with rfl | hy
      · exact hx
      · exact h1 y hy
    · split
      · rename_i hx hp
        refine List.pairwise_cons.2 ⟨fun y hy => ?_, h⟩
        rcases List.mem_cons.1 hy with rfl | hy
        · exact hp
        · exact cmpL_trans hp (h1 y hy)
      · exact h
theorem insP_length (p : List Int) : ∀ l : List (List Int), (insP p l).length ≤ l.length + 1
  | [] => by simp [insP]
  | x :: l => by
    rw [insP]
    have := insP_length p l
    split
    · simp only [List.length_cons]; omega
    · split <;> simp only [List.length_cons] <;> omega
def stepO (V hs : List Int) (i : Nat) (out : List (List Int)) (p : Int × Int) : List (List Int) := if wsum V (posR hs i p) = 0 then insP (posR hs i p) out else out
def rowO (d V hs : List Int) (out : List (List Int)) (i : Nat) : List (List Int) := (mv d (hs.getD i 0)).foldl (stepO V hs i) out
theorem fold_steps (V hs : List Int) (i : Nat) : ∀ (ps : List (Int × Int)) (out : List (List Int)), out.Pairwise (fun a b => cmpL a b < 0) →
    (ps.foldl (stepO V hs i) out).Pairwise (fun a b => cmpL a b < 0) ∧ ∀ z, z ∈ ps.foldl (stepO V hs i) out ↔ z ∈ out ∨ ∃ p ∈ ps, wsum V (posR hs i p) = 0 ∧ z = posR hs i p
  | [], out, h => ⟨h, fun z => by simp⟩
  | p :: ps, out, h => by
    rw [List.foldl_cons]
    by_cases hw : wsum V (posR hs i p) = 0
    · have e : stepO V hs i out p = insP (posR hs i p) out := by unfold stepO; rw [if_pos hw]
      rw [e]
      obtain ⟨h1, h2⟩ := fold_steps V hs i ps (insP (posR hs i p) out) (insP_rising _ _ h)
      refine ⟨h1, fun z => ?_⟩
      rw [h2, mem_insP]
      constructor
      · rintro ((h | h) | ⟨q, hq, h⟩)
        · exact .inr ⟨p, by simp, hw, h⟩
        · exact .inl h
        · exact .inr ⟨q, by simp [hq], h⟩
      · rintro (h | ⟨q, hq, h3, h4⟩)
        · exact .inl (.inr h)
        · rcases List.mem_cons.1 hq with rfl | hq
          · exact .inl (.inl h4)
          · exact .inr ⟨q, hq, h3, h4⟩
    · have e : stepO V hs i out p = out := by unfold stepO; rw [if_neg hw]
      rw [e]
      obtain ⟨h1, h2⟩ := fold_steps V hs i ps out h
      refine ⟨h1, fun z => ?_⟩
      rw [h2]
      constructor
      · rintro (h | ⟨q, hq, h⟩)
        · exact .inl h
        · exact .inr ⟨q, by simp [hq], h⟩
      · rintro (h | ⟨q, hq, h3, h4⟩)
        · exact .inl h
        · rcases List.mem_cons.1 hq with rfl | hq
          · exact absurd h3 hw
          · exact .inr ⟨q, hq, h3, h4⟩
theorem fold_rows (d V hs : List Int) : ∀ k : Nat, ((List.range k).foldl (rowO d V hs) []).Pairwise (fun a b => cmpL a b < 0) ∧ ∀ z, z ∈ (List.range k).foldl (rowO d V hs) [] ↔ ∃ i, i < k ∧ ∃ p ∈ mv d (hs.getD i 0), wsum V (posR hs i p) = 0 ∧ z = posR hs i p
  | 0 => by simp
  | k + 1 => by
    rw [List.range_succ, List.foldl_append]
    obtain ⟨h1, h2⟩ := fold_rows d V hs k
    obtain ⟨h3, h4⟩ := fold_steps V hs k (mv d (hs.getD k 0)) ((List.range k).foldl (rowO d V hs) []) h1
    refine ⟨h3, fun z => ?_⟩
    show z ∈ (mv d (hs.getD k 0)).foldl (stepO V hs k) _ ↔ _
    rw [h4, h2]
    constructor
    · rintro (⟨i, hi, h⟩ | h)
      · exact ⟨i, by omega, h⟩
      · exact ⟨k, by omega, h⟩
    · rintro ⟨i, hi, h⟩
      by_cases e : i = k
      · subst e; exact .inr h
      · exact .inl ⟨i, by omega, h⟩
theorem mv_zero' {d : List Int} {m : Int} {p : Int × Int} (h : p ∈ mv d m) : p.1 = 0 → p.2 = 0 := by
  unfold mv mvs at h
  obtain ⟨i, hi, hp⟩ := List.mem_flatMap.1 h
  unfold mvAt at hp
  split at hp
  · simp at hp
  · split at hp
    · split at hp
      · simp at hp
      · intro _; rw [List.mem_singleton.1 hp]
    · rcases List.mem_append.1 hp with hp | hp
      · split at hp
        · simp at hp
        · intro _; rw [List.mem_singleton.1 hp]
      · split at hp
        · simp at hp
        · have := mem_prs hp; omega
/-- The reference's list is the code's. -/
theorem rows_eq {d V : List Int} {B : Nat} (h : VTab d V B) {hs : List Int} (hl : ∀ n ∈ hs, 0 ≤ n ∧ n ≤ B) : (List.range hs.length).foldl (rowO d V hs) [] = movesOf d V hs := by
  obtain ⟨h1, h2⟩ := fold_rows d V hs hs.length
  refine rising_unique (lt := fun a b => cmpL a b < 0) (fun a => by rw [cmpL_self]; omega) (fun a b c => cmpL_trans) h1 (dedup_rising _ (lsort_le _)) (fun z => ?_)
  rw [h2]
  show _ ↔ z ∈ movesOf d V hs
  rw [mem_movesOf]
  constructor
  · rintro ⟨i, hi, p, hp, h3, rfl⟩
    rw [posR_own hs i (mv_zero' hp)] at h3 ⊢
    exact ⟨i, hi, p, hp, (own_sum h hl hi hp).1.1 h3, rfl⟩
  · rintro ⟨i, hi, p, hp, h3, rfl⟩
    exact ⟨i, hi, p, hp, by rw [posR_own hs i (mv_zero' hp)]; exact (own_sum h hl hi hp).1.2 h3, (posR_own hs i (mv_zero' hp)).symm⟩
end Go.Proofs.YtkfbdhlfajdpgaaGreatDoor.HIns
namespace Go.Proofs.YtkfbdhlfajdpgaaGreatDoor.PHeapMoves
set_option linter.unusedVariables false
set_option linter.unusedSimpArgs false
open Go Go.RowKit Go.Proofs.YtkfbdhlfajdpgaaGreatDoorW.PrintWords Go.Proofs.YtkfbdhlfajdpgaaGreatDoorW.PrintLast Go.Proofs.YtkfbdhlfajdpgaaGreatDoorW.PrintMore Go.Proofs.YtkfbdhlfajdpgaaGreatDoor.UEv Go.Proofs.YtkfbdhlfajdpgaaGreatDoor.HSpec Go.Proofs.YtkfbdhlfajdpgaaGreatDoor.HCode Go.Proofs.YtkfbdhlfajdpgaaGreatDoor.HNim Go.Proofs.YtkfbdhlfajdpgaaGreatDoor.HWins Go.Proofs.YtkfbdhlfajdpgaaGreatDoor.HIns

theorem rd_at (l : List Int) (j : Nat) (h : j < l.length) : rd l (j : Int) = l[j] := by unfold rd; rw [Int.toNat_natCast, List.getD_eq_getElem?_getD, List.getElem?_eq_getElem h]; rfl
theorem rdL_at (l : List (List Int)) (j : Nat) (h : j < l.length) : rd_L2 l (j : Int) = l[j] := by unfold rd_L2; rw [Int.toNat_natCast, List.getD_eq_getElem?_getD, List.getElem?_eq_getElem h]; rfl
theorem split_at {α : Type} (pre : List α) (y : α) (r : List α) : (pre ++ y :: r).take pre.length = pre ∧ (pre ++ y :: r).drop pre.length = y :: r := by simp

theorem put_from (n : Int) : ∀ (rest pre : List Int), (pre ++ rest).length ≤ 100000 → Evt (fun k => staddaref06_put.l0 k (pre ++ rest) n (pre.length : Int)) (pre ++ putL n rest)
  | [], pre, hl => by
    rw [List.append_nil] at hl ⊢
    refine Evt.step (fun k => by rw [staddaref06_put.l0]) ?_
    simp only [Option.bind_some, Int.toNat_natCast, List.take_length, List.drop_length, List.nil_append, List.length_nil, Nat.zero_add, List.length_append, List.length_singleton, List.append_nil]
    exact Evt.neg (by omega) (Evt.pos (by omega) (Evt.pos (by omega) (Evt.pos (by omega) (Evt.pos (by omega) (Evt.pos (by omega) (Evt.const _))))))
  | y :: rest, pre, hl => by
    have hlen : pre.length < (pre ++ y :: rest).length := by simp
    have e : rd (pre ++ y :: rest) (pre.length : Int) = y := by rw [rd_at _ _ hlen]; simp
    refine Evt.step (fun k => by rw [staddaref06_put.l0]) ?_
    rw [e]
    refine Evt.pos (by omega) (Evt.pos (by omega) ?_)
    rw [putL]
    by_cases hy : y < n
    · rw [if_pos hy]
      refine Evt.pos hy ?_
      have := put_from n rest (pre ++ [y]) (by simpa using hl)
      rw [List.append_assoc, List.append_assoc] at this
      rw [w64 (by omega) (by omega)]
      simpa using this
    · rw [if_neg hy]
      refine Evt.neg hy ?_
      simp only [Option.bind_some, Int.toNat_natCast, (split_at pre y rest).1, (split_at pre y rest).2, List.nil_append, List.length_nil, Nat.zero_add]
      rw [List.length_append] at hl hlen
      refine Evt.pos (by rw [List.length_append]; omega) (Evt.pos (by omega) (Evt.pos (by omega) (Evt.pos (by simp only [List.length_append, List.length_cons, List.length_nil] at *; omega) ?_)))
      have e2 : (pre ++ [n]) ++ y :: rest = pre ++ n :: y :: rest := by simp
      rw [e2]
      exact Evt.const _
theorem put_ev (l : List Int) (n : Int) (hl : l.length ≤ 100000) : Evt (fun k => staddaref06_put.f k l n) (putF l n) := by
  unfold putF
  refine Evt.of_eq (fun k => by rw [staddaref06_put.f]) ?_
  by_cases h : n = 0
  · rw [if_pos h]; exact Evt.pos h (Evt.const _)
  · rw [if_neg h]; exact Evt.neg h (put_from n l [] (by simpa using hl))
theorem putF_len (l : List Int) (n : Int) : (putF l n).length ≤ l.length + 1 := by
  unfold putF
  split
  · omega
  · rw [(putL_perm n l).length_eq]; simp

theorem before_from (a b : List Int) (ha : a.length ≤ 100000) (hb : b.length ≤ 100000) (dd : Nat) : ∀ j : Nat, a.length = j + dd → j ≤ b.length → (∀ t, t < j → a[t]?.getD 0 = b[t]?.getD 0) → Evt (fun k => staddaref06_before.l0 k a b (j : Int)) (decide (cmpL a b < 0)) := by
  induction dd with
  | zero =>
    intro j hj hjb he
    have e0 := HCompare.cmpL_at a b j (by omega) hjb he
    rw [List.drop_eq_nil_of_le (by omega)] at e0
    refine Evt.step (fun k => by rw [staddaref06_before.l0]) (Evt.neg (by omega) ?_)
    refine Evt.step (fun k => by rw [staddaref06_before.j1]) (Evt.neg (by simp) ?_)
    have e1 : decide ((a.length : Int) < (b.length : Int)) = decide (cmpL a b < 0) := by
      by_cases hlt : j < b.length
      · rw [List.drop_eq_getElem_cons hlt, cmpL] at e0
        rw [e0]
        have : (a.length : Int) < (b.length : Int) := by omega
        simp [this]
      · rw [List.drop_eq_nil_of_le (by omega), cmpL] at e0
        rw [e0]
        have : ¬ (a.length : Int) < (b.length : Int) := by omega
        simp [this]
    rw [e1]
    exact Evt.const _
  | succ dd ih =>
    intro j hj hjb he
    have hja : j < a.length := by omega
    have e0 := HCompare.cmpL_at a b j (by omega) hjb he
    rw [List.drop_eq_getElem_cons hja] at e0
    refine Evt.step (fun k => by rw [staddaref06_before.l0]) (Evt.pos (by omega) ?_)
    by_cases hlt : j < b.length
    · rw [List.drop_eq_getElem_cons hlt, cmpL] at e0
      rw [show decide ((j : Int) < (b.length : Int)) = true from by simp; exact hlt]
      refine Evt.step (fun k => by rw [staddaref06_before.j1]) ?_
      rw [rd_at a j hja, rd_at b j hlt]
      refine Evt.pos rfl (Evt.pos (by omega) (Evt.pos (by omega) (Evt.pos (by omega) ?_)))
      by_cases hx : a[j] = b[j]
      · refine Evt.pos hx ?_
        have := ih (j + 1) (by omega) (by omega) (fun t ht => by
          by_cases e : t = j
          · subst e
            rw [List.getElem?_eq_getElem hja, List.getElem?_eq_getElem hlt]
            exact hx
          · exact he t (by omega))
        rw [w64 (by omega) (by omega)]
        exact_mod_cast this
      · refine Evt.neg hx ?_
        have e1 : decide (a[j] < b[j]) = decide (cmpL a b < 0) := by
          rw [e0]
          by_cases h1 : a[j] < b[j]
          · rw [if_pos h1]; simp [h1]
          · rw [if_neg h1, if_pos (by omega)]; simp [h1]
        rw [e1]
        exact Evt.const _
    · have e2 : b.drop j = [] := List.drop_eq_nil_of_le (by omega)
      rw [e2, cmpL] at e0
      rw [show decide ((j : Int) < (b.length : Int)) = false from by simp; omega]
      refine Evt.step (fun k => by rw [staddaref06_before.j1]) (Evt.neg (by simp) ?_)
      rw [e0, show decide ((a.length : Int) < (b.length : Int)) = decide ((1 : Int) < 0) from by
        have : ¬ (a.length : Int) < (b.length : Int) := by omega
        simp [this]]
      exact Evt.const _
theorem before_ev (a b : List Int) (ha : a.length ≤ 100000) (hb : b.length ≤ 100000) : Evt (fun k => staddaref06_before.f k a b) (decide (cmpL a b < 0)) :=
  before_from a b ha hb a.length 0 (by omega) (by omega) (fun t h => by omega)

section
variable {s : ByteArray} {hs V : List Int} {R : List (List Int)}

/-- The place of a row, found, and the row put in. -/
theorem m_l6 (i : Int) (rows : List (List Int)) (j : Int) (p : List Int) (hp : p.length ≤ 100000) (v : Int) : ∀ (rest pre : List (List Int)), (pre ++ rest).length ≤ 100000000 → (∀ z ∈ pre ++ rest, z.length ≤ 100000) →
    Evt (fun k => staddaref06_Moves.l2 k s hs V (pre ++ if v = 0 then insP p rest else rest) i rows (wrap64 (j + 1))) R → Evt (fun k => staddaref06_Moves.l6 k s hs V (pre ++ rest) i rows j p v (pre.length : Int)) R
  | [], pre, hl, hz, h => by
    refine Evt.step (fun k => by rw [staddaref06_Moves.l6]) ?_
    rw [List.append_nil] at hl ⊢
    refine Evt.neg (by omega) ?_
    by_cases hv : v = 0
    · rw [if_pos hv] at h
      simp only [Option.bind_some, Int.toNat_natCast, List.take_length, List.drop_length, List.nil_append, List.length_nil, Nat.zero_add, List.length_append, List.length_singleton, List.append_nil]
      exact Evt.pos hv (Evt.pos (by omega) (Evt.pos (by omega) (Evt.pos (by omega) (Evt.pos (by omega) (Evt.pos (by omega) h)))))
    · rw [if_neg hv, List.append_nil] at h
      exact Evt.neg hv h
  | y :: rest, pre, hl, hz, h => by
    have hlen : pre.length < (pre ++ y :: rest).length := by simp
    have e : rd_L2 (pre ++ y :: rest) (pre.length : Int) = y := by rw [rdL_at _ _ hlen]; simp
    have hy := hz y (by simp)
    refine Evt.step (fun k => by rw [staddaref06_Moves.l6]) ?_
    rw [e]
    refine Evt.pos (by omega) (Evt.pos (by omega) (Evt.bind (before_ev y p hy hp) ?_))
    by_cases h1 : cmpL y p < 0
    · refine Evt.pos (by simpa using h1) ?_
      have hn := m_l6 i rows j p hp v rest (pre ++ [y]) (by simpa using hl) (fun z hz' => hz z (by simpa using hz')) (by
        rw [insP, if_pos h1] at h
        by_cases hv : v = 0
        · rw [if_pos hv] at h ⊢; simpa using h
        · rw [if_neg hv] at h ⊢; simpa using h)
      rw [List.append_assoc] at hn
      rw [w64 (by omega) (by omega)]
      simpa using hn
    · refine Evt.neg (by simpa using h1) ?_
      by_cases hv : v = 0
      · refine Evt.pos hv (Evt.bind (before_ev p y hp hy) ?_)
        rw [if_pos hv, insP, if_neg h1] at h
        by_cases h2 : cmpL p y < 0
        · rw [if_pos h2] at h
          refine Evt.pos (by simpa using h2) ?_
          simp only [Option.bind_some, Int.toNat_natCast, (split_at pre y rest).1, (split_at pre y rest).2, List.nil_append, List.length_nil, Nat.zero_add]
          have e2 : (pre ++ [p]) ++ y :: rest = pre ++ p :: y :: rest := by simp
          rw [e2]
          rw [List.length_append] at hl hlen
          exact Evt.pos (by rw [List.length_append]; omega) (Evt.pos (by omega) (Evt.pos (by omega) (Evt.pos (by simp only [List.length_append, List.length_cons, List.length_nil] at *; omega) h)))
        · rw [if_neg h2] at h
          exact Evt.neg (by simpa using h2) h
      · rw [if_neg hv] at h
        exact Evt.neg hv h

theorem m_l5 (out : List (List Int)) (i : Int) (rows : List (List Int)) (j : Int) (p : List Int) (hp : p.length ≤ 100000) (hpr : ∀ y ∈ p, 0 ≤ y ∧ y < V.length)
    (h : Evt (fun k => staddaref06_Moves.l6 k s hs V out i rows j p (wsum V p) 0) R) (dd : Nat) : ∀ t : Nat, p.length = t + dd → Evt (fun k => staddaref06_Moves.l5 k s hs V out i rows j p (wsum V (p.take t)) (t : Int)) R := by
  induction dd with
  | zero =>
    intro t ht
    refine Evt.step (fun k => by rw [staddaref06_Moves.l5]) (Evt.neg (by omega) ?_)
    rw [List.take_of_length_le (by omega)]
    exact h
  | succ dd ih =>
    intro t ht
    have htl : t < p.length := by omega
    have hy := hpr p[t] (List.getElem_mem htl)
    have hsum := HSteps.wsum_take V p t htl
    refine Evt.step (fun k => by rw [staddaref06_Moves.l5]) ?_
    rw [rd_at p t htl]
    refine Evt.pos (by omega) (Evt.pos (by omega) (Evt.pos (by omega) (Evt.pos (by omega) ?_)))
    have := ih (t + 1) (by omega)
    rw [hsum, List.getElem?_eq_getElem htl] at this
    rw [w64 (by omega) (by omega)]
    exact_mod_cast this

theorem m_l4 (out : List (List Int)) (i : Int) (rows : List (List Int)) (j : Nat) (row : List Int) (hj : rows[j]? = some row) (acc0 : List Int) (h0 : acc0.length ≤ 50000) (hrl : row.length ≤ 2)
    (h : Evt (fun k => staddaref06_Moves.l5 k s hs V out i rows (j : Int) (row.foldl putF acc0) 0 0) R) (dd : Nat) : ∀ t : Nat, row.length = t + dd → Evt (fun k => staddaref06_Moves.l4 k s hs V out i rows (j : Int) ((row.take t).foldl putF acc0) (t : Int)) R := by
  have hjl : j < rows.length := (List.getElem?_eq_some_iff.1 hj).1
  have e : rd_L2 rows (j : Int) = row := by rw [rdL_at _ _ hjl]; exact (List.getElem?_eq_some_iff.1 hj).2
  have hacc : ∀ l : List Int, (l.foldl putF acc0).length ≤ acc0.length + l.length := by
    intro l
    have key : ∀ (l acc : List Int), (l.foldl putF acc).length ≤ acc.length + l.length := by
      intro l
      induction l with
      | nil => intro acc; simp
      | cons y l ih =>
        intro acc
        have := ih (putF acc y)
        have := putF_len acc y
        simp only [List.foldl_cons, List.length_cons]; omega
    exact key l acc0
  induction dd with
  | zero =>
    intro t ht
    refine Evt.step (fun k => by rw [staddaref06_Moves.l4]) ?_
    rw [e]
    refine Evt.pos (by omega) (Evt.pos (by omega) (Evt.neg (by omega) ?_))
    rw [List.take_of_length_le (by omega)]
    exact h
  | succ dd ih =>
    intro t ht
    have htl : t < row.length := by omega
    refine Evt.step (fun k => by rw [staddaref06_Moves.l4]) ?_
    rw [e, rd_at row t htl]
    have hl := hacc (row.take t)
    rw [List.length_take] at hl
    refine Evt.pos (by omega) (Evt.pos (by omega) (Evt.pos (by omega) (Evt.pos (by omega) (Evt.bind (put_ev _ _ (by omega)) ?_))))
    have := ih (t + 1) (by omega)
    rw [List.take_add_one, List.getElem?_eq_getElem htl, List.foldl_append] at this
    rw [w64 (by omega) (by omega)]
    exact_mod_cast this

theorem m_l3 (out : List (List Int)) (i : Nat) (hil : i < hs.length) (rows : List (List Int)) (j : Int) (hhl : hs.length ≤ 1000)
    (h : Evt (fun k => staddaref06_Moves.l4 k s hs V out (i : Int) rows j ((hs.eraseIdx i).foldl putF []) 0) R) (dd : Nat) : ∀ t : Nat, hs.length = t + dd → Evt (fun k => staddaref06_Moves.l3 k s hs V out (i : Int) rows j (((hs.take t).eraseIdx i).foldl putF []) (t : Int)) R := by
  induction dd with
  | zero =>
    intro t ht
    refine Evt.step (fun k => by rw [staddaref06_Moves.l3]) (Evt.neg (by omega) ?_)
    rw [List.take_of_length_le (by omega)]
    exact h
  | succ dd ih =>
    intro t ht
    have htl : t < hs.length := by omega
    have hn := ih (t + 1) (by omega)
    rw [List.take_add_one, List.getElem?_eq_getElem htl] at hn
    have ht2 : (hs.take t).length = t := by rw [List.length_take]; omega
    refine Evt.step (fun k => by rw [staddaref06_Moves.l3]) (Evt.pos (by omega) ?_)
    rw [w64 (by omega) (by omega)]
    by_cases hti : t = i
    · refine Evt.pos (by omega) ?_
      have e1 : (hs.take t ++ (some hs[t]).toList).eraseIdx i = hs.take t := by
        rw [List.eraseIdx_append_of_length_le (by omega), ht2, show i - t = 0 by omega]; simp
      have e2 : (hs.take t).eraseIdx i = hs.take t := List.eraseIdx_of_length_le (by omega)
      rw [e1] at hn
      rw [e2]
      exact_mod_cast hn
    · refine Evt.neg (by omega) (Evt.pos (by omega) ?_)
      rw [rd_at hs t htl]
      have hlen : (((hs.take t).eraseIdx i).foldl putF []).length ≤ 1000 := by
        have key : ∀ (l acc : List Int), (l.foldl putF acc).length ≤ acc.length + l.length := by
          intro l
          induction l with
          | nil => intro acc; simp
          | cons y l ih =>
            intro acc
            have := ih (putF acc y)
            have := putF_len acc y
            simp only [List.foldl_cons, List.length_cons]; omega
        have := key ((hs.take t).eraseIdx i) []
        have h2 : ((hs.take t).eraseIdx i).length ≤ (hs.take t).length := by rw [List.length_eraseIdx]; split <;> omega
        simp only [List.length_nil] at this
        omega
      refine Evt.bind (put_ev _ _ (by omega)) ?_
      have e1 : (hs.take t ++ (some hs[t]).toList).eraseIdx i = (hs.take t).eraseIdx i ++ [hs[t]] := by
        by_cases hlt : i < t
        · rw [List.eraseIdx_append_of_lt_length (by omega)]; rfl
        · rw [List.eraseIdx_append_of_length_le (by omega), ht2, List.eraseIdx_of_length_le (l := hs.take t) (by omega)]
          obtain ⟨m, hm⟩ : ∃ m, i - t = m + 1 := ⟨i - t - 1, by omega⟩
          rw [hm]; simp
      rw [e1, List.foldl_append] at hn
      exact_mod_cast hn

theorem toRow_rowOf (p : Int × Int) : toRow p = rowOf p := rfl
theorem rowOf_len (p : Int × Int) : (rowOf p).length ≤ 2 := by unfold rowOf; split <;> (try split) <;> simp

/-- One row of the list of moves, all rows behind it. -/
theorem m_l2 {d : List Int} {B : Nat} (hV : VTab d (vals d 200) 200) (hVp : ∃ m, m ≤ 200 ∧ V = vals d m ∧ ∀ n ∈ hs, n ≤ (m : Int)) (hhl : hs.length ≤ 1000) (hr : ∀ n ∈ hs, 0 ≤ n ∧ n ≤ 200) (i : Nat) (hil : i < hs.length)
    (hml : (mv d (hs.getD i 0)).length ≤ 300100) (dd : Nat) : ∀ (j : Nat) (out : List (List Int)), (mv d (hs.getD i 0)).length = j + dd → out.length ≤ 10000000 + j → (∀ z ∈ out, z.length ≤ 100000) →
    (∀ out', out'.length ≤ 10000000 + (mv d (hs.getD i 0)).length → out' = ((mv d (hs.getD i 0)).drop j).foldl (stepO (vals d 200) hs i) out → Evt (fun k => staddaref06_Moves.l1 k s hs V out' (wrap64 ((i : Int) + 1))) R) →
    Evt (fun k => staddaref06_Moves.l2 k s hs V out (i : Int) ((mv d (hs.getD i 0)).map toRow) (j : Int)) R := by
  induction dd with
  | zero =>
    intro j out hj hol hz h
    refine Evt.step (fun k => by rw [staddaref06_Moves.l2]) (Evt.neg (by rw [List.length_map]; omega) ?_)
    exact h out (by omega) (by rw [List.drop_eq_nil_of_le (by omega)]; rfl)
  | succ dd ih =>
    intro j out hj hol hz h
    have hjl : j < (mv d (hs.getD i 0)).length := by omega
    obtain ⟨p, hp⟩ : ∃ p, (mv d (hs.getD i 0))[j] = p := ⟨_, rfl⟩
    have hmem : p ∈ mv d (hs.getD i 0) := by rw [← hp]; exact List.getElem_mem hjl
    have hl200 : ∀ n ∈ hs, 0 ≤ n ∧ n ≤ ((200 : Nat) : Int) := fun n hn => by have := hr n hn; omega
    obtain ⟨hsum, hrng⟩ := own_sum hV hl200 hil hmem
    have hpos := posR_own hs i (mv_zero' hmem)
    have hplen : (posR hs i p).length ≤ 100000 := by
      rw [hpos]
      unfold ownOf
      rw [(isort_perm _).length_eq]
      refine Nat.le_trans (List.length_filter_le _ _) ?_
      rw [List.length_append, List.length_eraseIdx, if_pos hil]
      simp only [List.length_cons, List.length_nil]
      omega
    obtain ⟨m, hm, hVe, hmx⟩ := hVp
    have hrngV : ∀ y ∈ posR hs i p, 0 ≤ y ∧ y ≤ (m : Int) := by
      intro y hy
      rw [hpos] at hy
      obtain ⟨h1, ⟨n, hn, h2⟩, h3⟩ := hrng y hy
      have := hmx n hn
      omega
    have hw : wsum V (posR hs i p) = wsum (vals d 200) (posR hs i p) := by
      rw [hVe]
      unfold wsum
      have key : ∀ (l : List Int) (s : Int), (∀ n ∈ l, 0 ≤ n ∧ n ≤ (m : Int)) → l.foldl (fun s n => xr s (at0 (vals d m) n)) s = l.foldl (fun s n => xr s (at0 (vals d 200) n)) s := by
        intro l
        induction l with
        | nil => intro s _; simp only [List.foldl_nil]
        | cons n l ih =>
          intro s h
          rw [List.foldl_cons, List.foldl_cons, at0_prefix d hm (h n (by simp)).1 (h n (by simp)).2]
          exact ih _ (fun m hm => h m (by simp [hm]))
      exact key _ 0 hrngV
    have hVlen : V.length = m + 1 := by rw [hVe]; exact vals_length _ _
    refine Evt.step (fun k => by rw [staddaref06_Moves.l2]) (Evt.pos (by rw [List.length_map]; omega) ?_)
    have hrowj : ((mv d (hs.getD i 0)).map toRow)[j]? = some (rowOf p) := by rw [List.getElem?_map, List.getElem?_eq_getElem hjl, hp]; rfl
    have hnext : Evt (fun k => staddaref06_Moves.l2 k s hs V (stepO (vals d 200) hs i out p) (i : Int) ((mv d (hs.getD i 0)).map toRow) (wrap64 ((j : Int) + 1))) R := by
      have := ih (j + 1) (stepO (vals d 200) hs i out p) (by omega) (by
        unfold stepO
        have := insP_length (posR hs i p) out
        split <;> omega) (by
        intro z hz'
        unfold stepO at hz'
        split at hz'
        · rcases (mem_insP _ _ _).1 hz' with rfl | h
          · exact hplen
          · exact hz z h
        · exact hz z hz') (fun out' h1 h2 => h out' h1 (by rw [h2, List.drop_eq_getElem_cons hjl, hp]; rfl))
      rw [w64 (by omega) (by omega)]
      exact_mod_cast this
    have h6 := m_l6 (s := s) (hs := hs) (V := V) (R := R) (i : Int) ((mv d (hs.getD i 0)).map toRow) (j : Int) (posR hs i p) hplen (wsum V (posR hs i p)) out [] (by simp; omega) (by simpa using hz) (by
      rw [List.nil_append, hw]
      exact hnext)
    rw [List.nil_append] at h6
    have h5 := m_l5 out (i : Int) ((mv d (hs.getD i 0)).map toRow) (j : Int) (posR hs i p) hplen (fun y hy => by have := hrngV y hy; omega) h6 (posR hs i p).length 0 (by omega)
    have hacc : ((hs.eraseIdx i).foldl putF []).length ≤ 50000 := by
      have key : ∀ (l acc : List Int), (l.foldl putF acc).length ≤ acc.length + l.length := by
        intro l
        induction l with
        | nil => intro acc; simp
        | cons y l ih =>
          intro acc
          have := ih (putF acc y)
          have := putF_len acc y
          simp only [List.foldl_cons, List.length_cons]; omega
      have := key (hs.eraseIdx i) []
      rw [List.length_eraseIdx, if_pos hil] at this
      simp only [List.length_nil] at this
      omega
    have h4 := m_l4 out (i : Int) ((mv d (hs.getD i 0)).map toRow) j (rowOf p) hrowj ((hs.eraseIdx i).foldl putF []) hacc (rowOf_len p) h5 (rowOf p).length 0 (by omega)
    have h3 := m_l3 out i hil ((mv d (hs.getD i 0)).map toRow) (j : Int) hhl h4 hs.length 0 (by omega)
    exact h3

theorem m_l1 {d : List Int} (hcode : isCode s = true) (hd : digs s = d) (hVp : ∃ m, m ≤ 200 ∧ V = vals d m ∧ ∀ n ∈ hs, n ≤ (m : Int)) (hhl : hs.length ≤ 10) (hr : ∀ n ∈ hs, 0 ≤ n ∧ n ≤ 200) (hdl : d.length ≤ 100)
    (hafter : ∀ n : Int, 0 ≤ n → n ≤ 200 → Evt (fun k => staddaref06_after.f k s n) ((mv d n).map toRow)) (dd : Nat) : ∀ (i : Nat), hs.length = i + dd → ((List.range i).foldl (rowO d (vals d 200) hs) []).length ≤ 300100 * i →
    Evt (fun k => staddaref06_Moves.l1 k s hs V ((List.range i).foldl (rowO d (vals d 200) hs) []) (i : Int)) ((List.range hs.length).foldl (rowO d (vals d 200) hs) []) := by
  induction dd with
  | zero =>
    intro i hi _
    refine Evt.step (fun k => by rw [staddaref06_Moves.l1]) (Evt.neg (by omega) ?_)
    rw [show i = hs.length by omega]
    exact Evt.const _
  | succ dd ih =>
    intro i hi hlen
    have hil : i < hs.length := by omega
    have e : rd hs (i : Int) = hs.getD i 0 := by rw [rd_at hs i hil, List.getD_eq_getElem?_getD, List.getElem?_eq_getElem hil]; rfl
    have hmem : hs.getD i 0 ∈ hs := by rw [List.getD_eq_getElem?_getD, List.getElem?_eq_getElem hil]; exact List.getElem_mem hil
    have hn := hr _ hmem
    have hml := HSteps.mv_len d (hs.getD i 0) (by omega) hdl
    have hV := vtab d 200 (by omega)
    refine Evt.step (fun k => by rw [staddaref06_Moves.l1]) (Evt.pos (by omega) (Evt.pos (by omega) ?_))
    rw [e]
    refine Evt.bind (hafter _ hn.1 hn.2) ?_
    have hz : ∀ z ∈ (List.range i).foldl (rowO d (vals d 200) hs) [], z.length ≤ 100000 := by
      intro z hz
      obtain ⟨i', hi', p, hp, _, rfl⟩ := ((fold_rows d (vals d 200) hs i).2 z).1 hz
      rw [posR_own hs i' (mv_zero' hp)]
      unfold ownOf
      rw [(isort_perm _).length_eq]
      refine Nat.le_trans (List.length_filter_le _ _) ?_
      rw [List.length_append, List.length_eraseIdx, if_pos (by omega)]
      simp only [List.length_cons, List.length_nil]
      omega
    have hlim : 300100 * i ≤ 300100 * 10 := Nat.mul_le_mul_left _ (by omega)
    refine m_l2 (B := 200) hV hVp (by omega) hr i hil hml (mv d (hs.getD i 0)).length 0 _ (by omega) (by omega) hz (fun out' h1 h2 => ?_)
    have e2 : out' = (List.range (i + 1)).foldl (rowO d (vals d 200) hs) [] := by
      rw [h2, List.range_succ, List.foldl_append]; rfl
    have h3 : ((List.range (i + 1)).foldl (rowO d (vals d 200) hs) []).length ≤ 300100 * (i + 1) := by
      rw [List.range_succ, List.foldl_append]
      show ((mv d (hs.getD i 0)).foldl (stepO (vals d 200) hs i) _).length ≤ _
      have key : ∀ (ps : List (Int × Int)) (o : List (List Int)), (ps.foldl (stepO (vals d 200) hs i) o).length ≤ o.length + ps.length := by
        intro ps
        induction ps with
        | nil => intro o; simp
        | cons p ps ih =>
          intro o
          have h1 := ih (stepO (vals d 200) hs i o p)
          have h2 : (stepO (vals d 200) hs i o p).length ≤ o.length + 1 := by
            unfold stepO
            have := insP_length (posR hs i p) o
            split <;> omega
          simp only [List.foldl_cons, List.length_cons]; omega
      have := key (mv d (hs.getD i 0)) ((List.range i).foldl (rowO d (vals d 200) hs) [])
      omega
    have := ih (i + 1) (by omega) h3
    rw [e2, w64 (by omega) (by omega)]
    exact_mod_cast this
end

theorem m_l0 (s : ByteArray) (hs : List Int) (R : List (List Int)) (hr : ∀ n ∈ hs, 0 ≤ n ∧ n ≤ 200) (hhl : hs.length ≤ 10) (h : ∀ m : Nat, m ≤ 200 → (∀ n ∈ hs, n ≤ (m : Int)) → Evt (fun k => (staddaref06_Values.f k s (m : Int)).bind fun t => staddaref06_Moves.l1 k s hs t ([] : List (List Int)) 0) R) (dd : Nat) :
    ∀ (j m : Nat), hs.length = j + dd → m ≤ 200 → (∀ t, t < j → hs[t]?.getD 0 ≤ (m : Int)) → Evt (fun k => staddaref06_Moves.l0 k s hs (m : Int) (j : Int)) R := by
  induction dd with
  | zero =>
    intro j m hj hm hmx
    refine Evt.step (fun k => by rw [staddaref06_Moves.l0]) (Evt.neg (by omega) ?_)
    refine h m hm (fun n hn => ?_)
    obtain ⟨t, ht, rfl⟩ := List.getElem_of_mem hn
    have := hmx t (by omega)
    rwa [List.getElem?_eq_getElem ht] at this
  | succ dd ih =>
    intro j m hj hm hmx
    have hjl : j < hs.length := by omega
    have hn := hr hs[j] (List.getElem_mem hjl)
    refine Evt.step (fun k => by rw [staddaref06_Moves.l0]) (Evt.pos (by omega) (Evt.pos (by omega) ?_))
    rw [rd_at hs j hjl]
    obtain ⟨m', hm'⟩ : ∃ m' : Nat, mx (m : Int) hs[j] = (m' : Int) ∧ m' ≤ 200 ∧ m ≤ m' ∧ hs[j] ≤ (m' : Int) := by
      unfold mx
      by_cases hc : (m : Int) < hs[j]
      · rw [if_pos hc]; exact ⟨hs[j].toNat, by omega, by omega, by omega, by omega⟩
      · rw [if_neg hc]; exact ⟨m, rfl, hm, Nat.le_refl _, by omega⟩
    rw [hm'.1, w64 (by omega) (by omega)]
    have := ih (j + 1) m' (by omega) hm'.2.1 (fun t ht => by
      by_cases e : t = j
      · subst e; rw [List.getElem?_eq_getElem hjl]; exact hm'.2.2.2
      · have := hmx t (by omega); omega)
    exact_mod_cast this

theorem rmoves_ev {s : ByteArray} (h : okc s) {hs : List Int} (hhl : hs.length ≤ 10) (hr : ∀ n ∈ hs, 0 ≤ n ∧ n ≤ 200) : Evt (fun k => staddaref06_Moves.f k s hs) (movesOf (digs s) (vals (digs s) 200) hs) := by
  have hV := vtab (digs s) 200 (by omega)
  rw [← rows_eq hV (hs := hs) (fun n hn => by have := hr n hn; omega)]
  have hdl := (isCode_of h.code).le
  have hafter : ∀ n : Int, 0 ≤ n → n ≤ 200 → Evt (fun k => staddaref06_after.f k s n) ((mv (digs s) n).map toRow) := by
    intro n h0 h1
    by_cases hn : n = 0
    · subst hn
      have e : mv (digs s) 0 = [] := by
        refine List.eq_nil_iff_forall_not_mem.2 (fun p hp => ?_)
        obtain ⟨a, b, c⟩ := mem_mv hp
        omega
      rw [e]
      refine Evt.of_eq (fun k => by rw [staddaref06_after.f]) ?_
      have hsz := (isCode_of h.code).two
      have hp := (isCode_of h.code).pos
      refine Evt.step (fun k => by rw [staddaref06_after.l0]) ?_
      refine Evt.pos (by rw [w64 (by omega) (by omega)]; omega) ?_
      refine Evt.step (fun k => by rw [staddaref06_after.j1]) ?_
      refine Evt.neg (by simp) ?_
      exact Evt.const _
    · exact after_ev s n h.code (by omega) (by omega)
  refine Evt.of_eq (fun k => by rw [staddaref06_Moves.f]) ?_
  refine m_l0 s hs _ hr hhl (fun m hm hmx => ?_) hs.length 0 0 (by omega) (by omega) (fun t ht => by omega)
  refine Evt.bind (rvals_ev s h.code (m : Int) (by omega) (by omega)) ?_
  rw [Int.toNat_natCast]
  exact m_l1 h.code rfl ⟨m, hm, rfl, hmx⟩ hhl hr hdl hafter hs.length 0 (by omega) (by simp)
end Go.Proofs.YtkfbdhlfajdpgaaGreatDoor.PHeapMoves
namespace Go.Proofs.YtkfbdhlfajdpgaaGreatDoor.PHeapMoves
set_option linter.unusedVariables false
set_option linter.unusedSimpArgs false
open Go Go.RowKit Go.Proofs.YtkfbdhlfajdpgaaGreatDoorW.PrintWords Go.Proofs.YtkfbdhlfajdpgaaGreatDoorW.PrintLast Go.Proofs.YtkfbdhlfajdpgaaGreatDoorW.PrintMore Go.Proofs.YtkfbdhlfajdpgaaGreatDoor.UEv Go.Proofs.YtkfbdhlfajdpgaaGreatDoor.HSpec Go.Proofs.YtkfbdhlfajdpgaaGreatDoor.HCode Go.Proofs.YtkfbdhlfajdpgaaGreatDoor.HNim Go.Proofs.YtkfbdhlfajdpgaaGreatDoor.HWins Go.Proofs.YtkfbdhlfajdpgaaGreatDoor.HIns

theorem awake_ev : Evt (fun k => staddalaw06_awake.f k) true := by
  refine ⟨200, fun k hk => ?_⟩
  obtain ⟨j, rfl⟩ := Nat.le.dest hk
  exact staddalaw06_awake.up awake_true j
theorem same_from (V : List Int) (hV : V.length ≤ 100000) (dd : Nat) : ∀ i : Nat, V.length = i + dd → Evt (fun k => staddalaw06_same.l0 k V V (i : Int)) true := by
  induction dd with
  | zero =>
    intro i hi
    exact Evt.step (fun k => by rw [staddalaw06_same.l0]) (Evt.neg (by omega) (Evt.const _))
  | succ dd ih =>
    intro i hi
    refine Evt.step (fun k => by rw [staddalaw06_same.l0]) ?_
    refine Evt.pos (by omega) (Evt.pos (by omega) (Evt.pos (by omega) (Evt.pos rfl ?_)))
    have := ih (i + 1) (by omega)
    rw [show ((i + 1 : Nat) : Int) = (i : Int) + 1 by omega] at this
    rw [w64 (by omega) (by omega)]
    exact this
theorem same_ev (V : List Int) (hV : V.length ≤ 100000) : Evt (fun k => staddalaw06_same.f k V V) true := by
  refine Evt.of_eq (fun k => by rw [staddalaw06_same.f]) (Evt.pos rfl ?_)
  exact same_from V hV V.length 0 (by omega)

theorem moves_f {c : ByteArray} (h : okc c) (l : List Int) : heap_Moves.f c l = some (HSteps.movesF c l) := by
  unfold heap_Moves.f
  rw [check_ok h, Option.bind_some, if_pos rfl, if_pos h.code]

theorem mm_len {c : ByteArray} (h : okc c) {l : List Int} (hl : l.length ≤ 10) (hr : ∀ n ∈ l, 0 ≤ n ∧ n ≤ 200) (V : List Int) : (movesOf (digs c) V l).length ≤ 1000000000 := by
  have h1 : ∀ (p : List Int) (l : List (List Int)), (dgo p l).length ≤ l.length := by
    intro p l
    induction l generalizing p with
    | nil => simp [dgo]
    | cons y l ih =>
      rw [dgo]
      split
      · have := ih y; simp only [List.length_cons]; omega
      · have := ih y; simp only [List.length_cons]; omega
  have h2 : ∀ l : List (List Int), (dedup l).length ≤ l.length := by
    intro l
    cases l with
    | nil => simp [dedup]
    | cons x l => have := h1 x l; simp only [dedup, List.length_cons]; omega
  have h3 := h2 (lsort (outs (digs c) V l))
  rw [(lsort_perm _).length_eq] at h3
  have hd : (digs c).length ≤ 100 := (isCode_of h.code).le
  have h4 := HSteps.outsTo_len (digs c) V l hr hd l.length
  unfold movesOf
  unfold outs at h3
  have : 300100 * l.length ≤ 300100 * 10 := Nat.mul_le_mul_left _ hl
  unfold outs
  omega

theorem hm_l3 (c : ByteArray) (x7 : Int) (hx : x7 = 0 ∨ x7 = 1) (hn : ∀ own' : List Int, own'.length ≤ 12 → Evt (fun k => staddalaw06_HeapMoves.l0 k c own' (x7 + 1)) true) (dd : Nat) : ∀ (own : List Int) (j : Nat), own.length ≤ 12 → own.length = j + dd → Evt (fun k => staddalaw06_HeapMoves.l3 k c own x7 (j : Int)) true := by
  induction dd with
  | zero =>
    intro own j hl hj
    refine Evt.step (fun k => by rw [staddalaw06_HeapMoves.l3]) (Evt.neg (by omega) ?_)
    have hm : mn (own.length : Int) 4 = ((min own.length 4 : Nat) : Int) := by unfold mn; split <;> omega
    rw [hm, Int.toNat_natCast, w64 (by omega) (by omega)]
    exact Evt.pos (by omega) (Evt.pos (by omega) (hn _ (by rw [List.length_take]; omega)))
  | succ dd ih =>
    intro own j hl hj
    refine Evt.step (fun k => by rw [staddalaw06_HeapMoves.l3]) (Evt.pos (by omega) (Evt.pos (by omega) ?_))
    have := ih (own.set (j : Int).toNat (wrap64 (Int.tmod (IntKind.u64.wrap (rd own (j : Int))) 25))) (j + 1) (by rw [List.length_set]; exact hl) (by rw [List.length_set]; omega)
    rw [w64 (x := (j : Int) + 1) (by omega) (by omega)]
    exact_mod_cast this

theorem hm_l2 (c : ByteArray) (own : List Int) (x7 : Int) (P : List (List Int)) (hP : P.length ≤ 1000000000) (hz : ∀ z ∈ P, z.length ≤ 100000) (h : Evt (fun k => staddalaw06_HeapMoves.j5 k c own x7) true) (dd : Nat) : ∀ j : Nat, P.length = j + dd → Evt (fun k => staddalaw06_HeapMoves.l2 k c own x7 P P (j : Int)) true := by
  induction dd with
  | zero =>
    intro j hj
    exact Evt.step (fun k => by rw [staddalaw06_HeapMoves.l2]) (Evt.neg (by omega) h)
  | succ dd ih =>
    intro j hj
    have hjl : j < P.length := by omega
    refine Evt.step (fun k => by rw [staddalaw06_HeapMoves.l2]) ?_
    rw [rdL_at P j hjl]
    refine Evt.pos (by omega) (Evt.pos (by omega) (Evt.pos (by omega) (Evt.bind (same_ev P[j] (hz _ (List.getElem_mem hjl))) (Evt.pos rfl ?_))))
    have := ih (j + 1) (by omega)
    rw [w64 (by omega) (by omega)]
    exact_mod_cast this

/-- Whether a heap is out of range, told step by step. -/
theorem outR_take (l : List Int) (j : Nat) (hj : j < l.length) : HSteps.outR (l.take (j + 1)) = (HSteps.outR (l.take j) || (decide (l[j] < 0) || decide (l[j] > 200))) := by
  unfold HSteps.outR
  rw [List.take_add_one, List.getElem?_eq_getElem hj, List.any_append]
  simp

theorem hm_l1 (c : ByteArray) (own : List Int) (x7 : Int) (P : List (List Int)) (e : Int) (hl : own.length ≤ 12) (h : Evt (fun k => staddalaw06_HeapMoves.j2 k c own x7 P e (if 10 < own.length then 2 else if HSteps.outR own = true then 1 else 0)) true) (dd : Nat) :
    ∀ j : Nat, own.length = j + dd → Evt (fun k => staddalaw06_HeapMoves.l1 k c own x7 P e (if HSteps.outR (own.take j) = true then 1 else 0) (j : Int)) true := by
  induction dd with
  | zero =>
    intro j hj
    refine Evt.step (fun k => by rw [staddalaw06_HeapMoves.l1]) (Evt.neg (by omega) ?_)
    rw [List.take_of_length_le (by omega)]
    by_cases h10 : 10 < own.length
    · rw [if_pos h10] at h
      exact Evt.pos (by omega) h
    · rw [if_neg h10] at h
      exact Evt.neg (by omega) h
  | succ dd ih =>
    intro j hj
    have hjl : j < own.length := by omega
    have hn := ih (j + 1) (by omega)
    rw [outR_take own j hjl] at hn
    refine Evt.step (fun k => by rw [staddalaw06_HeapMoves.l1]) (Evt.pos (by omega) (Evt.pos (by omega) ?_))
    rw [rd_at own j hjl, w64 (x := (j : Int) + 1) (by omega) (by omega)]
    by_cases h1 : own[j] < 0
    · refine Evt.pos h1 ?_
      rw [show decide (own[j] < 0) = true from by simpa using h1] at hn
      simp only [Bool.true_or, Bool.or_true, if_true] at hn
      exact_mod_cast hn
    · refine Evt.neg h1 ?_
      by_cases h2 : own[j] > 200
      · refine Evt.pos h2 ?_
        rw [show decide (own[j] > 200) = true from by simpa using h2] at hn
        simp only [Bool.or_true, if_true] at hn
        exact_mod_cast hn
      · refine Evt.neg h2 ?_
        rw [show decide (own[j] < 0) = false from by simpa using h1, show decide (own[j] > 200) = false from by simpa using h2] at hn
        simp only [Bool.or_false] at hn
        exact_mod_cast hn

theorem hm_round {c : ByteArray} (h : okc c) (x7 : Int) (hx : x7 = 0 ∨ x7 = 1) (hn : ∀ own' : List Int, own'.length ≤ 12 → Evt (fun k => staddalaw06_HeapMoves.l0 k c own' (x7 + 1)) true) (own : List Int) (hl : own.length ≤ 12) : Evt (fun k => staddalaw06_HeapMoves.l0 k c own x7) true := by
  have h5 : Evt (fun k => staddalaw06_HeapMoves.j5 k c own x7) true := by
    refine Evt.step (fun k => by rw [staddalaw06_HeapMoves.j5]) ?_
    exact hm_l3 c x7 hx hn own.length own 0 hl (by omega)
  refine Evt.step (fun k => by rw [staddalaw06_HeapMoves.l0]) (Evt.pos (by omega) ?_)
  rw [moves_f h own]
  refine Evt.bind (f := fun _ => some (HSteps.movesF c own)) (Evt.const _) ?_
  have key : Evt (fun k => staddalaw06_HeapMoves.j2 k c own x7 (HSteps.movesF c own).1 (HSteps.movesF c own).2 (if 10 < own.length then 2 else if HSteps.outR own = true then 1 else 0)) true := by
    unfold HSteps.movesF
    by_cases h1 : 10 < own.length
    · simp only [if_pos h1]
      refine Evt.step (fun k => by rw [staddalaw06_HeapMoves.j2]) ?_
      exact Evt.neg (by decide) (Evt.pos rfl (Evt.pos rfl h5))
    · simp only [if_neg h1]
      by_cases h2 : HSteps.outR own = true
      · simp only [if_pos h2]
        refine Evt.step (fun k => by rw [staddalaw06_HeapMoves.j2]) ?_
        exact Evt.neg (by decide) (Evt.pos rfl (Evt.pos rfl h5))
      · simp only [if_neg h2]
        have hr : ∀ n ∈ own, 0 ≤ n ∧ n ≤ 200 := by
          have h2 : HSteps.outR own = false := by simpa using h2
          unfold HSteps.outR at h2
          rw [List.any_eq_false] at h2
          intro n hn
          have := h2 n hn
          simp at this
          omega
        refine Evt.step (fun k => by rw [staddalaw06_HeapMoves.j2]) (Evt.pos rfl ?_)
        refine Evt.bind (rmoves_ev h (by omega) hr) (Evt.pos rfl ?_)
        refine Evt.step (fun k => by rw [staddalaw06_HeapMoves.j3]) (Evt.neg (by simp) ?_)
        have hV := vtab (digs c) 200 (by omega)
        refine hm_l2 c own x7 _ (mm_len h (by omega) hr _) (fun z hz => ?_) h5 (movesOf (digs c) (vals (digs c) 200) own).length 0 (by omega)
        obtain ⟨_, _, m3⟩ := wins_mem hV (l := own) (fun n hn => by have := hr n hn; omega) (C := 200) (fun n hn => (hr n hn).2) hz
        omega
  have := hm_l1 c own x7 (HSteps.movesF c own).1 (HSteps.movesF c own).2 hl key own.length 0 (by omega)
  simpa [HSteps.outR] using this

theorem hm_pure : staddalaw06_HeapMoves.Pure := by
  intro a0 l1 hs _ hl _
  obtain ⟨c, hc1, hc⟩ := code_ev a0 (by omega)
  have hm : mn (l1.length : Int) 12 = ((min l1.length 12 : Nat) : Int) := by unfold mn; split <;> omega
  have last : ∀ own' : List Int, own'.length ≤ 12 → Evt (fun k => staddalaw06_HeapMoves.l0 k c own' 2) true := fun own' _ => by
    refine Evt.step (fun k => by rw [staddalaw06_HeapMoves.l0]) (Evt.neg (by decide) ?_)
    exact Evt.bind awake_ev (Evt.const _)
  have hf : Evt (fun k => staddalaw06_HeapMoves.f k a0 l1) true := by
    refine Evt.of_eq (fun k => by rw [staddalaw06_HeapMoves.f]) (Evt.bind hc1 ?_)
    rw [hm, Int.toNat_natCast]
    have htl : (l1.take (min l1.length 12)).length ≤ 12 := by rw [List.length_take]; omega
    refine Evt.pos (by omega) (Evt.pos (by omega) (Evt.pos (by simp only [List.length_nil]; omega) ?_))
    rw [List.nil_append]
    exact hm_round hc 0 (.inl rfl) (hm_round hc 1 (.inr rfl) last) _ htl
  exact hf.get
end Go.Proofs.YtkfbdhlfajdpgaaGreatDoor.PHeapMoves
