/- The reference's values are the values. -/
import Derived.Test.YtpnhpbklbgbjbaaDoorHAfter
namespace Go.Proofs.YtpnhpbklbgbjbaaDoor.PHeapPeriods
set_option linter.unusedVariables false
set_option linter.unusedSimpArgs false
open Go Go.RowKit Go.Proofs.YtpnhpbklbgbjbaaDoorW.PrintWords Go.Proofs.YtpnhpbklbgbjbaaDoorW.PrintLast Go.Proofs.YtpnhpbklbgbjbaaDoorW.PrintMore Go.Proofs.YtpnhpbklbgbjbaaDoor.UEv Go.Proofs.YtpnhpbklbgbjbaaDoor.HSpec Go.Proofs.YtpnhpbklbgbjbaaDoor.HCode Go.Proofs.YtpnhpbklbgbjbaaDoor.HValues Go.Proofs.YtpnhpbklbgbjbaaDoor.HList Go.Proofs.YtpnhpbklbgbjbaaDoor.UBits

theorem rd_at0 (V : List Int) (i : Int) : rd V i = at0 V i := rfl

theorem rvals_l3 (x0 : ByteArray) (x1 : Int) (V : List Int) (x6 : Int) (S : List Bool) (m : Nat) (hm : m < S.length) (hSl : S.length ≤ 1000000) (h1 : S.getD m false = false) (h2 : ∀ v, v < m → S.getD v false = true) (hV : V.length ≤ 1000000) (R : List Int)
    (hR : Evt (fun k => staddaref06_Values.l0 k x0 x1 (V ++ [(m : Int)]) (wrap64 (x6 + 1))) R) (dd : Nat) : ∀ v : Nat, m = v + dd → Evt (fun k => staddaref06_Values.l3 k x0 x1 V x6 S (v : Int)) R := by
  induction dd with
  | zero =>
    intro v hv
    obtain rfl : m = v := by omega
    refine Evt.step (fun k => by rw [staddaref06_Values.l3]) ?_
    refine Evt.pos (by omega) ?_
    refine Evt.pos (by omega) ?_
    refine Evt.neg (by unfold rdOf; rw [Int.toNat_natCast, h1]; simp) ?_
    refine Evt.pos (by omega) ?_
    exact hR
  | succ dd ih =>
    intro v hv
    refine Evt.step (fun k => by rw [staddaref06_Values.l3]) ?_
    refine Evt.pos (by omega) ?_
    refine Evt.pos (by omega) ?_
    refine Evt.pos (by unfold rdOf; rw [Int.toNat_natCast]; exact h2 v (by omega)) ?_
    have := ih (v + 1) (by omega)
    rw [w64 (by omega) (by omega)]
    exact_mod_cast this

theorem xor_zero_left {a : Int} (h : 0 ≤ a) (h2 : a ≤ 1000000) : bits .xor .i64 0 a = a := by
  rw [xor_int (by omega) h (by omega) (by omega)]
  simp; omega
theorem xor_zero_right {a : Int} (h : 0 ≤ a) (h2 : a ≤ 1000000) : bits .xor .i64 a 0 = a := by
  rw [xor_int h (by omega) (by omega) (by omega)]
  simp; omega

theorem rvals_l2 (x0 : ByteArray) (x1 : Int) (V : List Int) (x6 : Int) (S : List Bool) (rows : List (List Int)) (j : Nat) (p : Int × Int) (hj : j < rows.length) (hrow : rd_L2 rows (j : Int) = toRow p) (hg : HSpec.Good V) (hVl : V.length ≤ 1000000)
    (hz : p.1 = 0 → p.2 = 0) (hp1 : 0 ≤ p.1) (hp2 : 0 ≤ p.2) (hp : p.1 + p.2 < V.length) (hv : 0 ≤ optv V p ∧ optv V p < V.length) (hS : V.length ≤ S.length) (R : List Int)
    (hR : Evt (fun k => staddaref06_Values.l1 k x0 x1 V x6 (S.set (optv V p).toNat true) rows (wrap64 ((j : Int) + 1))) R) :
    Evt (fun k => staddaref06_Values.l2 k x0 x1 V x6 S rows (j : Int) 0 0) R := by
  have hV0 : at0 V 0 = 0 := by have := hg.at0 (i := 0) (by omega) (by omega); omega
  have ha := hg.at0 hp1 (by omega)
  have hb := hg.at0 hp2 (by omega)
  have fin : ∀ (x : Int) (i : Int), x = optv V p → i = ((toRow p).length : Int) → Evt (fun k => staddaref06_Values.l2 k x0 x1 V x6 S rows (j : Int) x i) R := by
    intro x i hx hi
    refine Evt.step (fun k => by rw [staddaref06_Values.l2]) ?_
    refine Evt.pos (by omega) ?_
    refine Evt.pos (by omega) ?_
    refine Evt.neg (by rw [hrow]; omega) ?_
    refine Evt.pos (by omega) ?_
    refine Evt.pos (by omega) ?_
    rw [hx]; exact hR
  have step : ∀ (x : Int) (i : Nat) (q : Int), (toRow p)[i]? = some q → 0 ≤ q → q < V.length → i < 2 → Evt (fun k => staddaref06_Values.l2 k x0 x1 V x6 S rows (j : Int) (bits .xor .i64 x (at0 V q)) ((i : Int) + 1)) R → Evt (fun k => staddaref06_Values.l2 k x0 x1 V x6 S rows (j : Int) x (i : Int)) R := by
    intro x i q hq h0 h1 hi h
    have hil : i < (toRow p).length := (List.getElem?_eq_some_iff.1 hq).1
    have e : rd (rd_L2 rows (j : Int)) (i : Int) = q := by
      rw [hrow]; unfold rd
      rw [Int.toNat_natCast, List.getD_eq_getElem?_getD, hq]; rfl
    refine Evt.step (fun k => by rw [staddaref06_Values.l2]) ?_
    refine Evt.pos (by omega) ?_
    refine Evt.pos (by omega) ?_
    refine Evt.pos (by rw [hrow]; omega) ?_
    refine Evt.pos (by omega) ?_
    refine Evt.pos (by rw [e]; omega) ?_
    refine Evt.pos (by rw [e]; omega) ?_
    rw [e, w64 (by omega) (by omega)]
    exact h
  by_cases h1 : p.1 = 0
  · have e : toRow p = [] := by unfold toRow; rw [if_pos h1]
    refine fin 0 0 ?_ (by rw [e]; rfl)
    unfold optv xr
    rw [h1, hz h1, hV0, xor_zero_left (by omega) (by omega)]
  · by_cases h2 : p.2 = 0
    · have e : toRow p = [p.1] := by unfold toRow; rw [if_neg h1, if_pos h2]
      refine step 0 0 p.1 (by rw [e]; rfl) hp1 (by omega) (by omega) ?_
      rw [xor_zero_left ha.1 (by omega)]
      refine fin _ _ ?_ (by rw [e]; rfl)
      unfold optv xr
      rw [h2, hV0, xor_zero_right ha.1 (by omega)]
    · have e : toRow p = [p.1, p.2] := by unfold toRow; rw [if_neg h1, if_neg h2]
      refine step 0 0 p.1 (by rw [e]; rfl) hp1 (by omega) (by omega) ?_
      rw [xor_zero_left ha.1 (by omega)]
      refine step _ 1 p.2 (by rw [e]; rfl) hp2 (by omega) (by omega) ?_
      exact fin _ _ rfl (by rw [e]; rfl)

theorem mv_zero {d : List Int} {m : Int} {p : Int × Int} (h : p ∈ mv d m) : p.1 = 0 → p.2 = 0 := by
  unfold mv mvs at h
  obtain ⟨i, hi, hp⟩ := List.mem_flatMap.1 h
  unfold mvAt at hp
  split at hp
  · simp at hp
  · split at hp
    · split at hp
      · simp at hp
      · intro _; rw [List.mem_singleton.1 hp]
    · rcases List.mem_append.1 hp with hp | hp
      · split at hp
        · simp at hp
        · intro _; rw [List.mem_singleton.1 hp]
      · split at hp
        · simp at hp
        · have := mem_prs hp; omega

theorem rvals_l1 (x0 : ByteArray) (x1 : Int) (d V : List Int) (x6 : Int) (hg : HSpec.Good V) (hVl : V.length ≤ 3000) (L : Nat) (hL : V.length + 2 ≤ L) (hL2 : L ≤ 10000) (R : List Int)
    (hR : Evt (fun k => staddaref06_Values.l0 k x0 x1 (V ++ [(mexN (opts d V) : Int)]) (wrap64 (x6 + 1))) R) (hml : (mv d V.length).length ≤ 1000000) (dd : Nat) : ∀ (j : Nat) (S : List Bool), (mv d V.length).length = j + dd → S.length = L → (∀ v : Nat, v < L → S.getD v false = (((mv d V.length).take j).map (optv V)).contains (v : Int)) →
    Evt (fun k => staddaref06_Values.l1 k x0 x1 V x6 S ((mv d V.length).map toRow) (j : Int)) R := by
  induction dd with
  | zero =>
    intro j S hj hS hval
    refine Evt.step (fun k => by rw [staddaref06_Values.l1]) ?_
    refine Evt.neg (by rw [List.length_map]; omega) ?_
    have hspec := mexN_spec (opts d V)
    have hle : mexN (opts d V) ≤ V.length := by
      refine mexN_le _ _ (fun x hx => ?_)
      obtain ⟨y, hy, rfl⟩ := List.mem_map.1 hx
      exact (optv_bound hg (by omega) hy).2
    rw [List.take_of_length_le (by omega)] at hval
    refine rvals_l3 x0 x1 V x6 S (mexN (opts d V)) (by omega) (by omega) ?_ ?_ (by omega) R hR (mexN (opts d V)) 0 (by omega)
    · rw [hval _ (by omega)]
      have := hspec.1
      rw [show (mv d V.length).map (optv V) = opts d V from rfl]
      simpa using this
    · intro v hv
      rw [hval _ (by omega)]
      have := hspec.2 v hv
      rw [show (mv d V.length).map (optv V) = opts d V from rfl]
      simpa using this
  | succ dd ih =>
    intro j S hj hS hval
    have hjl : j < (mv d V.length).length := by omega
    obtain ⟨p, hp⟩ : ∃ p, (mv d V.length)[j]? = some p := ⟨_, List.getElem?_eq_getElem hjl⟩
    have hmem : p ∈ mv d V.length := List.mem_of_getElem? hp
    have hb := optv_bound hg (by omega) hmem
    obtain ⟨m1, m2, m3⟩ := mem_mv hmem
    refine Evt.step (fun k => by rw [staddaref06_Values.l1]) ?_
    refine Evt.pos (by rw [List.length_map]; omega) ?_
    refine rvals_l2 x0 x1 V x6 S _ j p (by rw [List.length_map]; omega) ?_ hg (by omega) (mv_zero hmem) m1 m2 (by omega) hb (by omega) R ?_
    · unfold rd_L2
      rw [Int.toNat_natCast, List.getD_eq_getElem?_getD, List.getElem?_map, hp]; rfl
    · have := ih (j + 1) (S.set (optv V p).toNat true) (by omega) (by simpa using hS) (fun v hv => ?_)
      · rw [w64 (by omega) (by omega)]
        exact_mod_cast this
      · rw [List.take_add_one, hp, List.map_append, List.getD_eq_getElem?_getD, List.getElem?_set]
        by_cases he : (optv V p).toNat = v
        · rw [if_pos he, if_pos (by omega)]
          have : optv V p = (v : Int) := by omega
          simp [this]
        · rw [if_neg he, ← List.getD_eq_getElem?_getD, hval v hv]
          have : ¬ (v : Int) = optv V p := by omega
          simp [this]

theorem rvals_l0 (s : ByteArray) (h : isCode s = true) (N : Nat) (hN : N ≤ 2000) (dd : Nat) : ∀ i : Nat, N = i + dd → Evt (fun k => staddaref06_Values.l0 k s (N : Int) (vals (digs s) i) ((i : Int) + 1)) (vals (digs s) N) := by
  induction dd with
  | zero =>
    intro i hi
    obtain rfl : N = i := by omega
    refine Evt.step (fun k => by rw [staddaref06_Values.l0]) ?_
    refine Evt.neg (by omega) ?_
    exact Evt.const _
  | succ dd ih =>
    intro i hi
    have hlen := vals_length (digs s) i
    refine Evt.step (fun k => by rw [staddaref06_Values.l0]) ?_
    rw [w64 (x := 2 * (N : Int)) (by omega) (by omega), w64 (x := 2 * (N : Int) + 4) (by omega) (by omega)]
    refine Evt.pos (by omega) ?_
    refine Evt.pos (by omega) ?_
    refine Evt.pos (by omega) ?_
    refine Evt.bind (after_ev s ((i : Int) + 1) h (by omega) (by omega)) ?_
    have hn : ((i : Int) + 1) = ((vals (digs s) i).length : Int) := by rw [hlen]; rfl
    have hml : (mv (digs s) (vals (digs s) i).length).length ≤ 1000000 := by
      have := mvs_length (digs s) ((vals (digs s) i).length : Int) (by omega) (digs s).length
      have := (isCode_of h).le
      unfold mv; omega
    have := rvals_l1 s (N : Int) (digs s) (vals (digs s) i) ((vals (digs s) i).length : Int) (vals_good _ _ (by omega)) (by omega) (2 * (N : Int) + 4).toNat (by omega) (by omega) (vals (digs s) N) (by
      have := ih (i + 1) (by omega)
      rw [← hn, w64 (by omega) (by omega)]
      exact_mod_cast this) hml (mv (digs s) (vals (digs s) i).length).length 0 (List.replicate (2 * (N : Int) + 4).toNat false) (by omega) (by simp) (fun v hv => by simp [List.getD_eq_getElem?_getD, List.getElem?_replicate, hv])
    rw [hn]
    exact_mod_cast this

theorem rvals_ev (s : ByteArray) (h : isCode s = true) (n : Int) (h0 : 0 ≤ n) (hn : n ≤ 2000) : Evt (fun k => staddaref06_Values.f k s n) (vals (digs s) n.toNat) := by
  obtain ⟨N, rfl⟩ := Int.eq_ofNat_of_zero_le h0
  have := rvals_l0 s h N (by omega) N 0 (by omega)
  rw [Int.toNat_natCast]
  exact this
end Go.Proofs.YtpnhpbklbgbjbaaDoor.PHeapPeriods
