/- The iterator moves: its closure's walk, and its contract. -/
import Derived.Shelf.Abstract
import Derived.Shelf.RegionOpen
import Derived.WalkKit
import Derived.OwnWalkIn
import Derived.TacticsInMore
import Derived.LoopNIn
import Derived.LoopIn
import Derived.Lib.Hide
import Derived.Test.YtkfbdhlfajdpgaaGreatDoorProg
import Derived.Test.YtkfbdhlfajdpgaaGreatDoorHIter
import Derived.Test.YtkfbdhlfajdpgaaGreatDoorHSpec
namespace Go.Proofs.YtkfbdhlfajdpgaaGreatDoor.HMoves
set_option linter.unusedVariables false
set_option linter.unusedSimpArgs false
open Go Go.RowKit Go.Shelf Go.Proofs.YtkfbdhlfajdpgaaGreatDoor.HIter Go.Proofs.YtkfbdhlfajdpgaaGreatDoor.HSpec
attribute [local go_sem] Oper.semAt_some

/-- What the closure of moves needs: its two captured variables, and the digits. -/
def OwnM (Bd Bn b off c : Nat) (d : List Int) (m : Int) (D : Nat → Prop) (W : World) : Prop :=
  W.cell? ⟨Bd, 0, none⟩ = some (.slice (some ⟨b, off, none⟩) d.length c) ∧ W.cell? ⟨Bn, 0, none⟩ = some (.int .i64 m) ∧ (∀ j, j < d.length → W.cell? ⟨b, off + j, none⟩ = some (.int .i64 (d[j]?.getD 0))) ∧
    ¬ D Bd ∧ ¬ D Bn ∧ ¬ D b ∧ Bd < W.heap.size ∧ Bn < W.heap.size ∧ b < W.heap.size

theorem OwnM.later {Bd Bn b off c : Nat} {d : List Int} {m : Int} {D : Nat → Prop} {W W' : World} (h : OwnM Bd Bn b off c d m D W) (hf : Fr D W W') : OwnM Bd Bn b off c d m D W' := by
  obtain ⟨h1, h2, h3, h4, h5, h6, h7, h8, h9⟩ := h
  have hs := hf.size
  exact ⟨(hf.cell (p := ⟨Bd, 0, none⟩) h7 h4).trans h1, (hf.cell (p := ⟨Bn, 0, none⟩) h8 h5).trans h2, fun j hj => (hf.cell (p := ⟨b, off + j, none⟩) h9 h6).trans (h3 j hj), h4, h5, h6, by omega, by omega, by omega⟩

set_option maxRecDepth 100000 in
set_option maxHeartbeats 4000000 in
theorem moves1_in (F : Fence) (n : Nat) (hF : ∀ f, F.fn f) (hro : F.round = none) (hn : F.depth = none) (l Bd Bn b off c : Nat) (d : List Int) (m : Int) (hm0 : 0 ≤ m) (hm1 : m ≤ 1000000) (hd : d.length ≤ 1000)
    (J Jx : (Nat → Prop) → List (Int × Int) → World → Prop)
    (hY : Rounds F (n - 1) Tryz.prog l (fun x : Int × Int => #[.int .i64 x.1, .int .i64 x.2]) (fun pre x => ∃ rest, mv d m = pre ++ x :: rest) J Jx)
    (D : Nat → Prop) (W : World) (hO : OwnM Bd Bn b off c d m D W) (h0 : J D [] W) :
    CallsIn F n Tryz.prog 38 #[.func (.yield l) #[] #[], .pointer (some ⟨Bd, 0, none⟩), .pointer (some ⟨Bn, 0, none⟩)] W fun e W' => (∃ v, e = .returned v) ∧ ((∃ xs, xs = mv d m ∧ Goes J D xs W W') ∨ (∃ pre, Goes Jx D pre W W')) := by
  have hFf := hF 38
  refine callsIn_of_wp Tryz.func38 rfl hFf ?_ hro
  simp only [Tryz.ntmps38, List.size_toArray, List.length_cons, List.length_nil, Nat.reduceAdd, Nat.reduceSub, Array.replicate_succ, Array.replicate_zero, List.push_toArray, List.append_toArray, List.nil_append, List.cons_append]
  obtain ⟨q1, q2, q3, q4, q5, q6, q7, q8, q9⟩ := hO
  have hO : Hid (OwnM Bd Bn b off c d m D W) := ⟨q1, q2, q3, q4, q5, q6, q7, q8, q9⟩
  clear q2 q3
  gi_wp2
  gi_loopw [10] (fun i wr => ∃ k : Nat, k ≤ d.length ∧ i = .int .i64 k ∧ Goes J D (mvs d m k) W wr) (fun i _ => d.length - (intOf i).toNat)
  case atStart => exact ⟨0, Nat.zero_le _, rfl, D, h0, Fr.refl _ _, fun k hk => .inl hk⟩
  case round =>
    obtain ⟨k, hk, rfl, D1, g1, g2, g3⟩ := hrel
    by_cases hlt : k < d.length
    · have hO1 : OwnM Bd Bn b off c d m D wr := OwnM.later hO.out g2
      have hcn := hO1.2.1
      have hcd := hO1.2.2.1 k hlt
      clear hO1
      obtain ⟨g, hg⟩ : ∃ g, d[k]?.getD 0 = g := ⟨_, rfl⟩
      rw [hg] at hcd
      obtain ⟨L, hL⟩ : ∃ L : Int, m - k - 1 = L := ⟨_, rfl⟩
      have Hnx := Lib.hid (fun (p r : List (Int × Int)) (x : Int × Int) (e : mvAt g L = p ++ x :: r) => next_of d m hlt (hg ▸ hL ▸ e))
      have Hsc := Lib.hid (mvs_succ d m k)
      rw [hg, hL] at Hsc
      clear hg
      have hL1 : L ≤ 1000000 := by omega
      have hL2 : -1001 ≤ L := by omega
      have HL := Lib.hid hL
      by_cases c0 : L < 0
      · have c0' : m - k - 1 < 0 := by omega
        clear hL
        gi_wp2
        go_roundw
        case rel => exact ⟨k + 1, by omega, by go_num, D1, by rw [Hsc.out, mvAt_neg c0, List.append_nil]; exact g1, g2, g3⟩
        case measure => simp [intOf]; omega
      · by_cases cz : L = 0
        · have Z : (m - k - 1 == 0) = true := by rw [hL, cz]; rfl
          have Z' : ¬ m - k - 1 < 0 := by omega
          have Hz := Lib.hid cz
          clear hL cz
          by_cases b1 : bits .and .i64 g 1 = 0
          · have B1 : (bits .and .i64 g 1 == 0) = true := by rw [b1]; rfl
            have Hb1 := Lib.hid b1
            clear b1
            gi_wp2
            go_roundw
            case rel => exact ⟨k + 1, by omega, by go_num, D1, by rw [Hsc.out, mvAt_zero0 Hz.out Hb1.out, List.append_nil]; exact g1, g2, g3⟩
            case measure => simp [intOf]; omega
          · have B1 : (bits .and .i64 g 1 == 0) = false := by simpa using b1
            have Hb1 := Lib.hid b1
            clear b1
            have Y := hY D1 (mvs d m k) (0, 0) wr g1 (by
              have := Hnx.out [] [] (0, 0) (by rw [mvAt_zero1 Hz.out Hb1.out]; rfl)
              simpa using this)
            obtain ⟨fn, tmps, assign, body, hy, hR⟩ := Y
            dsimp only at hy
            gi_wp2
            refine hR.mono ?_
            rintro e W3 (⟨rfl, hG⟩ | ⟨rfl, hG⟩)
            · obtain ⟨D4, f1, f2, f3⟩ := Goes.trans g2 g3 hG
              gi_wp2
              go_roundw
              case rel => exact ⟨k + 1, by omega, by go_num, D4, by rw [Hsc.out, mvAt_zero1 Hz.out Hb1.out]; exact f1, f2, f3⟩
              case measure => simp [intOf]; omega
            · gi_wp2
              refine bodyPost_ret (results_none rfl _ _ _) rfl ?_
              exact ⟨⟨_, rfl⟩, .inr ⟨_, Goes.trans g2 g3 hG⟩⟩
        · have c1 : 0 < L := by omega
          have c1' : 0 < m - k - 1 := by omega
          have Z : (m - k - 1 == 0) = false := by rw [hL]; simpa using cz
          clear hL cz
          by_cases b2 : bits .and .i64 g 2 = 0
          · have B2 : (bits .and .i64 g 2 != 0) = false := by rw [b2]; rfl
            have Hb2 := Lib.hid b2
            clear b2
            gi_wp2
            gi_loopw [7] (fun a wq => ∃ (j : Nat), 2 * (j : Int) ≤ L ∧ a = .int .i64 ((j : Int) + 1) ∧ Goes J D (mvs d m k ++ ([] ++ (if bits .and .i64 g 4 = 0 then [] else prs L j))) W wq) (fun a _ => (L + 1 - intOf a).toNat)
            case atStart => exact ⟨0, by omega, rfl, D1, by simp [prs_zero]; exact g1, g2, g3⟩
            case round =>
              obtain ⟨j, hj, rfl, D3, e1, e2, e3⟩ := hrel
              by_cases b4 : bits .and .i64 g 4 = 0
              · have B4 : (bits .and .i64 g 4 != 0) = false := by rw [b4]; rfl
                have Hb4 := Lib.hid b4
                clear b4
                gi_wp2
                go_roundw
                case rel =>
                  refine ⟨k + 1, by omega, by go_num, D3, ?_, e2, e3⟩
                  rw [Hsc.out, mvAt_pos c1, if_pos Hb2.out, if_pos Hb4.out]
                  rw [if_pos Hb4.out] at e1
                  exact e1
                case measure => simp [intOf]; omega
              · have B4 : (bits .and .i64 g 4 != 0) = true := by simpa using b4
                rw [if_neg b4] at e1
                have Hb4 := Lib.hid b4
                clear b4
                by_cases c5 : 2 * ((j : Int) + 1) ≤ L
                · have C5 : 2 * ((j : Int) + 1) ≤ m - k - 1 := by have := HL.out; omega
                  obtain ⟨rest, hrest⟩ := prs_pre L (k := j + 1) (n := (L / 2).toNat) (by omega)
                  have Y := hY D3 _ ((j : Int) + 1, m - k - 1 - ((j : Int) + 1)) wr e1 (by
                    refine Hnx.out _ rest _ ?_
                    rw [mvAt_pos c1, if_pos Hb2.out, if_neg Hb4.out, hrest, prs_succ, HL.out]
                    simp)
                  clear hrest
                  obtain ⟨fn, tmps, assign, body, hy, hR⟩ := Y
                  dsimp only at hy
                  gi_wp2
                  refine hR.mono ?_
                  rintro e W3 (⟨rfl, hG⟩ | ⟨rfl, hG⟩)
                  · obtain ⟨D4, f1, f2, f3⟩ := Goes.trans e2 e3 hG
                    gi_wp2
                    go_roundw
                    case rel =>
                      refine ⟨j + 1, by omega, by go_num, D4, ?_, f2, f3⟩
                      rw [if_neg Hb4.out, prs_succ]
                      rw [HL.out] at f1
                      simpa using f1
                    case measure => simp [intOf]; omega
                  · gi_wp2
                    refine bodyPost_ret (results_none rfl _ _ _) rfl ?_
                    exact ⟨⟨_, rfl⟩, .inr ⟨_, Goes.trans e2 e3 hG⟩⟩
                · have C5 : ¬ 2 * ((j : Int) + 1) ≤ m - k - 1 := by have := HL.out; omega
                  gi_wp2
                  go_roundw
                  case rel =>
                    refine ⟨k + 1, by omega, by go_num, D3, ?_, e2, e3⟩
                    rw [Hsc.out, mvAt_pos c1, if_pos Hb2.out, if_neg Hb4.out]
                    have ej : (L / 2).toNat = j := by omega
                    rw [ej]
                    exact e1
                  case measure => simp [intOf]; omega
          · have B2 : (bits .and .i64 g 2 != 0) = true := by simpa using b2
            have Hb2 := Lib.hid b2
            clear b2
            have Y := hY D1 (mvs d m k) (m - k - 1, 0) wr g1 (by
              have := Hnx.out [] (if bits .and .i64 g 4 = 0 then [] else prs L (L / 2).toNat) (L, 0) (by rw [mvAt_pos c1, if_neg Hb2.out]; rfl)
              rw [HL.out]
              simpa using this)
            obtain ⟨fn, tmps, assign, body, hy, hR⟩ := Y
            dsimp only at hy
            gi_wp2
            refine hR.mono ?_
            rintro e W3 (⟨rfl, hG⟩ | ⟨rfl, hG⟩)
            · obtain ⟨D2, k1, k2, k3⟩ := Goes.trans g2 g3 hG
              rw [HL.out] at k1
              gi_wp2
              gi_loopw [7] (fun a wq => ∃ (j : Nat), 2 * (j : Int) ≤ L ∧ a = .int .i64 ((j : Int) + 1) ∧ Goes J D (mvs d m k ++ ([(L, 0)] ++ (if bits .and .i64 g 4 = 0 then [] else prs L j))) W wq) (fun a _ => (L + 1 - intOf a).toNat)
              case atStart => exact ⟨0, by omega, rfl, D2, by simp [prs_zero]; exact k1, k2, k3⟩
              case round =>
                obtain ⟨j, hj, rfl, D3, e1, e2, e3⟩ := hrel
                by_cases b4 : bits .and .i64 g 4 = 0
                · have B4 : (bits .and .i64 g 4 != 0) = false := by rw [b4]; rfl
                  have Hb4 := Lib.hid b4
                  clear b4
                  gi_wp2
                  go_roundw
                  case rel =>
                    refine ⟨k + 1, by omega, by go_num, D3, ?_, e2, e3⟩
                    rw [Hsc.out, mvAt_pos c1, if_neg Hb2.out, if_pos Hb4.out]
                    rw [if_pos Hb4.out] at e1
                    exact e1
                  case measure => simp [intOf]; omega
                · have B4 : (bits .and .i64 g 4 != 0) = true := by simpa using b4
                  rw [if_neg b4] at e1
                  have Hb4 := Lib.hid b4
                  clear b4
                  by_cases c5 : 2 * ((j : Int) + 1) ≤ L
                  · have C5 : 2 * ((j : Int) + 1) ≤ m - k - 1 := by have := HL.out; omega
                    obtain ⟨rest, hrest⟩ := prs_pre L (k := j + 1) (n := (L / 2).toNat) (by omega)
                    have Y := hY D3 _ ((j : Int) + 1, m - k - 1 - ((j : Int) + 1)) wr e1 (by
                      refine Hnx.out _ rest _ ?_
                      rw [mvAt_pos c1, if_neg Hb2.out, if_neg Hb4.out, hrest, prs_succ, HL.out]
                      simp)
                    clear hrest
                    obtain ⟨fn, tmps, assign, body, hy, hR⟩ := Y
                    dsimp only at hy
                    gi_wp2
                    refine hR.mono ?_
                    rintro e W3 (⟨rfl, hG⟩ | ⟨rfl, hG⟩)
                    · obtain ⟨D4, f1, f2, f3⟩ := Goes.trans e2 e3 hG
                      gi_wp2
                      go_roundw
                      case rel =>
                        refine ⟨j + 1, by omega, by go_num, D4, ?_, f2, f3⟩
                        rw [if_neg Hb4.out, prs_succ]
                        rw [HL.out] at f1
                        simpa using f1
                      case measure => simp [intOf]; omega
                    · gi_wp2
                      refine bodyPost_ret (results_none rfl _ _ _) rfl ?_
                      exact ⟨⟨_, rfl⟩, .inr ⟨_, Goes.trans e2 e3 hG⟩⟩
                  · have C5 : ¬ 2 * ((j : Int) + 1) ≤ m - k - 1 := by have := HL.out; omega
                    gi_wp2
                    go_roundw
                    case rel =>
                      refine ⟨k + 1, by omega, by go_num, D3, ?_, e2, e3⟩
                      rw [Hsc.out, mvAt_pos c1, if_neg Hb2.out, if_neg Hb4.out]
                      have ej : (L / 2).toNat = j := by omega
                      rw [ej]
                      exact e1
                    case measure => simp [intOf]; omega
            · gi_wp2
              refine bodyPost_ret (results_none rfl _ _ _) rfl ?_
              exact ⟨⟨_, rfl⟩, .inr ⟨_, Goes.trans g2 g3 hG⟩⟩
    · obtain rfl : k = d.length := by omega
      gi_wp2
      go_end0
      exact ⟨⟨_, rfl⟩, .inl ⟨_, rfl, D1, g1, g2, g3⟩⟩
end Go.Proofs.YtkfbdhlfajdpgaaGreatDoor.HMoves
