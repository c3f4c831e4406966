/- slices.CompactFunc over rows of one cell: it keeps what differs from its forerunner. -/
import Derived.Test.YtkfbdhlfajdpgaaGreatDoorHDrawn
import Derived.Test.YtkfbdhlfajdpgaaGreatDoorProg
import Derived.Shelf.RegionOpenPlain
import Derived.WalkKit
import Derived.Deep.LoopGhost
import Derived.Deep.Draws
import Derived.Lib.Walk
import Derived.Lib.Hide
import Derived.Sort.WalkA
import Derived.Sort.WalkB12
import Derived.Lib.SliceRun
import Derived.Lib.SlKept
import Derived.Shelf.SlicesE.Kit
import Derived.StillTailTactics
namespace Go.Proofs.YtkfbdhlfajdpgaaGreatDoor.HCompact
set_option linter.unusedVariables false
set_option linter.unusedSimpArgs false
open Go Go.RowKit Go.Shelf Go.Lib Go.Sort Go.Proofs
variable {α : Type} [Inhabited α]

/-- Place j is kept: it is the first, or not alike the one ahead of it. -/
def keepsBy (eqv : α → α → Bool) (d : Array α) (j : Nat) : Bool := decide (j = 0) || !eqv d[j]! d[j - 1]!
theorem keepsBy_one (eqv : α → α → Bool) (d : Array α) : ∀ j, j < 1 → keepsBy eqv d j = true := by
  intro j hj
  obtain rfl : j = 0 := by omega
  simp [keepsBy]
theorem keepsBy_pos {eqv : α → α → Bool} {d : Array α} {m : Nat} (h : eqv d[m]! d[m - 1]! = false) : keepsBy eqv d m = true := by simp [keepsBy, h]
theorem keepsBy_neg {eqv : α → α → Bool} {d : Array α} {m : Nat} (hm : 0 < m) (h : eqv d[m]! d[m - 1]! = true) : keepsBy eqv d m = false := by
  have : m ≠ 0 := by omega
  simp [keepsBy, h, this]

theorem store_world (enc : α → Value) {w wr : World} {n blk off : Nat} {dk : Array α} {i : Nat} (hi : i < dk.size) (hwr : wr = putRow enc (Sort.ahead w n) blk off dk) (x : α) :
    wr.setCell ⟨blk, off + i, none⟩ (enc x) = putRow enc (Sort.ahead w n) blk off (dk.setIfInBounds i x) := by
  subst hwr
  exact putRow_set enc _ blk off dk i x hi

set_option maxHeartbeats 4000000 in
set_option maxRecDepth 1000000 in
theorem compactFunc (enc : α → Value) (hO : OneCell enc) (eqv : α → α → Bool) (g : Nat) (cb : Array Value) (eg : ∀ args w, (callFunc g args).run Tryz.prog w = .ok (.enter g args) w)
    (blk off cap : Nat) (d : Array α) (w : World)
    (hcall : ∀ (dk : Array α) (x y : α) (q : Nat), dk.size = d.size → Calls Tryz.prog g (#[enc x, enc y] ++ cb) (putRow enc (Sort.ahead w q) blk off dk) fun e w' => e = .returned (.bool (eqv x y)) ∧ ∃ qq, w' = (putRow enc (Sort.ahead w q) blk off dk).drewN qq)
    (zr : α) (hz : enc zr = .slice none 0 0) (hH : Holds enc w blk off d) (hsz : d.size ≤ 9223372036854775807) (hcap : d.size ≤ cap) :
    Calls Tryz.prog 23 #[.slice (some ⟨blk, off, none⟩) d.size cap, .func (.func g) #[] cb] w fun e w' =>
      e = .returned (.slice (some ⟨blk, off, none⟩) (keptUpTo (keepsBy eqv d) d d.size).length cap) ∧ ∃ q, w' = putRow enc (Sort.ahead w q) blk off (keptUpTo (keepsBy eqv d) d d.size ++ List.replicate (d.size - (keptUpTo (keepsBy eqv d) d d.size).length) zr).toArray := by
  have hcl0 := hO.cells
  simp only [Value.cells] at hcl0
  have hst := hO.store Tryz.prog
  obtain ⟨kp, HK⟩ : ∃ kp : Nat → Bool, Hid (kp = keepsBy eqv d) := ⟨_, rfl⟩
  rw [← HK.out]
  have same : ∀ q, (∀ j, j < d.size → kp j = true) → (keptUpTo kp d d.size).length = d.size ∧ w.drewN q = putRow enc (Sort.ahead w q) blk off (keptUpTo kp d d.size ++ List.replicate (d.size - (keptUpTo kp d d.size).length) zr).toArray := by
    intro q hall
    have e : keptUpTo kp d d.size = d.toList := by rw [keptUpTo_all kp d _ hall, range_map_get]
    rw [e]
    refine ⟨by simp, ?_⟩
    simp only [Array.length_toList, Nat.sub_self, List.replicate_zero, List.append_nil, Array.toArray_toList]
    exact (putRow_self enc (Sort.ahead w q) blk off d (holds_ahead enc w q blk off d hH)).symm
  have HS := Lib.hid same
  have HC := Lib.hid hcall
  clear same hcall
  have hmix : (Tryz.prog).follows .mixedOrders = true := by kernel_rfl
  by_cases h2 : d.size < 2
  · have HH := Lib.hid hH
    clear hH
    go_enter Tryz.func23, Tryz.ntmps23
    go_wp2
    go_ret
    obtain ⟨e1, e2⟩ := HS.out 0 (fun j hj => by rw [HK.out]; exact keepsBy_one eqv d j (by omega))
    exact ⟨by rw [e1]; rfl, 0, e2⟩
  · go_enter Tryz.func23, Tryz.ntmps23
    go_wp2
    go_loopg [5] d.size (fun gg s3 wr => ∃ k q : Nat, 1 ≤ k ∧ k ≤ d.size ∧ d.size - k ≤ gg ∧ s3 = .int .i64 k ∧ wr = w.drewN q ∧ ∀ j, j < k → kp j = true)
    case atStart => exact ⟨1, 0, Nat.le_refl _, by omega, by omega, rfl, rfl, by rw [HK.out]; exact keepsBy_one eqv d⟩
    case round =>
      obtain ⟨k, q, hk1, hk, hg, rfl, rfl, hall⟩ := hrel
      by_cases hlt : k < d.size
      · obtain ⟨c1, f1⟩ := hH k hlt
        obtain ⟨c0, f0⟩ := hH (k - 1) (by omega)
        have A := Lib.hid hall
        have HH := Lib.hid hH
        have hc := HC.out d d[k]! d[k - 1]! (q + 1) rfl
        rw [show putRow enc (Sort.ahead w (q + 1)) blk off d = (w.drewN q).drew from putRow_self enc (Sort.ahead w (q + 1)) blk off d (holds_ahead enc w (q + 1) blk off d hH)] at hc
        clear hall hH
        generalize hx : d[k]! = x at c1 hc
        generalize hy : d[k - 1]! = y at c0 hc
        have B := Lib.hid (show d[k]! = x ∧ d[k - 1]! = y from ⟨hx, hy⟩)
        clear hx hy
        obtain ⟨kp', hkp⟩ : ∃ kp', k - 1 = kp' := ⟨_, rfl⟩
        rw [hkp] at c0 f0
        have hkl : kp' < d.size := by omega
        have ew : IntKind.i64.wrap ((k : Int) - 1) = (kp' : Int) := by rw [IntKind.wrap_i64]; omega
        clear hkp
        cases hdup : eqv x y with
        | true =>
          rw [hdup] at hc
          go_wp2
          refine wp_region_still_tail 10 hmix (by kernel_rfl) ?_
          simp only [List.take_succ_cons, List.take_zero, List.drop_succ_cons, List.drop_zero]
          change wpStill _ _ (World.drew (w.drewN q)) _ _ _
          repeat still_step
          refine wpStill_nil ?_
          change wpList _ _ _ _ _ (World.drew (w.drewN q))
          go_wp2_with (go_at_fn g; refine hc.mono ?_; rintro e w' ⟨rfl, qq, rfl⟩)
          clear c0 c1 f0 f1 hc
          go_loopg [5, 7] d.size (fun gg s3 s5 wr => ∃ (kk k2 q2 : Nat) (dk : Array α), s3 = .int .i64 kk ∧ s5 = .int .i64 k2 ∧ 1 ≤ k2 ∧ k + k2 ≤ d.size ∧ d.size - (k + k2) ≤ gg ∧ wr = putRow enc (Sort.ahead w q2) blk off dk ∧ Hid (KeptInv kp d (k + k2) kk dk))
          case atStart => exact ⟨k, 1, q + 1 + qq, d, rfl, rfl, Nat.le_refl _, by omega, by omega, (putRow_self enc (Sort.ahead w (q + 1 + qq)) blk off d (holds_ahead enc w (q + 1 + qq) blk off d HH.out)).symm, KeptInv.start A.out (by rw [HK.out]; exact keepsBy_neg (by omega) (by rw [B.out.1, B.out.2]; exact hdup))⟩
          case round =>
            obtain ⟨kk, k2, q2, dk, rfl, rfl, h1, hle, hg2, hwr, I2⟩ := hrel
            have hI := I2.out
            have hkk := hI.lt
            have hds := hI.size
            have hHk : Holds enc wr blk off dk := by rw [hwr]; exact holds_putRow enc _ blk off d dk (holds_ahead enc w q2 blk off d HH.out) hds
            have W2 := Lib.hid hwr
            by_cases hlt2 : k + k2 < d.size
            · obtain ⟨cm, _⟩ := hHk (k + k2) (by omega)
              obtain ⟨cp, _⟩ := hHk (k + k2 - 1) (by omega)
              obtain ⟨ck, fk⟩ := hHk kk (by omega)
              rw [hI.high (k + k2) (by omega), show off + (k + k2) = off + k + k2 by omega] at cm
              rw [hI.high (k + k2 - 1) (by omega), show off + (k + k2 - 1) = off + k + (k2 - 1) by omega] at cp
              have hc := HC.out dk d[k + k2]! d[k + k2 - 1]! (q2 + 1) hds
              rw [show putRow enc (Sort.ahead w (q2 + 1)) blk off dk = wr.drew from by rw [hwr]; rfl] at hc
              clear hHk hI hwr
              generalize hu : d[k + k2]! = u at cm hc
              generalize hv : d[k + k2 - 1]! = v at cp hc
              generalize dk[kk]! = old at ck
              have C := Lib.hid (show d[k + k2]! = u ∧ d[k + k2 - 1]! = v from ⟨hu, hv⟩)
              clear hu hv
              obtain ⟨kp2, hkp2⟩ : ∃ kp2, k2 - 1 = kp2 := ⟨_, rfl⟩
              rw [hkp2] at cp
              have hkl2 : kp2 < d.size - k := by omega
              have hkl3 : k2 < d.size - k := by omega
              have ew2 : IntKind.i64.wrap ((k2 : Int) - 1) = (kp2 : Int) := by rw [IntKind.wrap_i64]; omega
              clear hkp2
              cases huv : eqv u v with
              | true =>
                rw [huv] at hc
                go_wp2
                refine wp_region_still_tail 10 hmix (by kernel_rfl) ?_
                simp only [List.take_succ_cons, List.take_zero, List.drop_succ_cons, List.drop_zero]
                change wpStill _ _ (World.drew wr) _ _ _
                repeat still_step
                refine wpStill_nil ?_
                change wpList _ _ _ _ _ (World.drew wr)
                go_wp2_with (go_at_fn g; refine hc.mono ?_; rintro e w' ⟨rfl, qq2, rfl⟩)
                go_roundg (d.size - (k + (k2 + 1)))
                case measure => omega
                case rel => exact ⟨kk, k2 + 1, q2 + (1 + qq2), dk, rfl, by go_num, by omega, by omega, Nat.le_refl _, by rw [W2.out]; exact putRow_drewN _ _ _ _ _ _ _, I2.out.skip (by rw [HK.out]; exact keepsBy_neg (by omega) (by rw [C.out.1, C.out.2]; exact huv))⟩
              | false =>
                rw [huv] at hc
                go_wp2
                refine wp_region_still_tail 10 hmix (by kernel_rfl) ?_
                simp only [List.take_succ_cons, List.take_zero, List.drop_succ_cons, List.drop_zero]
                change wpStill _ _ (World.drew wr) _ _ _
                repeat still_step
                refine wpStill_nil ?_
                change wpList _ _ _ _ _ (World.drew wr)
                go_wp2_with (go_at_fn g; refine hc.mono ?_; rintro e w' ⟨rfl, qq2, rfl⟩)
                go_roundg (d.size - (k + (k2 + 1)))
                case measure => omega
                case rel => exact ⟨kk + 1, k2 + 1, q2 + (1 + qq2), dk.setIfInBounds kk u, by go_num, by go_num, by omega, by omega, Nat.le_refl _, store_world enc (w := w) (n := q2 + (1 + qq2)) (by omega) (by rw [W2.out]; exact putRow_drewN _ _ _ _ _ _ _) u, by have := I2.out.keep hlt2 (by rw [HK.out]; exact keepsBy_pos (by rw [C.out.1, C.out.2]; exact huv)); rwa [C.out.1] at this⟩
            · have hend : k + k2 = d.size := by omega
              have hcl : ∀ ty, (Builtin.clear_ #[24] ty #[.slice (some ⟨blk, off + kk, none⟩) (d.size - kk) (cap - kk)]).run Tryz.prog wr = .ok (.tuple #[]) (wr.setCells blk (off + kk) (List.replicate (d.size - kk) (enc zr))) :=
                fun ty => Lib.run_clear_slice wr _ _ ty _ Tryz.underlying24 (fun w => by rw [hz]; exact Tryz.zeroValue22 w) (hO.cells zr) (hO zr) blk (off + kk) _ _ (by omega) (fun j hj => by rw [show off + kk + j = off + (kk + j) by omega, (hHk (kk + j) (by omega)).1]; rfl) (fun j hj => by rw [show off + kk + j = off + (kk + j) by omega]; exact (hHk (kk + j) (by omega)).2)
              clear hHk hI hwr
              go_wp2
              go_ret
              have hI := I2.out
              rw [hend] at hI
              refine ⟨by rw [hI.len]; rfl, q2, ?_⟩
              rw [hI.len, ← hI.done zr, ← putRow_setCells enc _ blk off _ dk kk (by simp; omega), ← W2.out, List.map_replicate, hz]
        | false =>
          rw [hdup] at hc
          go_wp2
          refine wp_region_still_tail 10 hmix (by kernel_rfl) ?_
          simp only [List.take_succ_cons, List.take_zero, List.drop_succ_cons, List.drop_zero]
          change wpStill _ _ (World.drew (w.drewN q)) _ _ _
          repeat still_step
          refine wpStill_nil ?_
          change wpList _ _ _ _ _ (World.drew (w.drewN q))
          go_wp2_with (go_at_fn g; refine hc.mono ?_; rintro e w' ⟨rfl, qq, rfl⟩)
          go_roundg (d.size - (k + 1))
          case measure => omega
          case rel =>
            refine ⟨k + 1, q + 1 + qq, by omega, by omega, Nat.le_refl _, by go_num, rfl, fun j hj => ?_⟩
            by_cases e : j = k
            · subst e
              rw [HK.out]
              exact keepsBy_pos (by rw [B.out.1, B.out.2]; exact hdup)
            · exact A.out j (by omega)
      · have : k = d.size := by omega
        subst this
        have HH := Lib.hid hH
        clear hH
        go_wp2
        go_ret
        obtain ⟨e1, e2⟩ := HS.out q hall
        exact ⟨by rw [e1]; rfl, q, e2⟩
end Go.Proofs.YtkfbdhlfajdpgaaGreatDoor.HCompact
