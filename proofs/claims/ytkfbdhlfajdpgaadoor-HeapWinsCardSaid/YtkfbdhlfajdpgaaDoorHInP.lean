/- Rows of numbers at the head of a block of the call's own, as the library's functions leave them. Over any program. slices.CompactFunc over rows of one cell: it keeps what differs from its forerunner. slices.Compare of two rows of numbers. What heap.Moves' library calls do to rows of the call's own. slices.CompactFunc over the rows that are put out. heap.without: the nim sum of heaps. A region that draws its order, by an invariant over the set of operations that are done. Over any program. What heap.Moves holds while it goes: its boxes, and the rows that it puts out. -/
import Derived.Test.YtkfbdhlfajdpgaaDoorHIter
import Derived.Sort.Row
import Derived.Sort.Grow
import Derived.Shelf.GgSortFunc.SW
import Derived.Laws.AppendOwn
import Derived.Test.YtkfbdhlfajdpgaaDoorHDrawn
import Derived.Test.YtkfbdhlfajdpgaaDoorProg
import Derived.Shelf.RegionOpenPlain
import Derived.WalkKit
import Derived.Deep.LoopGhost
import Derived.Deep.Draws
import Derived.Lib.Walk
import Derived.Lib.Hide
import Derived.Sort.WalkA
import Derived.Sort.WalkB12
import Derived.Lib.SliceRun
import Derived.Lib.SlKept
import Derived.Shelf.SlicesE.Kit
import Derived.StillTailTactics
import Derived.Test.YtkfbdhlfajdpgaaDoorHNim
import Derived.Test.YtkfbdhlfajdpgaaDoorHMoves
import Derived.Test.YtkfbdhlfajdpgaaDoorShelf
import Derived.Test.YtkfbdhlfajdpgaaDoorHDigits
import Derived.Test.YtkfbdhlfajdpgaaDoorHList
import Derived.Test.YtkfbdhlfajdpgaaDoorHCode
namespace Go.Proofs.YtkfbdhlfajdpgaaDoor.HRowOps
set_option linter.unusedVariables false
set_option linter.unusedSimpArgs false
open Go Go.RowKit Go.Sort Go.Proofs.YtkfbdhlfajdpgaaDoor.HIter

/-- Block g: cap cells of type e, of which the first are cs. -/
def Row (W : World) (e : TypeId) (g cap : Nat) (cs : List Value) : Prop :=
  ∃ cur, W.heap[g]? = some (.cells cur e (0, 0)) ∧ cur.size = cap ∧ cap ≤ maxLen ∧ cs.length ≤ cap ∧ cur.toList.take cs.length = cs
variable {α : Type} [Inhabited α] {enc : α → Value} {W : World} {e : TypeId} {g cap : Nat} {cs cs' r : List Value}

theorem Row.lt (h : Row W e g cap cs) : g < W.heap.size := by
  obtain ⟨cur, h1, _⟩ := h
  exact (Array.getElem?_eq_some_iff.1 h1).1
theorem Row.le (h : Row W e g cap cs) : cs.length ≤ cap := by obtain ⟨_, _, _, _, h, _⟩ := h; exact h
theorem Row.max (h : Row W e g cap cs) : cap ≤ maxLen := by obtain ⟨_, _, _, h, _⟩ := h; exact h
theorem Row.of_block {W' : World} (h : Row W e g cap cs) (hb : W'.heap[g]? = W.heap[g]?) : Row W' e g cap cs := by
  obtain ⟨cur, h1, h2⟩ := h
  exact ⟨cur, hb.trans h1, h2⟩
theorem Row.fr {W' : World} {D : Nat → Prop} (h : Row W e g cap cs) (hf : Fr D W W') (hn : ¬ D g) : Row W' e g cap cs := h.of_block (hf.block g h.lt hn)
theorem Row.cut (h : Row W e g cap (cs ++ r)) : Row W e g cap cs := by
  obtain ⟨cur, h1, h2, h3, h4, h5⟩ := h
  rw [List.length_append] at h4 h5
  refine ⟨cur, h1, h2, h3, by omega, ?_⟩
  have := congrArg (List.take cs.length) h5
  rw [List.take_take, Nat.min_eq_left (by omega)] at this
  simpa using this
theorem Row.cellAt (h : Row W e g cap cs) (j : Nat) {v : Value} (hj : cs[j]? = some v) : W.cell? ⟨g, j, none⟩ = some v := by
  obtain ⟨cur, h1, h2, h3, h4, h5⟩ := h
  have hl := (List.getElem?_eq_some_iff.1 hj).1
  have h6 : cur.toList[j]? = some v := by rw [← h5, List.getElem?_take, if_pos hl] at hj; exact hj
  simp [World.cell?, h1]
  simpa using h6
theorem Row.free (h : Row W e g cap cs) (j : Nat) : W.frozen? ⟨g, j, none⟩ = false := by
  obtain ⟨cur, h1, _⟩ := h
  simp [World.frozen?, h1]
theorem Row.holds {l : List α} (h : Row W e g cap (l.map enc)) : Holds enc W g 0 l.toArray := by
  intro j hj
  have hj' : j < l.length := by simpa using hj
  refine ⟨?_, h.free _⟩
  rw [Nat.zero_add]
  refine h.cellAt j ?_
  rw [List.getElem?_map, List.getElem?_eq_getElem hj', getElem!_pos l.toArray j hj]
  rfl
theorem Row.put {l l' : List α} (h : Row W e g cap (l.map enc)) (hl : l'.length = l.length) : Row (Go.Sort.putRow enc W g 0 l'.toArray) e g cap (l'.map enc) := by
  obtain ⟨cur, h1, h2, h3, h4, h5⟩ := h
  rw [List.length_map] at h4 h5
  refine ⟨putCells enc 0 l'.toArray cur, ?_, ?_, h3, by rw [List.length_map]; omega, ?_⟩
  · simp only [putRow, mapBlock, Array.getElem?_modify, if_pos, h1, Option.map_some, onCells]
  · simp [putCells, h2]
  · rw [List.length_map]
    apply List.ext_getElem?
    intro j
    rw [List.getElem?_take]
    split
    · rename_i hj
      have hjc : j < cur.size := by omega
      rw [Array.getElem?_toList, putCells, Array.getElem?_mapIdx, Array.getElem?_eq_getElem hjc, Option.map_some, if_pos ⟨by omega, by simp; omega⟩, List.getElem?_map, List.getElem?_eq_getElem hj, Nat.sub_zero, getElem!_pos l'.toArray j (by simpa using hj)]
      rfl
    · rename_i hj
      rw [List.getElem?_eq_none (by rw [List.length_map]; omega)]
theorem Row.ahead (h : Row W e g cap cs) (q : Nat) : Row (Go.Sort.ahead W q) e g cap cs := h
theorem Row.grow (h : Row W e g cap cs) (os : Array Obj) : Row (Go.Sort.grow W os) e g cap cs := h.of_block (heap_grow_old W os h.lt)
theorem Row.owns {base : Nat} (h : Row W e g cap cs) (hb : base ≤ g) : W.ownsRow base e 1 (.slice (some ⟨g, 0, none⟩) cs.length cap) cs.length cs := by
  obtain ⟨cur, h1, h2, h3, h4, h5⟩ := h
  exact ⟨by omega, .inr ⟨g, cap, cur, rfl, hb, h1, h4, h3, by omega, by rw [Nat.mul_one]; exact h5⟩⟩
theorem Row.of_owns {base n : Nat} {v : Value} (h : W.ownsRow base e 1 v n cs) (hv : v ≠ .slice none 0 0) : ∃ g cap, v = .slice (some ⟨g, 0, none⟩) cs.length cap ∧ base ≤ g ∧ Row W e g cap cs ∧ cs.length = n := by
  obtain ⟨h1, h2⟩ := h
  rcases h2 with ⟨h2, _⟩ | ⟨g, cap, cur, rfl, hb, hh, h3, h4, h5, h6⟩
  · exact absurd h2 hv
  · rw [Nat.mul_one] at h1 h5 h6
    subst h1
    exact ⟨g, cap, rfl, hb, ⟨cur, hh, h5, h4, h3, h6⟩, rfl⟩

theorem Fr.ahead (D : Nat → Prop) (W : World) (q : Nat) : Fr D W (Go.Sort.ahead W q) := ⟨rfl, rfl, rfl, Nat.le_refl _, fun _ _ _ => rfl⟩
theorem Fr.grow (D : Nat → Prop) (W : World) (os : Array Obj) : Fr D W (Go.Sort.grow W os) := ⟨rfl, rfl, rfl, by simp, fun k hk _ => heap_grow_old W os hk⟩
theorem Fr.putRow {D : Nat → Prop} (W : World) (blk off : Nat) (d : Array α) (hD : D blk) : Fr D W (Go.Sort.putRow enc W blk off d) :=
  ⟨rfl, rfl, rfl, by simp, fun k hk hn => by
    have : blk ≠ k := fun h => hn (h ▸ hD)
    simp only [Go.Sort.putRow, mapBlock, Array.getElem?_modify, if_neg this]⟩
theorem Fr.put (W : World) (g off q : Nat) (d : Array α) : Fr (fun k => k = g) W (Go.Sort.putRow enc (Go.Sort.ahead W q) g off d) :=
  Fr.trans (Fr.ahead (fun k => k = g) W q) (Fr.putRow (D := fun k => k = g) _ _ _ _ rfl) (fun k h => .inl h)
theorem Fr.puts (W : World) (g off q : Nat) (d : Array α) (os : Array Obj) : Fr (fun k => k = g) W (Go.Sort.grow (Go.Sort.putRow enc (Go.Sort.ahead W q) g off d) os) :=
  Fr.trans (Fr.put W g off q d) (Fr.grow (fun k => k = g) _ os) (fun k h => .inl h)
end Go.Proofs.YtkfbdhlfajdpgaaDoor.HRowOps
namespace Go.Proofs.YtkfbdhlfajdpgaaDoor.HCompact
set_option linter.unusedVariables false
set_option linter.unusedSimpArgs false
open Go Go.RowKit Go.Shelf Go.Lib Go.Sort Go.Proofs
variable {α : Type} [Inhabited α]

/-- Place j is kept: it is the first, or not alike the one ahead of it. -/
def keepsBy (eqv : α → α → Bool) (d : Array α) (j : Nat) : Bool := decide (j = 0) || !eqv d[j]! d[j - 1]!
theorem keepsBy_one (eqv : α → α → Bool) (d : Array α) : ∀ j, j < 1 → keepsBy eqv d j = true := by
  intro j hj
  obtain rfl : j = 0 := by omega
  simp [keepsBy]
theorem keepsBy_pos {eqv : α → α → Bool} {d : Array α} {m : Nat} (h : eqv d[m]! d[m - 1]! = false) : keepsBy eqv d m = true := by simp [keepsBy, h]
theorem keepsBy_neg {eqv : α → α → Bool} {d : Array α} {m : Nat} (hm : 0 < m) (h : eqv d[m]! d[m - 1]! = true) : keepsBy eqv d m = false := by
  have : m ≠ 0 := by omega
  simp [keepsBy, h, this]

theorem store_world (enc : α → Value) {w wr : World} {n blk off : Nat} {dk : Array α} {i : Nat} (hi : i < dk.size) (hwr : wr = putRow enc (Sort.ahead w n) blk off dk) (x : α) :
    wr.setCell ⟨blk, off + i, none⟩ (enc x) = putRow enc (Sort.ahead w n) blk off (dk.setIfInBounds i x) := by
  subst hwr
  exact putRow_set enc _ blk off dk i x hi

set_option maxHeartbeats 4000000 in
set_option maxRecDepth 1000000 in
theorem compactFunc (enc : α → Value) (hO : OneCell enc) (eqv : α → α → Bool) (g : Nat) (cb : Array Value) (eg : ∀ args w, (callFunc g args).run Tryd.prog w = .ok (.enter g args) w)
    (blk off cap : Nat) (d : Array α) (w : World)
    (hcall : ∀ (dk : Array α) (x y : α) (q : Nat), dk.size = d.size → Calls Tryd.prog g (#[enc x, enc y] ++ cb) (putRow enc (Sort.ahead w q) blk off dk) fun e w' => e = .returned (.bool (eqv x y)) ∧ ∃ qq, w' = (putRow enc (Sort.ahead w q) blk off dk).drewN qq)
    (zr : α) (hz : enc zr = .slice none 0 0) (hH : Holds enc w blk off d) (hsz : d.size ≤ 9223372036854775807) (hcap : d.size ≤ cap) :
    Calls Tryd.prog 22 #[.slice (some ⟨blk, off, none⟩) d.size cap, .func (.func g) #[] cb] w fun e w' =>
      e = .returned (.slice (some ⟨blk, off, none⟩) (keptUpTo (keepsBy eqv d) d d.size).length cap) ∧ ∃ q, w' = putRow enc (Sort.ahead w q) blk off (keptUpTo (keepsBy eqv d) d d.size ++ List.replicate (d.size - (keptUpTo (keepsBy eqv d) d d.size).length) zr).toArray := by
  have hcl0 := hO.cells
  simp only [Value.cells] at hcl0
  have hst := hO.store Tryd.prog
  obtain ⟨kp, HK⟩ : ∃ kp : Nat → Bool, Hid (kp = keepsBy eqv d) := ⟨_, rfl⟩
  rw [← HK.out]
  have same : ∀ q, (∀ j, j < d.size → kp j = true) → (keptUpTo kp d d.size).length = d.size ∧ w.drewN q = putRow enc (Sort.ahead w q) blk off (keptUpTo kp d d.size ++ List.replicate (d.size - (keptUpTo kp d d.size).length) zr).toArray := by
    intro q hall
    have e : keptUpTo kp d d.size = d.toList := by rw [keptUpTo_all kp d _ hall, range_map_get]
    rw [e]
    refine ⟨by simp, ?_⟩
    simp only [Array.length_toList, Nat.sub_self, List.replicate_zero, List.append_nil, Array.toArray_toList]
    exact (putRow_self enc (Sort.ahead w q) blk off d (holds_ahead enc w q blk off d hH)).symm
  have HS := Lib.hid same
  have HC := Lib.hid hcall
  clear same hcall
  have hmix : (Tryd.prog).follows .mixedOrders = true := by kernel_rfl
  by_cases h2 : d.size < 2
  · have HH := Lib.hid hH
    clear hH
    go_enter Tryd.func22, Tryd.ntmps22
    go_wp2
    go_ret
    obtain ⟨e1, e2⟩ := HS.out 0 (fun j hj => by rw [HK.out]; exact keepsBy_one eqv d j (by omega))
    exact ⟨by rw [e1]; rfl, 0, e2⟩
  · go_enter Tryd.func22, Tryd.ntmps22
    go_wp2
    go_loopg [5] d.size (fun gg s3 wr => ∃ k q : Nat, 1 ≤ k ∧ k ≤ d.size ∧ d.size - k ≤ gg ∧ s3 = .int .i64 k ∧ wr = w.drewN q ∧ ∀ j, j < k → kp j = true)
    case atStart => exact ⟨1, 0, Nat.le_refl _, by omega, by omega, rfl, rfl, by rw [HK.out]; exact keepsBy_one eqv d⟩
    case round =>
      obtain ⟨k, q, hk1, hk, hg, rfl, rfl, hall⟩ := hrel
      by_cases hlt : k < d.size
      · obtain ⟨c1, f1⟩ := hH k hlt
        obtain ⟨c0, f0⟩ := hH (k - 1) (by omega)
        have A := Lib.hid hall
        have HH := Lib.hid hH
        have hc := HC.out d d[k]! d[k - 1]! (q + 1) rfl
        rw [show putRow enc (Sort.ahead w (q + 1)) blk off d = (w.drewN q).drew from putRow_self enc (Sort.ahead w (q + 1)) blk off d (holds_ahead enc w (q + 1) blk off d hH)] at hc
        clear hall hH
        generalize hx : d[k]! = x at c1 hc
        generalize hy : d[k - 1]! = y at c0 hc
        have B := Lib.hid (show d[k]! = x ∧ d[k - 1]! = y from ⟨hx, hy⟩)
        clear hx hy
        obtain ⟨kp', hkp⟩ : ∃ kp', k - 1 = kp' := ⟨_, rfl⟩
        rw [hkp] at c0 f0
        have hkl : kp' < d.size := by omega
        have ew : IntKind.i64.wrap ((k : Int) - 1) = (kp' : Int) := by rw [IntKind.wrap_i64]; omega
        clear hkp
        cases hdup : eqv x y with
        | true =>
          rw [hdup] at hc
          go_wp2
          refine wp_region_still_tail 10 hmix (by kernel_rfl) ?_
          simp only [List.take_succ_cons, List.take_zero, List.drop_succ_cons, List.drop_zero]
          change wpStill _ _ (World.drew (w.drewN q)) _ _ _
          repeat still_step
          refine wpStill_nil ?_
          change wpList _ _ _ _ _ (World.drew (w.drewN q))
          go_wp2_with (go_at_fn g; refine hc.mono ?_; rintro e w' ⟨rfl, qq, rfl⟩)
          clear c0 c1 f0 f1 hc
          go_loopg [5, 7] d.size (fun gg s3 s5 wr => ∃ (kk k2 q2 : Nat) (dk : Array α), s3 = .int .i64 kk ∧ s5 = .int .i64 k2 ∧ 1 ≤ k2 ∧ k + k2 ≤ d.size ∧ d.size - (k + k2) ≤ gg ∧ wr = putRow enc (Sort.ahead w q2) blk off dk ∧ Hid (KeptInv kp d (k + k2) kk dk))
          case atStart => exact ⟨k, 1, q + 1 + qq, d, rfl, rfl, Nat.le_refl _, by omega, by omega, (putRow_self enc (Sort.ahead w (q + 1 + qq)) blk off d (holds_ahead enc w (q + 1 + qq) blk off d HH.out)).symm, KeptInv.start A.out (by rw [HK.out]; exact keepsBy_neg (by omega) (by rw [B.out.1, B.out.2]; exact hdup))⟩
          case round =>
            obtain ⟨kk, k2, q2, dk, rfl, rfl, h1, hle, hg2, hwr, I2⟩ := hrel
            have hI := I2.out
            have hkk := hI.lt
            have hds := hI.size
            have hHk : Holds enc wr blk off dk := by rw [hwr]; exact holds_putRow enc _ blk off d dk (holds_ahead enc w q2 blk off d HH.out) hds
            have W2 := Lib.hid hwr
            by_cases hlt2 : k + k2 < d.size
            · obtain ⟨cm, _⟩ := hHk (k + k2) (by omega)
              obtain ⟨cp, _⟩ := hHk (k + k2 - 1) (by omega)
              obtain ⟨ck, fk⟩ := hHk kk (by omega)
              rw [hI.high (k + k2) (by omega), show off + (k + k2) = off + k + k2 by omega] at cm
              rw [hI.high (k + k2 - 1) (by omega), show off + (k + k2 - 1) = off + k + (k2 - 1) by omega] at cp
              have hc := HC.out dk d[k + k2]! d[k + k2 - 1]! (q2 + 1) hds
              rw [show putRow enc (Sort.ahead w (q2 + 1)) blk off dk = wr.drew from by rw [hwr]; rfl] at hc
              clear hHk hI hwr
              generalize hu : d[k + k2]! = u at cm hc
              generalize hv : d[k + k2 - 1]! = v at cp hc
              generalize dk[kk]! = old at ck
              have C := Lib.hid (show d[k + k2]! = u ∧ d[k + k2 - 1]! = v from ⟨hu, hv⟩)
              clear hu hv
              obtain ⟨kp2, hkp2⟩ : ∃ kp2, k2 - 1 = kp2 := ⟨_, rfl⟩
              rw [hkp2] at cp
              have hkl2 : kp2 < d.size - k := by omega
              have hkl3 : k2 < d.size - k := by omega
              have ew2 : IntKind.i64.wrap ((k2 : Int) - 1) = (kp2 : Int) := by rw [IntKind.wrap_i64]; omega
              clear hkp2
              cases huv : eqv u v with
              | true =>
                rw [huv] at hc
                go_wp2
                refine wp_region_still_tail 10 hmix (by kernel_rfl) ?_
                simp only [List.take_succ_cons, List.take_zero, List.drop_succ_cons, List.drop_zero]
                change wpStill _ _ (World.drew wr) _ _ _
                repeat still_step
                refine wpStill_nil ?_
                change wpList _ _ _ _ _ (World.drew wr)
                go_wp2_with (go_at_fn g; refine hc.mono ?_; rintro e w' ⟨rfl, qq2, rfl⟩)
                go_roundg (d.size - (k + (k2 + 1)))
                case measure => omega
                case rel => exact ⟨kk, k2 + 1, q2 + (1 + qq2), dk, rfl, by go_num, by omega, by omega, Nat.le_refl _, by rw [W2.out]; exact putRow_drewN _ _ _ _ _ _ _, I2.out.skip (by rw [HK.out]; exact keepsBy_neg (by omega) (by rw [C.out.1, C.out.2]; exact huv))⟩
              | false =>
                rw [huv] at hc
                go_wp2
                refine wp_region_still_tail 10 hmix (by kernel_rfl) ?_
                simp only [List.take_succ_cons, List.take_zero, List.drop_succ_cons, List.drop_zero]
                change wpStill _ _ (World.drew wr) _ _ _
                repeat still_step
                refine wpStill_nil ?_
                change wpList _ _ _ _ _ (World.drew wr)
                go_wp2_with (go_at_fn g; refine hc.mono ?_; rintro e w' ⟨rfl, qq2, rfl⟩)
                go_roundg (d.size - (k + (k2 + 1)))
                case measure => omega
                case rel => exact ⟨kk + 1, k2 + 1, q2 + (1 + qq2), dk.setIfInBounds kk u, by go_num, by go_num, by omega, by omega, Nat.le_refl _, store_world enc (w := w) (n := q2 + (1 + qq2)) (by omega) (by rw [W2.out]; exact putRow_drewN _ _ _ _ _ _ _) u, by have := I2.out.keep hlt2 (by rw [HK.out]; exact keepsBy_pos (by rw [C.out.1, C.out.2]; exact huv)); rwa [C.out.1] at this⟩
            · have hend : k + k2 = d.size := by omega
              have hcl : ∀ ty, (Builtin.clear_ #[28] ty #[.slice (some ⟨blk, off + kk, none⟩) (d.size - kk) (cap - kk)]).run Tryd.prog wr = .ok (.tuple #[]) (wr.setCells blk (off + kk) (List.replicate (d.size - kk) (enc zr))) :=
                fun ty => Lib.run_clear_slice wr _ _ ty _ Tryd.underlying28 (fun w => by rw [hz]; exact Tryd.zeroValue22 w) (hO.cells zr) (hO zr) blk (off + kk) _ _ (by omega) (fun j hj => by rw [show off + kk + j = off + (kk + j) by omega, (hHk (kk + j) (by omega)).1]; rfl) (fun j hj => by rw [show off + kk + j = off + (kk + j) by omega]; exact (hHk (kk + j) (by omega)).2)
              clear hHk hI hwr
              go_wp2
              go_ret
              have hI := I2.out
              rw [hend] at hI
              refine ⟨by rw [hI.len]; rfl, q2, ?_⟩
              rw [hI.len, ← hI.done zr, ← putRow_setCells enc _ blk off _ dk kk (by simp; omega), ← W2.out, List.map_replicate, hz]
        | false =>
          rw [hdup] at hc
          go_wp2
          refine wp_region_still_tail 10 hmix (by kernel_rfl) ?_
          simp only [List.take_succ_cons, List.take_zero, List.drop_succ_cons, List.drop_zero]
          change wpStill _ _ (World.drew (w.drewN q)) _ _ _
          repeat still_step
          refine wpStill_nil ?_
          change wpList _ _ _ _ _ (World.drew (w.drewN q))
          go_wp2_with (go_at_fn g; refine hc.mono ?_; rintro e w' ⟨rfl, qq, rfl⟩)
          go_roundg (d.size - (k + 1))
          case measure => omega
          case rel =>
            refine ⟨k + 1, q + 1 + qq, by omega, by omega, Nat.le_refl _, by go_num, rfl, fun j hj => ?_⟩
            by_cases e : j = k
            · subst e
              rw [HK.out]
              exact keepsBy_pos (by rw [B.out.1, B.out.2]; exact hdup)
            · exact A.out j (by omega)
      · have : k = d.size := by omega
        subst this
        have HH := Lib.hid hH
        clear hH
        go_wp2
        go_ret
        obtain ⟨e1, e2⟩ := HS.out q hall
        exact ⟨by rw [e1]; rfl, q, e2⟩
end Go.Proofs.YtkfbdhlfajdpgaaDoor.HCompact
namespace Go.Proofs.YtkfbdhlfajdpgaaDoor.HCompare
set_option linter.unusedVariables false
set_option linter.unusedSimpArgs false
open Go Go.RowKit Go.Shelf Go.Proofs.YtkfbdhlfajdpgaaDoor.HNim Go.Proofs

def RI (W : World) (g : Nat) (l : List Int) : Prop := ∀ j, j < l.length → W.cell? ⟨g, j, none⟩ = some (.int .i64 (l[j]?.getD 0))

theorem cmpL_at (a b : List Int) : ∀ k : Nat, k ≤ a.length → k ≤ b.length → (∀ j, j < k → a[j]?.getD 0 = b[j]?.getD 0) → cmpL a b = cmpL (a.drop k) (b.drop k) := by
  intro k
  induction k with
  | zero => intros; simp
  | succ k ih =>
    intro ha hb h
    rw [ih (by omega) (by omega) (fun j hj => h j (by omega))]
    have e1 : a.drop k = a[k]?.getD 0 :: a.drop (k + 1) := by rw [List.drop_eq_getElem_cons (by omega), List.getElem?_eq_getElem (by omega)]; rfl
    have e2 : b.drop k = b[k]?.getD 0 :: b.drop (k + 1) := by rw [List.drop_eq_getElem_cons (by omega), List.getElem?_eq_getElem (by omega)]; rfl
    have := h k (by omega)
    rw [e1, e2, cmpL, if_neg (by omega), if_neg (by omega)]

set_option maxHeartbeats 4000000 in
set_option maxRecDepth 100000 in
theorem cmp_calls (x y : Int) (w : World) : Calls Tryd.prog 36 #[.int .i64 x, .int .i64 y] w fun e w' => e = .returned (.int .i64 (if x < y then -1 else if y < x then 1 else 0)) ∧ w' = w := by
  by_cases h1 : x < y
  · rw [if_pos h1]
    go_enter Tryd.func36, Tryd.ntmps36
    go_wp2
    go_ret
    exact ⟨rfl, rfl⟩
  · rw [if_neg h1]
    by_cases h2 : y < x
    · rw [if_pos h2]
      go_enter Tryd.func36, Tryd.ntmps36
      go_wp2
      go_ret
      exact ⟨rfl, rfl⟩
    · rw [if_neg h2]
      go_enter Tryd.func36, Tryd.ntmps36
      go_wp2
      go_ret
      exact ⟨rfl, rfl⟩

set_option maxHeartbeats 4000000 in
set_option maxRecDepth 100000 in
theorem compare_calls (a b : List Int) (g1 c1 g2 c2 : Nat) (w : World) (ha : a.length ≤ 1000000) (hb : b.length ≤ 1000000) (r1 : RI w g1 a) (r2 : RI w g2 b) :
    Calls Tryd.prog 21 #[.slice (some ⟨g1, 0, none⟩) a.length c1, .slice (some ⟨g2, 0, none⟩) b.length c2] w fun e w' => e = .returned (.int .i64 (cmpL a b)) ∧ w' = w := by
  obtain ⟨r, hr⟩ : ∃ r, cmpL a b = r := ⟨_, rfl⟩
  rw [hr]
  have HR := Lib.hid hr
  clear hr
  go_enter Tryd.func21, Tryd.ntmps21
  go_wp2
  go_loopg [11] a.length (fun gg s wr => ∃ k : Nat, k ≤ a.length ∧ k ≤ b.length ∧ a.length - k ≤ gg ∧ s = .int .i64 k ∧ wr = w ∧ Hid (∀ j, j < k → a[j]?.getD 0 = b[j]?.getD 0))
  case atStart => exact ⟨0, Nat.zero_le _, Nat.zero_le _, by omega, rfl, rfl, fun j hj => by omega⟩
  case round =>
    obtain ⟨k, hk1, hk2, hg, rfl, rfl, HE⟩ := hrel
    by_cases hlt : k < a.length
    · by_cases hlb : k < b.length
      · have ca := r1 k hlt
        have cb := r2 k hlb
        have e0 := cmpL_at a b k hk1 hk2 HE.out
        have e1 : a.drop k = a[k]?.getD 0 :: a.drop (k + 1) := by rw [List.drop_eq_getElem_cons (by omega), List.getElem?_eq_getElem (by omega)]; rfl
        have e2 : b.drop k = b[k]?.getD 0 :: b.drop (k + 1) := by rw [List.drop_eq_getElem_cons (by omega), List.getElem?_eq_getElem (by omega)]; rfl
        rw [e1, e2, cmpL] at e0
        clear e1 e2
        generalize hx : a[k]?.getD 0 = x at ca e0
        generalize hy : b[k]?.getD 0 = y at cb e0
        have HXY := Lib.hid (show a[k]?.getD 0 = x ∧ b[k]?.getD 0 = y from ⟨hx, hy⟩)
        clear hx hy
        have hc := cmp_calls x y wr
        by_cases h1 : x < y
        · rw [if_pos h1] at hc e0
          have E0 := Lib.hid e0
          clear e0
          go_wp2_with (go_at_call 36; refine hc.mono ?_; rintro e w' ⟨rfl, rfl⟩)
          go_ret
          exact ⟨by rw [← HR.out, E0.out]; rfl, rfl⟩
        · rw [if_neg h1] at hc e0
          by_cases h2 : y < x
          · rw [if_pos h2] at hc e0
            have E0 := Lib.hid e0
            clear e0
            go_wp2_with (go_at_call 36; refine hc.mono ?_; rintro e w' ⟨rfl, rfl⟩)
            go_ret
            exact ⟨by rw [← HR.out, E0.out]; rfl, rfl⟩
          · rw [if_neg h2] at hc
            clear e0
            go_wp2_with (go_at_call 36; refine hc.mono ?_; rintro e w' ⟨rfl, rfl⟩)
            go_roundg (a.length - (k + 1))
            case measure => omega
            case rel =>
              refine ⟨k + 1, by omega, by omega, Nat.le_refl _, by go_num, rfl, (show Hid _ from fun j hj => ?_)⟩
              by_cases e : j = k
              · subst e
                rw [HXY.out.1, HXY.out.2]; omega
              · exact HE.out j (by omega)
      · have hbe : b.length = k := by omega
        have ca := r1 k hlt
        have e0 := cmpL_at a b k hk1 hk2 HE.out
        have e2 : b.drop k = [] := List.drop_eq_nil_of_le (by omega)
        have e1 : a.drop k = a[k]?.getD 0 :: a.drop (k + 1) := by rw [List.drop_eq_getElem_cons (by omega), List.getElem?_eq_getElem (by omega)]; rfl
        rw [e1, e2, cmpL] at e0
        have E0 := Lib.hid e0
        clear e0 e1 e2
        go_wp2
        go_ret
        exact ⟨by rw [← HR.out, E0.out]; rfl, rfl⟩
    · have hae : k = a.length := by omega
      have e0 := cmpL_at a b k hk1 hk2 HE.out
      have e1 : a.drop k = [] := List.drop_eq_nil_of_le (by omega)
      rw [e1] at e0
      subst hae
      by_cases hlb : a.length < b.length
      · have e2 : b.drop a.length = b[a.length]?.getD 0 :: b.drop (a.length + 1) := by rw [List.drop_eq_getElem_cons (by omega), List.getElem?_eq_getElem (by omega)]; rfl
        rw [e2, cmpL] at e0
        have E0 := Lib.hid e0
        clear e0 e1 e2
        go_wp2
        go_ret
        exact ⟨by rw [← HR.out, E0.out]; rfl, rfl⟩
      · have e2 : b.drop a.length = [] := List.drop_eq_nil_of_le (by omega)
        rw [e2, cmpL] at e0
        have E0 := Lib.hid e0
        clear e0 e1 e2
        go_wp2
        go_ret
        exact ⟨by rw [← HR.out, E0.out]; rfl, rfl⟩
end Go.Proofs.YtkfbdhlfajdpgaaDoor.HCompare
namespace Go.Proofs.YtkfbdhlfajdpgaaDoor.HSteps
set_option linter.unusedVariables false
set_option linter.unusedSimpArgs false
open Go Go.RowKit Go.Shelf Go.Lib Go.Sort Go.Proofs Go.Proofs.YtkfbdhlfajdpgaaDoor.HIter Go.Proofs.YtkfbdhlfajdpgaaDoor.HNim Go.Proofs.YtkfbdhlfajdpgaaDoor.HRowOps Go.Proofs.YtkfbdhlfajdpgaaDoor.HCompare Go.Proofs.YtkfbdhlfajdpgaaDoor.HCompact

abbrev iv (x : Int) : Value := Value.int .i64 x

theorem is_zero (x : Int) (w : World) : Calls Tryd.prog 18 #[.int .i64 x] w fun e w' => e = .returned (.bool (x == 0)) ∧ w' = w := by
  go_enter Tryd.func18, Tryd.ntmps18
  go_wp2
  go_ret
  exact ⟨rfl, rfl⟩
theorem is_out (x : Int) (w : World) : Calls Tryd.prog 11 #[.int .i64 x] w fun e w' => e = .returned (.bool (decide (x < 0) || decide (x > 200))) ∧ w' = w := by
  by_cases h : x < 0
  · go_enter Tryd.func11, Tryd.ntmps11
    go_wp2
    go_ret
    exact ⟨by simp [h], rfl⟩
  · go_enter Tryd.func11, Tryd.ntmps11
    go_wp2
    go_ret
    exact ⟨by simp [h]; omega, rfl⟩
theorem enters18 : ∀ args w, (callFunc 18 args).run Tryd.prog w = .ok (.enter 18 args) w := enters_of Tryd.func18 (by kernel_rfl) rfl
theorem enters11 : ∀ args w, (callFunc 11 args).run Tryd.prog w = .ok (.enter 11 args) w := enters_of Tryd.func11 (by kernel_rfl) rfl
theorem enters21 : ∀ args w, (callFunc 21 args).run Tryd.prog w = .ok (.enter 21 args) w := enters_of Tryd.func21 (by kernel_rfl) rfl
theorem enters23 : ∀ args w, (callFunc 23 args).run Tryd.prog w = .ok (.enter 23 args) w := enters_of Tryd.func23 (by kernel_rfl) rfl

/-- The range of heaps. -/
theorem contains_step (b off c : Nat) (hs : List Int) (w : World) (hl : hs.length ≤ 1000000) (hc : ∀ j, j < hs.length → w.cell? ⟨b, off + j, none⟩ = some (iv (hs[j]?.getD 0))) :
    Calls Tryd.prog 10 #[.slice (some ⟨b, off, none⟩) hs.length c, .func (.func 11) #[] #[]] w fun e w' => e = .returned (.bool (hs.any fun x => decide (x < 0) || decide (x > 200))) ∧ ∃ q, w' = w.drewN q := by
  have h := Tryd.slices_ContainsFunc (α := Int) iv (fun x => decide (x < 0) || decide (x > 200)) 11 #[] enters11 b off hs.length c hs w
    (fun W x _ => (is_out x W).mono (fun e w' h => ⟨h.1, 0, h.2⟩)) (Nat.le_refl _) (by omega) (fun j hj => by rw [hc j hj, List.getElem?_eq_getElem hj, getElem!_pos hs j hj]; rfl)
  rw [List.take_length] at h
  exact h

theorem clone_step (b off c : Nat) (hs : List Int) (w : World) (hl : hs.length ≤ 1000000) (hc : ∀ j, j < hs.length → w.cell? ⟨b, off + j, none⟩ = some (iv (hs[j]?.getD 0))) :
    Calls Tryd.prog 16 #[.slice (some ⟨b, off, none⟩) hs.length c] w fun e w' => ∃ g cap, e = .returned (.slice (some ⟨g, 0, none⟩) hs.length cap) ∧ w.heap.size ≤ g ∧ Row w' 3 g cap (hs.map iv) ∧ Below w.heap.size w w' := by
  refine (Tryd.slices_Clone_int b off hs.length c hs w (Nat.le_refl _) (by omega) (fun j hj => by rw [hc j hj, List.getD_eq_getElem?_getD])).mono ?_
  rintro e w' ⟨v, rfl, hv, hne, hb⟩
  rw [List.take_length] at hv
  obtain ⟨g, cap, rfl, h1, h2, h3⟩ := Row.of_owns hv hne
  rw [List.length_map]
  exact ⟨g, cap, rfl, h1, h2, hb⟩

theorem erase_eq (hs : List Int) (i : Nat) (hi : i < hs.length) : hs.take i ++ hs.drop (i + 1) = hs.eraseIdx i := by rw [List.eraseIdx_eq_take_drop_succ]

theorem delete_step (g cap i : Nat) (hs : List Int) (w : World) (hr : Row w 3 g cap (hs.map iv)) (hi : i < hs.length) :
    Calls Tryd.prog 15 #[.slice (some ⟨g, 0, none⟩) hs.length cap, .int .i64 i, .int .i64 ((i : Int) + 1)] w fun e w' => e = .returned (.slice (some ⟨g, 0, none⟩) (hs.eraseIdx i).length cap) ∧ Row w' 3 g cap ((hs.eraseIdx i).map iv) ∧ Fr (fun k => k = g) w w' := by
  have hle := hr.le
  rw [List.length_map] at hle
  have hm := hr.max
  have h := Tryd.slices_Delete_int g 0 cap i (i + 1) hs w hr.holds hle (by unfold maxLen at hm; omega) (by omega) (by omega)
  rw [show ((i + 1 : Nat) : Int) = (i : Int) + 1 by omega] at h
  refine h.mono ?_
  rintro e w' ⟨rfl, q, rfl⟩
  have e1 : hs.length - (i + 1 - i) = (hs.eraseIdx i).length := by rw [List.length_eraseIdx, if_pos hi]; omega
  have e2 : hs.take i ++ hs.drop (i + 1) ++ List.replicate (i + 1 - i) 0 = hs.eraseIdx i ++ [0] := by
    rw [erase_eq hs i hi, show i + 1 - i = 1 by omega]; rfl
  rw [e1, e2]
  have hlen : (hs.eraseIdx i ++ [0]).length = hs.length := by rw [List.length_append, List.length_eraseIdx, if_pos hi]; simp; omega
  refine ⟨rfl, ?_, Fr.put _ _ _ _ _⟩
  have := (hr.ahead q).put (l' := hs.eraseIdx i ++ [0]) hlen
  rw [List.map_append] at this
  exact this.cut

theorem delfunc_step (g cap : Nat) (l : List Int) (w : World) (hr : Row w 3 g cap (l.map iv)) :
    Calls Tryd.prog 17 #[.slice (some ⟨g, 0, none⟩) l.length cap, .func (.func 18) #[] #[]] w fun e w' => e = .returned (.slice (some ⟨g, 0, none⟩) (l.filter fun n => !(n == 0)).length cap) ∧ Row w' 3 g cap ((l.filter fun n => !(n == 0)).map iv) ∧ Fr (fun k => k = g) w w' := by
  have hle := hr.le
  rw [List.length_map] at hle
  have hm := hr.max
  have h := Tryd.slices_DeleteFunc (α := Int) iv (fun _ => rfl) (fun n => n == 0) 18 #[] enters18 0 (fun w => Tryd.zeroValue3 w) g 0 cap l.toArray w
    (fun W x _ => (is_zero x W).mono (fun e w' h => ⟨h.1, 0, h.2⟩)) (fun n os dk x _ => (is_zero x _).mono (fun e w' h => ⟨h.1, 0, h.2⟩)) hr.holds (by unfold maxLen at hm; simp; omega) (by simpa using hle)
  simp only [List.size_toArray] at h
  refine h.mono ?_
  rintro e w' ⟨rfl, q, rfl⟩
  have hf : (l.filter fun n => !(n == 0)).length ≤ l.length := List.length_filter_le _ _
  have hlen : ((l.filter fun n => !(n == 0)) ++ List.replicate (l.length - (l.filter fun n => !(n == 0)).length) 0).length = l.length := by
    rw [List.length_append, List.length_replicate]; omega
  refine ⟨rfl, ?_, Fr.put _ _ _ _ _⟩
  have := (hr.ahead q).put (l' := (l.filter fun n => !(n == 0)) ++ List.replicate (l.length - (l.filter fun n => !(n == 0)).length) 0) hlen
  rw [List.map_append] at this
  exact this.cut

theorem sort_step (g cap : Nat) (l : List Int) (w : World) (hl : l.length ≤ 1000000) (hr : Row w 3 g cap (l.map iv)) :
    Calls Tryd.prog 19 #[.slice (some ⟨g, 0, none⟩) l.length cap] w fun e w' => e = .returned (.tuple #[]) ∧ Row w' 3 g cap ((isort l).map iv) ∧ Fr (fun k => k = g) w w' := by
  refine (Tryd.slices_Sort_int g 0 cap l w hr.holds hr.lt (by omega)).mono ?_
  rintro e w' ⟨rfl, n, os, rfl⟩
  refine ⟨rfl, Row.grow ((hr.ahead n).put (l' := isort l) (isort_perm l).length_eq) os, Fr.puts _ _ _ _ _ _⟩

/-! ### the rows that are put out -/
/-- A row that is put out: its block, its cap, what it holds. -/
abbrev Ent := Nat × Nat × List Int
def encE (e : Ent) : Value := .slice (some ⟨e.1, 0, none⟩) e.2.2.length e.2.1
def Fits (base : Nat) (W : World) (e : Ent) : Prop := base ≤ e.1 ∧ Row W 3 e.1 e.2.1 (e.2.2.map iv) ∧ e.2.2.length ≤ 1000000
structure OutS (base : Nat) (W : World) (v : Value) (es : List Ent) : Prop where
  own : W.ownsRow base 22 1 v es.length (es.map encE)
  fits : ∀ e ∈ es, Fits base W e
  nodup : (es.map (·.1)).Nodup
theorem one_encE : OneCell encE := fun _ => rfl

theorem Fits.ne {base : Nat} {W : World} {e : Ent} {k : Nat} {cur : Array Value} {t : TypeId} (h : Fits base W e) (hb : W.heap[k]? = some (.cells cur t (0, 0))) (ht : t ≠ 3) : e.1 ≠ k := by
  rintro rfl
  obtain ⟨_, ⟨cur', h1, _⟩, _⟩ := h
  rw [hb] at h1
  injection h1 with h1
  injection h1 with _ h1
  exact ht h1
theorem Fits.fr {base : Nat} {W W' : World} {e : Ent} {D : Nat → Prop} (h : Fits base W e) (hf : Fr D W W') (hn : ¬ D e.1) : Fits base W' e := ⟨h.1, h.2.1.fr hf hn, h.2.2⟩

/-- A nil row, or the row of block g. -/
theorem OutS.cases {base : Nat} {W : World} {v : Value} {es : List Ent} (h : OutS base W v es) : (v = .slice none 0 0 ∧ es = []) ∨ ∃ g cap, v = .slice (some ⟨g, 0, none⟩) es.length cap ∧ base ≤ g ∧ Row W 22 g cap (es.map encE) := by
  by_cases hv : v = .slice none 0 0
  · left
    refine ⟨hv, ?_⟩
    subst hv
    obtain ⟨h1, h2⟩ := h.own
    rcases h2 with ⟨_, h2⟩ | ⟨g, cap, cur, h3, _⟩
    · exact List.eq_nil_of_length_eq_zero h2
    · cases h3
  · right
    obtain ⟨g, cap, h1, h2, h3, h4⟩ := Row.of_owns h.own hv
    rw [List.length_map] at h1
    exact ⟨g, cap, h1, h2, h3⟩

/-- The elements that may stand in the row while it is sorted: rows elsewhere. -/
abbrev El (W : World) (g : Nat) := { e : Ent // Row W 3 e.1 e.2.1 (e.2.2.map iv) ∧ e.1 ≠ g ∧ e.2.2.length ≤ 1000000 }
def encL {W : World} {g : Nat} (x : El W g) : Value := encE x.1
def cfL {W : World} {g : Nat} (x y : El W g) : Int := cmpL x.1.2.2 y.1.2.2

theorem ri_of {W : World} {e : TypeId} {g cap : Nat} {l : List Int} (h : Row W e g cap (l.map iv)) : RI W g l := fun j hj => h.cellAt j (by rw [List.getElem?_map, List.getElem?_eq_getElem hj]; rfl)

theorem cmp_lays (W : World) (g off size : Nat) (hg : g < W.heap.size) [Inhabited (El W g)] : CmpLays1 Tryd.prog 21 #[] (encL (W := W) (g := g)) cfL g off size W := by
  intro m os dk hs x y
  obtain ⟨x, hx1, hx2, hx3⟩ := x
  obtain ⟨y, hy1, hy2, hy3⟩ := y
  have hf : Fr (fun k => k = g) W (sortWorld encL W g off m dk os) := Fr.puts _ _ _ _ _ _
  refine (compare_calls x.2.2 y.2.2 x.1 x.2.1 y.1 y.2.1 _ hx3 hy3 (ri_of (hx1.fr hf hx2)) (ri_of (hy1.fr hf hy2))).mono ?_
  rintro e w' ⟨rfl, rfl⟩
  exact ⟨rfl, 0, #[], by rw [grow_empty]; rfl⟩

theorem swoL {W : World} {g : Nat} : SWO (ltOf (cfL (W := W) (g := g))) where
  irrefl x := by simp [ltOf, cfL, cmpL_self]
  trans x y z h1 h2 := by
    exact decide_eq_true (cmpL_trans (of_decide_eq_true h1) (of_decide_eq_true h2))
  ntrans x y z h1 h2 := by
    exact decide_eq_false (leL_trans _ _ _ (of_decide_eq_false h2) (of_decide_eq_false h1))

set_option maxHeartbeats 2000000 in
theorem insertion_none (p : Option Addr) (cap : Nat) (fv : Value) (w : World) :
    Calls Tryd.prog 63 #[.slice p 0 cap, .int .i64 0, .int .i64 0, fv] w fun e w' => e = .returned (.tuple #[]) ∧ w' = w := by
  go_enter Tryd.func63, Tryd.ntmps63
  go_wp2
  refine wp_loop_rounds 1 ?_
  rw [rounds_succ]
  go_wp2
  go_end0
  exact ⟨rfl, rfl⟩
set_option maxHeartbeats 2000000 in
theorem pdq_none (p : Option Addr) (cap : Nat) (lim : Int) (fv : Value) (w : World) :
    Calls Tryd.prog 35 #[.slice p 0 cap, .int .i64 0, .int .i64 0, .int .i64 lim, fv] w fun e w' => e = .returned (.tuple #[]) ∧ w' = w := by
  have hi := fun W => insertion_none p cap fv W
  go_enter Tryd.func35, Tryd.ntmps35
  go_wp2
  refine wp_loop_rounds 1 ?_
  rw [rounds_succ]
  go_wp2_with (go_at_call 63; refine (hi _).mono ?_; rintro e w' ⟨rfl, rfl⟩)
  (try simp only [Exit.inBlock, Exit.then]); refine bodyPost_ret (results_none rfl _ _ _) rfl ?_
  exact ⟨rfl, rfl⟩
set_option maxHeartbeats 2000000 in
theorem sortFunc_none (p : Option Addr) (cap : Nat) (fv : Value) (w : World) :
    Calls Tryd.prog 20 #[.slice p 0 cap, fv] w fun e w' => e = .returned (.tuple #[]) ∧ w' = w := by
  have hp := fun lim W => pdq_none p cap lim fv W
  have hl : ∀ W, Calls Tryd.prog 34 #[.int .u64 0] W fun e w' => e = .returned (.int .i64 (Lib.bitLen 0 : Nat)) ∧ w' = W := fun W => Tryd.bits_Len 0 W (by omega) (by omega)
  go_enter Tryd.func20, Tryd.ntmps20
  go_wp2_with (first | (go_at_call 34; refine (hl _).mono ?_; rintro e w' ⟨rfl, rfl⟩) | (go_at_call 35; refine (hp _ _).mono ?_; rintro e w' ⟨rfl, rfl⟩))
  go_end0
  exact ⟨rfl, rfl⟩

theorem sorted_pairwise {α : Type} [Inhabited α] {lt : α → α → Bool} {d : Array α} (h : SortedIn lt 0 d.size d) : d.toList.Pairwise (fun a b => lt b a = false) := by
  rw [List.pairwise_iff_getElem]
  intro i j hi hj hij
  have hi' : i < d.size := by simpa using hi
  have hj' : j < d.size := by simpa using hj
  have := h i j (Nat.zero_le _) hij hj'
  rw [getElem!_pos d i hi', getElem!_pos d j hj'] at this
  simpa using this
theorem perm_all {α : Type} [Inhabited α] {d d' : Array α} (h : PermIn 0 d.size d d') : d'.size = d.size ∧ d'.toList.Perm d.toList := by
  obtain ⟨h1, _, h3⟩ := h
  refine ⟨h1, ?_⟩
  rw [Array.extract_eq_self_of_le (by omega), Array.extract_eq_self_of_le (by omega)] at h3
  exact h3

set_option maxHeartbeats 2000000 in
/-- slices.SortFunc over the rows that are put out. -/
theorem sortOut (base : Nat) (w : World) (v : Value) (es : List Ent) (h : OutS base w v es) (hn : es.length ≤ 100000000) :
    Calls Tryd.prog 20 #[v, .func (.func 21) #[] #[]] w fun e w' => e = .returned (.tuple #[]) ∧ ∃ es', OutS base w' v es' ∧ es'.length = es.length ∧ es'.map (fun e => e.2.2) = lsort (es.map (fun e => e.2.2)) ∧ Fr (fun k => v.ownBlock = some k) w w' := by
  rcases h.cases with ⟨rfl, rfl⟩ | ⟨g, cap, rfl, hb, hr⟩
  · refine (sortFunc_none none 0 _ w).mono ?_
    rintro e w' ⟨rfl, rfl⟩
    exact ⟨rfl, [], h, rfl, by simp [lsort], Fr.refl _ _⟩
  · by_cases he : es = []
    · subst he
      refine (sortFunc_none (some ⟨g, 0, none⟩) cap _ w).mono ?_
      rintro e w' ⟨rfl, rfl⟩
      exact ⟨rfl, [], h, rfl, by simp [lsort], Fr.refl _ _⟩
    · have hg := hr.lt
      obtain ⟨cur, hcur, _⟩ := id hr
      have hel : ∀ e ∈ es, Row w 3 e.1 e.2.1 (e.2.2.map iv) ∧ e.1 ≠ g ∧ e.2.2.length ≤ 1000000 := fun e hm => ⟨(h.fits e hm).2.1, (h.fits e hm).ne hcur (by decide), (h.fits e hm).2.2⟩
      obtain ⟨ls, hls⟩ : ∃ ls : List (El w g), ls.map (·.1) = es := ⟨es.attach.map (fun x => ⟨x.1, hel x.1 x.2⟩), by rw [List.map_map]; exact List.attach_map_subtype_val es⟩
      obtain ⟨e0, r0, he0⟩ : ∃ e0 r0, es = e0 :: r0 := by cases es with
        | nil => exact absurd rfl he
        | cons a b => exact ⟨a, b, rfl⟩
      haveI : Inhabited (El w g) := ⟨⟨e0, hel e0 (by rw [he0]; simp)⟩⟩
      have hen : es.map encE = ls.map encL := by rw [← hls, List.map_map]; rfl
      have hll : ls.length = es.length := by rw [← hls, List.length_map]
      rw [hen] at hr
      have hc := Tryd.slices_SortFunc (α := El w g) encL (fun _ => rfl) cfL swoL 21 #[] g 0 cap ls.toArray w enters21 (cmp_lays w g 0 _ hg) hr.holds hg (by simp; omega)
      simp only [List.size_toArray, hll] at hc
      refine hc.mono ?_
      rintro e w' ⟨rfl, d', n, os, hp, hsd, rfl⟩
      have hp' : PermIn 0 ls.toArray.size ls.toArray d' := by simpa [hll] using hp
      obtain ⟨hsz, hperm⟩ := perm_all hp'
      have hsz' : d'.size = es.length := by rw [hsz]; simp [hll]
      have hpw := sorted_pairwise (d := d') (lt := ltOf cfL) (by rw [hsz']; exact hsd)
      have hperm' : d'.toList.Perm ls := by simpa using hperm
      have hf : Fr (fun k => k = g) w (sortWorld encL w g 0 n d' os) := Fr.puts _ _ _ _ _ _
      refine ⟨rfl, d'.toList.map (·.1), ⟨?_, ?_, ?_⟩, by simp [hsz'], ?_, hf.mono (fun k _ h => by simp [Value.ownBlock, h])⟩
      · have := (Row.grow ((hr.ahead n).put (l' := d'.toList) (by rw [hperm'.length_eq])) os).owns hb
        rw [List.length_map]
        rw [List.length_map] at this
        have e1 : (d'.toList.map (·.1)).map encE = d'.toList.map encL := by rw [List.map_map]; rfl
        rw [e1]
        have e2 : d'.toList.length = es.length := by simpa using hsz'
        rw [← e2]
        simpa [sortWorld] using this
      · intro e hm
        obtain ⟨x, hx, rfl⟩ := List.mem_map.1 hm
        have : x.1 ∈ es := by rw [← hls]; exact List.mem_map_of_mem (hperm'.mem_iff.1 hx)
        exact (h.fits _ this).fr hf x.2.2.1
      · have := ((hperm'.map (·.1)).map (·.1)).nodup_iff.2 (by rw [hls]; exact h.nodup)
        exact this
      · refine lsort_of ?_ ?_
        · have := (hperm'.map (·.1)).map (fun e => e.2.2)
          rw [hls] at this
          exact this
        · rw [List.pairwise_map, List.pairwise_map]
          refine hpw.imp (fun {a b} hab => ?_)
          exact of_decide_eq_false hab
end Go.Proofs.YtkfbdhlfajdpgaaDoor.HSteps
namespace Go.Proofs.YtkfbdhlfajdpgaaDoor.HSteps
set_option linter.unusedVariables false
set_option linter.unusedSimpArgs false
open Go Go.RowKit Go.Shelf Go.Lib Go.Sort Go.Proofs Go.Proofs.YtkfbdhlfajdpgaaDoor.HIter Go.Proofs.YtkfbdhlfajdpgaaDoor.HNim Go.Proofs.YtkfbdhlfajdpgaaDoor.HRowOps Go.Proofs.YtkfbdhlfajdpgaaDoor.HCompare Go.Proofs.YtkfbdhlfajdpgaaDoor.HCompact

theorem allEq_beq : ∀ a b : List Int, allEq (fun x y => x == y) a b = decide (a = b)
  | [], [] => by simp [allEq]
  | [], _ :: _ => by simp [allEq]
  | _ :: _, [] => by simp [allEq]
  | x :: a, y :: b => by
    rw [allEq, allEq_beq a b]
    by_cases h : x = y
    · subst h; simp
    · simp [h]

theorem equal_calls (a b : List Int) (g1 c1 g2 c2 : Nat) (w : World) (ha : a.length ≤ 1000000) (hb : b.length ≤ 1000000) (r1 : RI w g1 a) (r2 : RI w g2 b) :
    Calls Tryd.prog 23 #[.slice (some ⟨g1, 0, none⟩) a.length c1, .slice (some ⟨g2, 0, none⟩) b.length c2] w fun e w' => e = .returned (.bool (decide (a = b))) ∧ ∃ q, w' = w.drewN q := by
  have h := Tryd.slices_Equal (α := Int) iv (fun x y => x == y) (NeqAt.int _ _ _) g1 0 a.length c1 g2 0 b.length c2 a b w (Nat.le_refl _) (Nat.le_refl _) (by omega) (by omega)
    (fun j hj => by rw [Nat.zero_add, r1 j hj, List.getElem?_eq_getElem hj, getElem!_pos a j hj]; rfl) (fun j hj => by rw [Nat.zero_add, r2 j hj, List.getElem?_eq_getElem hj, getElem!_pos b j hj]; rfl)
  rw [List.take_length, List.take_length, allEq_beq] at h
  exact h

/-- What is kept, told by lists. -/
theorem kept_map {α : Type} [Inhabited α] (key : α → List Int) (d : Array α) (hd : 0 < d.size) : ∀ m : Nat, m + 1 ≤ d.size →
    ∃ p rest : List (List Int), (keptUpTo (keepsBy (fun x y => decide (key x = key y)) d) d (m + 1)).map key = p ∧ dedup (d.toList.map key) = p ++ rest ∧ rest = dgo (key d[m]!) ((d.toList.drop (m + 1)).map key)
  | 0, h => by
    obtain ⟨x, l, hl⟩ : ∃ x l, d.toList = x :: l := by
      cases hc : d.toList with
      | nil => have : d.size = 0 := by simpa using congrArg List.length hc
               omega
      | cons x l => exact ⟨x, l, rfl⟩
    have hx : d[0]! = x := by
      rw [getElem!_pos d 0 hd]
      have : d.toList[0]'(by simpa using hd) = x := by simp [hl]
      simpa using this
    refine ⟨[key x], dgo (key x) (l.map key), ?_, ?_, ?_⟩
    · rw [keptUpTo_succ]
      simp [keptUpTo, keepsBy, hx]
    · rw [hl]; rfl
    · rw [hx, hl]; rfl
  | m + 1, h => by
    obtain ⟨p, rest, h1, h2, h3⟩ := kept_map key d hd m (by omega)
    have hm : m + 1 < d.size := by omega
    have hdr : d.toList.drop (m + 1) = d[m + 1]! :: d.toList.drop (m + 1 + 1) := by
      rw [List.drop_eq_getElem_cons (by simpa using hm), getElem!_pos d (m + 1) hm]
      simp
    rw [hdr, List.map_cons, dgo] at h3
    by_cases e : key d[m + 1]! = key d[m]!
    · refine ⟨p, rest, ?_, h2, ?_⟩
      · rw [keptUpTo_succ, keepsBy_neg (by omega) (by simpa using e)]
        simpa using h1
      · rw [if_pos e] at h3; exact h3
    · rw [if_neg e] at h3
      refine ⟨p ++ [key d[m + 1]!], _, ?_, ?_, rfl⟩
      · rw [keptUpTo_succ, keepsBy_pos (by simpa using e), List.map_append, h1]; rfl
      · rw [h2, h3]; simp
theorem kept_dedup {α : Type} [Inhabited α] (key : α → List Int) (d : Array α) : (keptUpTo (keepsBy (fun x y => decide (key x = key y)) d) d d.size).map key = dedup (d.toList.map key) := by
  by_cases hd : d.size = 0
  · have : d = #[] := Array.eq_empty_of_size_eq_zero hd
    subst this
    rfl
  · obtain ⟨p, rest, h1, h2, h3⟩ := kept_map key d (by omega) (d.size - 1) (by omega)
    rw [show d.size - 1 + 1 = d.size by omega] at h1 h3
    rw [List.drop_eq_nil_of_le (by simp)] at h3
    rw [h1, h2, h3]
    simp [dgo]
theorem kept_sub {α : Type} [Inhabited α] (kp : Nat → Bool) (d : Array α) : (keptUpTo kp d d.size).Sublist d.toList := by
  have h : (keptUpTo kp d d.size).Sublist ((List.range d.size).map (d[·]!)) := by
    unfold keptUpTo
    exact (List.filter_sublist).map _
  rwa [range_map_get] at h

set_option maxHeartbeats 2000000 in
theorem compact_none (p : Option Addr) (cap : Nat) (fv : Value) (w : World) :
    Calls Tryd.prog 22 #[.slice p 0 cap, fv] w fun e w' => e = .returned (.slice p 0 cap) ∧ w' = w := by
  go_enter Tryd.func22, Tryd.ntmps22
  go_wp2
  go_ret
  exact ⟨rfl, rfl⟩

/-- What may stand in the row while it is made compact: a row elsewhere, or nil. -/
def encO {W : World} {g : Nat} (x : Option (El W g)) : Value := match x with | none => .slice none 0 0 | some y => encE y.1
def keyO {W : World} {g : Nat} (x : Option (El W g)) : List Int := match x with | none => [] | some y => y.1.2.2

set_option maxHeartbeats 2000000 in
theorem equal_none (b : List Int) (g2 c2 : Nat) (w : World) (r2 : RI w g2 b) (hb : b.length ≤ 1000000) :
    (Calls Tryd.prog 23 #[.slice none 0 0, .slice (some ⟨g2, 0, none⟩) b.length c2] w fun e w' => e = .returned (.bool (decide ([] = b))) ∧ w' = w) ∧
    (Calls Tryd.prog 23 #[.slice (some ⟨g2, 0, none⟩) b.length c2, .slice none 0 0] w fun e w' => e = .returned (.bool (decide (b = []))) ∧ w' = w) ∧
    (Calls Tryd.prog 23 #[.slice none 0 0, .slice none 0 0] w fun e w' => e = .returned (.bool true) ∧ w' = w) := by
  clear r2
  have hcase : (b = [] ∧ b.length = 0) ∨ (b ≠ [] ∧ 0 < b.length) := by
    cases b with
    | nil => exact .inl ⟨rfl, rfl⟩
    | cons x l => exact .inr ⟨by simp, by simp⟩
  refine ⟨?_, ?_, ?_⟩
  · rcases hcase with ⟨h1, h2⟩ | ⟨h1, h2⟩
    · rw [h2, show decide ([] = b) = true from by simp [h1]]
      clear h1
      go_enter Tryd.func23, Tryd.ntmps23
      go_wp2
      refine wp_loop_rounds 1 ?_
      rw [rounds_succ]
      go_wp2
      go_ret
      exact ⟨rfl, rfl⟩
    · rw [show decide ([] = b) = false from by simpa using Ne.symm h1]
      generalize b.length = m at *
      clear h1
      have hne : ((0 : Int) != (m : Int)) = true := by simp; omega
      go_enter Tryd.func23, Tryd.ntmps23
      go_wp2
      go_ret
      exact ⟨rfl, rfl⟩
  · rcases hcase with ⟨h1, h2⟩ | ⟨h1, h2⟩
    · rw [h2, show decide (b = []) = true from by simp [h1]]
      clear h1
      go_enter Tryd.func23, Tryd.ntmps23
      go_wp2
      refine wp_loop_rounds 1 ?_
      rw [rounds_succ]
      go_wp2
      go_ret
      exact ⟨rfl, rfl⟩
    · rw [show decide (b = []) = false from by simpa using h1]
      generalize b.length = m at *
      clear h1
      have hne : ((m : Int) != (0 : Int)) = true := by simp; omega
      go_enter Tryd.func23, Tryd.ntmps23
      go_wp2
      go_ret
      exact ⟨rfl, rfl⟩
  · go_enter Tryd.func23, Tryd.ntmps23
    go_wp2
    refine wp_loop_rounds 1 ?_
    rw [rounds_succ]
    go_wp2
    go_ret
    exact ⟨rfl, rfl⟩

theorem eq_lays (W : World) (g off size : Nat) [Inhabited (Option (El W g))] (dk : Array (Option (El W g))) (x y : Option (El W g)) (q : Nat) :
    Calls Tryd.prog 23 (#[encO x, encO y] ++ #[]) (putRow encO (Sort.ahead W q) g off dk) fun e w' => e = .returned (.bool (decide (keyO x = keyO y))) ∧ ∃ qq, w' = (putRow encO (Sort.ahead W q) g off dk).drewN qq := by
  have hf : Fr (fun k => k = g) W (putRow encO (Sort.ahead W q) g off dk) := Fr.put _ _ _ _ _
  have hr : ∀ z : El W g, RI (putRow encO (Sort.ahead W q) g off dk) z.1.1 z.1.2.2 := fun z => ri_of (z.2.1.fr hf z.2.2.1)
  cases x with
  | none =>
    cases y with
    | none =>
      refine (equal_none [] 0 0 _ (fun j hj => by simp at hj) (by simp)).2.2.mono ?_
      rintro e w' ⟨rfl, rfl⟩
      exact ⟨by simp, 0, rfl⟩
    | some y =>
      refine (equal_none y.1.2.2 y.1.1 y.1.2.1 _ (hr y) y.2.2.2).1.mono ?_
      rintro e w' ⟨rfl, rfl⟩
      exact ⟨rfl, 0, rfl⟩
  | some x =>
    cases y with
    | none =>
      refine (equal_none x.1.2.2 x.1.1 x.1.2.1 _ (hr x) x.2.2.2).2.1.mono ?_
      rintro e w' ⟨rfl, rfl⟩
      exact ⟨rfl, 0, rfl⟩
    | some y => exact equal_calls x.1.2.2 y.1.2.2 x.1.1 x.1.2.1 y.1.1 y.1.2.1 _ x.2.2.2 y.2.2.2 (hr x) (hr y)

set_option maxHeartbeats 2000000 in
theorem compactOut (base : Nat) (w : World) (v : Value) (es : List Ent) (h : OutS base w v es) (hn : es.length ≤ 100000000) :
    Calls Tryd.prog 22 #[v, .func (.func 23) #[] #[]] w fun e w' => ∃ v' es', e = .returned v' ∧ OutS base w' v' es' ∧ es'.map (fun e => e.2.2) = dedup (es.map (fun e => e.2.2)) ∧ Fr (fun k => v.ownBlock = some k) w w' := by
  rcases h.cases with ⟨rfl, rfl⟩ | ⟨g, cap, rfl, hb, hr⟩
  · refine (compact_none none 0 _ w).mono ?_
    rintro e w' ⟨rfl, rfl⟩
    exact ⟨_, [], rfl, h, rfl, Fr.refl _ _⟩
  · have hg := hr.lt
    obtain ⟨cur, hcur, _⟩ := id hr
    have hel : ∀ e ∈ es, Row w 3 e.1 e.2.1 (e.2.2.map iv) ∧ e.1 ≠ g ∧ e.2.2.length ≤ 1000000 := fun e hm => ⟨(h.fits e hm).2.1, (h.fits e hm).ne hcur (by decide), (h.fits e hm).2.2⟩
    obtain ⟨ls, hls⟩ : ∃ ls : List (El w g), ls.map (·.1) = es := ⟨es.attach.map (fun x => ⟨x.1, hel x.1 x.2⟩), by rw [List.map_map]; exact List.attach_map_subtype_val es⟩
    have hll : ls.length = es.length := by rw [← hls, List.length_map]
    obtain ⟨lo, hlo⟩ : ∃ lo : List (Option (El w g)), lo = ls.map some := ⟨_, rfl⟩
    have hol : lo.length = es.length := by rw [hlo, List.length_map, hll]
    have hen : es.map encE = lo.map encO := by rw [← hls, hlo, List.map_map, List.map_map]; rfl
    rw [hen] at hr
    have hle := hr.le
    rw [List.length_map, hol] at hle
    have hc := compactFunc (α := Option (El w g)) encO (fun x => by cases x <;> rfl) (fun x y => decide (keyO x = keyO y)) 23 #[] enters23 g 0 cap lo.toArray w (fun dk x y q _ => eq_lays w g 0 0 dk x y q) none rfl hr.holds (by simp; omega) (by simpa [hol] using hle)
    simp only [List.size_toArray, hol] at hc
    refine hc.mono ?_
    rintro e w' ⟨rfl, q, rfl⟩
    obtain ⟨K, hK⟩ : ∃ K, keptUpTo (keepsBy (fun x y => decide (keyO x = keyO y)) lo.toArray) lo.toArray lo.toArray.size = K := ⟨_, rfl⟩
    have hsub := kept_sub (keepsBy (fun (x y : Option (El w g)) => decide (keyO x = keyO y)) lo.toArray) lo.toArray
    have hkey := kept_dedup (keyO (W := w) (g := g)) lo.toArray
    rw [hK] at hsub hkey
    simp only [List.size_toArray, hol] at hK
    rw [hK]
    simp only [List.toList_toArray] at hsub hkey
    have hKl : K.length ≤ es.length := by rw [← hol]; exact hsub.length_le
    -- what is kept are elements
    obtain ⟨ks, hks, hks2⟩ : ∃ ks : List (El w g), K = ks.map some ∧ ks.Sublist ls := by
      rw [hlo] at hsub
      obtain ⟨ks, h1, h2⟩ := List.sublist_map_iff.1 hsub
      exact ⟨ks, h2, h1⟩
    have hf : Fr (fun k => k = g) w (putRow encO (Sort.ahead w q) g 0 (K ++ List.replicate (es.length - K.length) none).toArray) := Fr.put _ _ _ _ _
    refine ⟨_, ks.map (·.1), rfl, ⟨?_, ?_, ?_⟩, ?_, hf.mono (fun k _ h => by simp [Value.ownBlock, h])⟩
    · have h1 := (hr.ahead q).put (l' := K ++ List.replicate (es.length - K.length) none) (by rw [List.length_append, List.length_replicate, hol]; omega)
      rw [List.map_append] at h1
      have h2 := h1.cut.owns hb
      have e1 : (ks.map (·.1)).map encE = K.map encO := by rw [hks, List.map_map, List.map_map]; rfl
      have e2 : (ks.map (·.1)).length = K.length := by rw [hks, List.length_map, List.length_map]
      rw [e1, e2]
      rwa [List.length_map] at h2
    · intro e hm
      obtain ⟨x, hx, rfl⟩ := List.mem_map.1 hm
      have : x.1 ∈ es := by rw [← hls]; exact List.mem_map_of_mem (hks2.subset hx)
      exact (h.fits _ this).fr hf x.2.2.1
    · have := ((hks2.map (·.1)).map (·.1)).nodup (by rw [hls]; exact h.nodup)
      exact this
    · have e1 : (ks.map (·.1)).map (fun e => e.2.2) = K.map keyO := by rw [hks, List.map_map, List.map_map]; rfl
      have e2 : es.map (fun e => e.2.2) = lo.map keyO := by rw [hlo, ← hls, List.map_map, List.map_map]; rfl
      rw [e1, e2, hkey]
end Go.Proofs.YtkfbdhlfajdpgaaDoor.HSteps
namespace Go.Proofs.YtkfbdhlfajdpgaaDoor.HSteps
set_option linter.unusedVariables false
set_option linter.unusedSimpArgs false
open Go Go.RowKit Go.Shelf Go.Lib Go.Sort Go.Proofs Go.Proofs.YtkfbdhlfajdpgaaDoor.HIter Go.Proofs.YtkfbdhlfajdpgaaDoor.HSpec Go.Proofs.YtkfbdhlfajdpgaaDoor.HNim Go.Proofs.YtkfbdhlfajdpgaaDoor.HRowOps

theorem wsum_take (V hs : List Int) (k : Nat) (hk : k < hs.length) : wsum V (hs.take (k + 1)) = xr (wsum V (hs.take k)) (at0 V (hs[k]?.getD 0)) := by
  unfold wsum
  rw [List.take_add_one, List.getElem?_eq_getElem hk, List.foldl_append]
  rfl

set_option maxHeartbeats 2000000 in
theorem without_any (b off c gv cv : Nat) (V hs : List Int) (w : World) (hl : hs.length ≤ 1000) (hr : ∀ x ∈ hs, 0 ≤ x ∧ x < V.length) (hV : V.length ≤ 100000)
    (hc : ∀ j, j < hs.length → w.cell? ⟨b, off + j, none⟩ = some (iv (hs[j]?.getD 0))) (hv : ∀ j, j < V.length → w.cell? ⟨gv, j, none⟩ = some (iv (V[j]?.getD 0))) :
    Calls Tryd.prog 12 #[.slice (some ⟨gv, 0, none⟩) V.length cv, .slice (some ⟨b, off, none⟩) hs.length c] w fun e w' => e = .returned (iv (wsum V hs)) ∧ w' = w := by
  obtain ⟨r, hr'⟩ : ∃ r, wsum V hs = r := ⟨_, rfl⟩
  rw [hr']
  have HR := Lib.hid hr'
  have HC := Lib.hid hc
  have HV := Lib.hid hv
  have HX := Lib.hid hr
  clear hr' hc hv hr
  go_enter Tryd.func12, Tryd.ntmps12
  go_wp2
  go_loopg [5, 10] hs.length (fun gg s5 s10 wr => ∃ k : Nat, k ≤ hs.length ∧ hs.length - k ≤ gg ∧ s10 = .int .i64 k ∧ wr = w ∧ s5 = iv (wsum V (hs.take k)))
  case atStart => exact ⟨0, Nat.zero_le _, by omega, rfl, rfl, rfl⟩
  case round =>
    obtain ⟨k, hk1, hg, rfl, rfl, rfl⟩ := hrel
    by_cases hlt : k < hs.length
    · have ca := HC.out k hlt
      have hw := wsum_take V hs k hlt
      have hx := HX.out (hs[k]?.getD 0) (by rw [List.getElem?_eq_getElem hlt]; exact List.getElem_mem hlt)
      generalize hy : hs[k]?.getD 0 = x at ca hw hx
      obtain ⟨x, rfl⟩ := Int.eq_ofNat_of_zero_le hx.1
      have hx1 : x < V.length := by omega
      have cv := HV.out x hx1
      have e1 : at0 V (x : Int) = V[x]?.getD 0 := by unfold at0; rw [Int.toNat_natCast, List.getD_eq_getElem?_getD]
      rw [e1] at hw
      generalize V[x]?.getD 0 = vx at cv hw
      generalize wsum V (hs.take k) = acc at hw ⊢
      have HW := Lib.hid (show wsum V (hs.take (k + 1)) = bits .xor .i64 acc vx from hw)
      clear hw hx hy e1
      go_wp2
      go_roundg (hs.length - (k + 1))
      case measure => omega
      case rel => exact ⟨k + 1, by omega, Nat.le_refl _, by go_num, rfl, by rw [HW.out]⟩
    · obtain rfl : k = hs.length := by omega
      have e := HR.out
      rw [← List.take_length (l := hs)] at e
      rw [e]
      clear e
      go_wp2
      go_ret
      exact ⟨rfl, rfl⟩
end Go.Proofs.YtkfbdhlfajdpgaaDoor.HSteps
namespace Go.Proofs.YtkfbdhlfajdpgaaDoor.HDrawn
set_option linter.unusedVariables false
open Go Go.Proofs.YtkfbdhlfajdpgaaDoor.HIter
variable {F : Fence} {n : Nat} {P : Program} {ops : Array Oper} {md : Region.Mode}

/-- Whichever ready operation is drawn next, the invariant goes on; where none is ready, what is wanted holds. -/
theorem wpAnyIn_inv {Q' : Exit → Act → World → Prop} (I : Array Bool → Act → World → Prop)
    (hend : ∀ listed a w, Region.ready md ops listed = [] → I listed a w → Q' .normal a w)
    (hstep : ∀ listed a w, I listed a w → ∀ i ∈ Region.ready md ops listed, wpOpIn F n P ops Q' i (I (listed.setIfInBounds i true)) a w)
    (M : Array Bool → Nat) (hM : ∀ listed i, i ∈ Region.ready md ops listed → M (listed.setIfInBounds i true) < M listed) (hM0 : ∀ listed, M listed = 0 → Region.ready md ops listed = []) :
    ∀ (f : Nat) (listed : Array Bool) (a : Act) (w : World), M listed ≤ f → I listed a w → wpAnyIn F n P md ops Q' f listed a w
  | 0, listed, a, w, hf, h => ⟨hM0 _ (by omega), hend _ _ _ (hM0 _ (by omega)) h⟩
  | f + 1, listed, a, w, hf, h =>
    ⟨fun h0 => hend _ _ _ h0 h, fun i hi => wpOpIn_mono' (fun a' w' h' => wpAnyIn_inv I hend hstep M hM hM0 f _ a' w' (by have := hM listed i hi; omega) h') (hstep listed a w h i hi)⟩

/-- How many operations are still to do. -/
def todo (listed : Array Bool) : Nat := listed.toList.countP (fun b => !b)
theorem countP_set : ∀ (l : List Bool) (i : Nat), l[i]? = some false → (l.set i true).countP (fun b => !b) + 1 = l.countP (fun b => !b)
  | [], i, h => by simp at h
  | b :: l, 0, h => by
    obtain rfl : b = false := by simpa using h
    simp
  | b :: l, i + 1, h => by
    have := countP_set l i (by simpa using h)
    rw [List.set_cons_succ, List.countP_cons, List.countP_cons]
    omega
theorem todo_set {listed : Array Bool} {i : Nat} (h : listed[i]? = some false) : todo (listed.setIfInBounds i true) + 1 = todo listed := by
  unfold todo
  rw [Array.toList_setIfInBounds]
  exact countP_set _ _ (by rw [Array.getElem?_toList]; exact h)
theorem ready_false {listed : Array Bool} {i : Nat} (h : i ∈ Region.ready md ops listed) : listed[i]? = some false := by
  unfold Region.ready at h
  have h1 := (List.mem_filter.1 h).2
  simp only [Bool.and_eq_true, Bool.not_eq_true'] at h1
  have h2 := h1.1
  rw [Array.getD_eq_getD_getElem?] at h2
  cases hl : listed[i]? with
  | none => rw [hl] at h2; simp at h2
  | some b => rw [hl] at h2; simp at h2; rw [h2]

/-- THE LAW: a drawn region by an invariant over the done operations. 'hfull': where nothing is ready, all are done (a closed fact of the region: an acyclic order). -/
theorem wpIn_region_inv {id : Nat} {Q : Exit → Act → World → Prop} {a : Act} {w : World} (hm : P.follows .mixedOrders = true) (I : Array Bool → Act → World → Prop)
    (h0 : I (Array.replicate ops.size false) a { w with drawn := w.drawn + 1 })
    (hend : ∀ listed a w, Region.ready .any ops listed = [] → I listed a w → Q .normal a w)
    (hstep : ∀ listed a w, I listed a w → ∀ i ∈ Region.ready .any ops listed, wpOpIn F n P ops Q i (I (listed.setIfInBounds i true)) a w) :
    (Code.region id ops true).wpIn F n P Q a w := by
  refine wpIn_region_any hm (wpAnyIn_inv I hend hstep todo (fun listed i hi => by have := todo_set (ready_false hi); omega) (fun listed hz => ?_) _ _ _ _ ?_ h0)
  · refine List.eq_nil_iff_forall_not_mem.2 (fun i hi => ?_)
    have := todo_set (ready_false hi)
    omega
  · unfold todo
    refine Nat.le_trans List.countP_le_length ?_
    simp
end Go.Proofs.YtkfbdhlfajdpgaaDoor.HDrawn
namespace Go.Proofs.YtkfbdhlfajdpgaaDoor.HSteps
set_option linter.unusedVariables false
set_option linter.unusedSimpArgs false
open Go Go.RowKit Go.Shelf Go.Lib Go.Sort Go.Proofs Go.Proofs.YtkfbdhlfajdpgaaDoor.HIter Go.Proofs.YtkfbdhlfajdpgaaDoor.HSpec Go.Proofs.YtkfbdhlfajdpgaaDoor.HNim Go.Proofs.YtkfbdhlfajdpgaaDoor.HRowOps Go.Proofs.YtkfbdhlfajdpgaaDoor.HDrawn Go.Proofs.YtkfbdhlfajdpgaaDoor.HDigits Go.Proofs.YtkfbdhlfajdpgaaDoor.HList

def isCells (o : Obj) : Prop := ∃ c e fr, o = .cells c e fr
/-- The blocks that stay as they are (cs), the box Bo of the list, the list, its rows. -/
structure InS (base : Nat) (cs : List (Nat × Obj)) (Bo : Nat) (L : List (List Int)) (D : Nat → Prop) (W : World) (vo : Value) (es : List Ent) : Prop where
  dom : ∀ i, D i ↔ (∃ o, (i, o) ∈ cs) ∨ i = Bo ∨ vo.ownBlock = some i ∨ ∃ e ∈ es, e.1 = i
  pin : ∀ p ∈ cs, W.heap[p.1]? = some p.2 ∧ isCells p.2 ∧ p.1 ≠ Bo ∧ vo.ownBlock ≠ some p.1
  box : W.heap[Bo]? = some (.cells #[vo] 28 (0, 0))
  out : OutS base W vo es
  key : es.map (fun e => e.2.2) = L
  lo : base ≤ Bo
theorem InS.lt {base : Nat} {cs : List (Nat × Obj)} {Bo : Nat} {L : List (List Int)} {D : Nat → Prop} {W : World} {vo : Value} {es : List Ent} (h : InS base cs Bo L D W vo es) (i : Nat) (hi : D i) : i < W.heap.size := by
  rcases (h.dom i).1 hi with ⟨o, ho⟩ | rfl | ho | ⟨e, he, rfl⟩
  · exact (Array.getElem?_eq_some_iff.1 (h.pin _ ho).1).1
  · exact (Array.getElem?_eq_some_iff.1 h.box).1
  · exact (ownsRow_lt h.out.own i ho).2
  · exact (h.out.fits e he).2.1.lt
theorem InS.move {base : Nat} {cs : List (Nat × Obj)} {Bo : Nat} {L : List (List Int)} {D : Nat → Prop} {W W' : World} {vo : Value} {es : List Ent} (h : InS base cs Bo L D W vo es) (hm : ∀ k, D k → W'.heap[k]? = W.heap[k]?) : InS base cs Bo L D W' vo es where
  dom := h.dom
  pin := fun p hp => ⟨(hm _ ((h.dom _).2 (.inl ⟨p.2, hp⟩))).trans (h.pin p hp).1, (h.pin p hp).2⟩
  box := (hm _ ((h.dom _).2 (.inr (.inl rfl)))).trans h.box
  out := ⟨ownsRow_any h.out.own (fun g hg => hm g ((h.dom _).2 (.inr (.inr (.inl hg))))), fun e he => ⟨(h.out.fits e he).1, (h.out.fits e he).2.1.of_block (hm _ ((h.dom _).2 (.inr (.inr (.inr ⟨e, he, rfl⟩))))), (h.out.fits e he).2.2⟩, h.out.nodup⟩
  key := h.key
  lo := h.lo
/-- What lay ahead of base is as it was. -/
theorem InS.below {base : Nat} {cs : List (Nat × Obj)} {Bo : Nat} {L L' : List (List Int)} {D D' : Nat → Prop} {W W' : World} {vo vo' : Value} {es es' : List Ent} (h : InS base cs Bo L D W vo es) (h' : InS base cs Bo L' D' W' vo' es') (hf : Fr D W W') (hb : base ≤ W.heap.size) : Below base W W' :=
  ⟨hf.os, hf.tape, hf.output, hf.size, fun k hk => by
    by_cases hd : D k
    · rcases (h.dom k).1 hd with ⟨o, ho⟩ | rfl | ho | ⟨e, he, rfl⟩
      · exact (h'.pin _ ho).1.trans (h.pin _ ho).1.symm
      · have := h.lo; omega
      · have := (ownsRow_lt h.out.own k ho).1; omega
      · have := (h.out.fits e he).1; omega
    · exact hf.block k (by omega) hd⟩
/-- A mark is none of these blocks. -/
theorem InS.mark {base : Nat} {cs : List (Nat × Obj)} {Bo : Nat} {L : List (List Int)} {D : Nat → Prop} {W : World} {vo : Value} {es : List Ent} (h : InS base cs Bo L D W vo es) {r : Nat} {ds : Option (List Deferred)} (hr : W.heap[r]? = some (.deferred ds)) : ¬ D r := by
  intro hd
  rcases (h.dom r).1 hd with ⟨o, ho⟩ | rfl | ho | ⟨e, he, rfl⟩
  · obtain ⟨h1, ⟨c, e, fr, h2⟩, _⟩ := h.pin _ ho
    rw [hr] at h1
    simp only at h1 h2
    rw [h2] at h1
    cases h1
  · rw [h.box] at hr; cases hr
  · obtain ⟨_, h2⟩ := h.out.own
    rcases h2 with ⟨rfl, _⟩ | ⟨g, cap, cur, rfl, _, h3, _⟩
    · simp [Value.ownBlock] at ho
    · have : g = r := by simpa [Value.ownBlock] using ho
      subst this
      rw [h3] at hr; cases hr
  · obtain ⟨_, ⟨cur, h3, _⟩, _⟩ := h.out.fits e he
    rw [h3] at hr; cases hr
def InP (base : Nat) (cs : List (Nat × Obj)) (Bo : Nat) (key : List (Int × Int) → List (List Int)) (D : Nat → Prop) (s : List (Int × Int)) (W : World) : Prop := ∃ vo es, InS base cs Bo (key s) D W vo es
theorem InP.stable (base : Nat) (cs : List (Nat × Obj)) (Bo : Nat) (key : List (Int × Int) → List (List Int)) : Stable (InP base cs Bo key) := fun D s A B ⟨vo, es, h⟩ _ hs => ⟨vo, es, h.move hs⟩
theorem InP.lies (base : Nat) (cs : List (Nat × Obj)) (Bo : Nat) (key : List (Int × Int) → List (List Int)) : Lies (InP base cs Bo key) := fun D s A ⟨vo, es, h⟩ k hk => h.lt k hk

/-- The state of the region that makes a position: which operations are done (b0 to b10), and what they left. -/
structure S19 (Wb : World) (hv : Value) (hs : List Int) (i : Nat) (p q : Int) (b0 b1 b2 b3 b4 b5 b6 b7 b8 b9 b10 : Bool) (v62 v63 v64 v65 v66 v67 v68 v69 v70 v71 v15 : Value) (g c bb : Nat) (W : World) : Prop where
  fr : Fr (fun _ => False) Wb W
  o51 : b5 = true → b1 = true
  o95 : b9 = true → b5 = true
  o98 : b9 = true → b8 = true
  x0 : b0 = true → v62 = hv
  x1 : b1 = true → b5 = false → v63 = .slice (some ⟨g, 0, none⟩) hs.length c
  r1 : b1 = true → b5 = false → Wb.heap.size ≤ g ∧ Row W 3 g c (hs.map iv)
  x2 : b2 = true → v64 = iv i
  x3 : b3 = true → v65 = iv i
  x4 : b4 = true → v66 = .int .i64 ((i : Int) + 1)
  x5 : b5 = true → b9 = false → v67 = .slice (some ⟨g, 0, none⟩) (hs.eraseIdx i).length c
  r5 : b5 = true → b9 = false → Wb.heap.size ≤ g ∧ Row W 3 g c ((hs.eraseIdx i).map iv)
  x6 : b6 = true → v68 = iv p
  x7 : b7 = true → v69 = iv q
  x8 : b8 = true → b9 = false → v70 = .slice (some ⟨bb, 0, none⟩) 2 2
  r8 : b8 = true → b9 = false → Wb.heap.size ≤ bb ∧ Row W 3 bb 2 [iv p, iv q]
  ne : b1 = true → b8 = true → b9 = false → g ≠ bb
  x9 : b9 = true → ∃ g' c', v71 = .slice (some ⟨g', 0, none⟩) (hs.eraseIdx i ++ [p, q]).length c' ∧ Wb.heap.size ≤ g' ∧ Row W 3 g' c' ((hs.eraseIdx i ++ [p, q]).map iv)
  x10 : b10 = true → v15 = v71 ∧ b9 = true

/-- One operation of a drawn region, as a list of one. -/
theorem opIn_of_list {F : Fence} {n : Nat} {P : Program} {ops : Array Oper} {i : Nat} {o : Oper} {a : Act} {W : World} {K : Act → World → Prop} {Q : Exit → Act → World → Prop} (ho : ops[i]? = some o) (h : wpListIn F n P ops (fun e a w => match e with | .normal => K a w | e => Q e a w) [o] a W) : wpOpIn F n P ops Q i K a W := by
  unfold wpOpIn
  simp only [ho]
  simp only [wpListIn] at h
  by_cases hw : Region.wanted o (yielded ops a.tmps) = true
  · rw [if_pos hw] at h ⊢
    exact h
  · rw [if_neg hw] at h ⊢
    exact h

theorem info22 : (Tryd.prog.info? 22).map (fun i => (i.zero, i.size, i.bytes)) = some (some (.slice none 0 0), 1, 24) := by kernel_rfl

/-- How many moves there are, at most. -/
theorem mvAt_len (dg left : Int) (h : left ≤ 3000) : (mvAt dg left).length ≤ 3001 := by
  unfold mvAt
  split
  · simp
  · split
    · split <;> simp
    · rw [List.length_append]
      have h1 : (if bits .and .i64 dg 2 = 0 then [] else [(left, (0 : Int))]).length ≤ 1 := by split <;> simp
      have h2 : (if bits .and .i64 dg 4 = 0 then [] else prs left (left / 2).toNat).length ≤ 1500 := by
        split
        · simp
        · simp [prs]; omega
      omega
theorem mvs_len (d : List Int) (m : Int) (h : m ≤ 3000) : ∀ k, (mvs d m k).length ≤ 3001 * k
  | 0 => by simp [mvs_zero]
  | k + 1 => by
    rw [mvs_succ, List.length_append]
    have := mvs_len d m h k
    have := mvAt_len (d[k]?.getD 0) (m - k - 1) (by omega)
    omega
theorem mv_len (d : List Int) (m : Int) (h : m ≤ 3000) (hd : d.length ≤ 100) : (mv d m).length ≤ 300100 := by
  have := mvs_len d m h d.length
  unfold mv; omega
theorem outsAt_len (d v hs : List Int) (i : Nat) (h : ∀ x ∈ hs, 0 ≤ x ∧ x ≤ 200) (hd : d.length ≤ 100) : (outsAt d v hs i).length ≤ 300100 := by
  unfold outsAt
  rw [List.length_map]
  refine Nat.le_trans (List.length_filter_le _ _) (mv_len d _ ?_ hd)
  rw [List.getD_eq_getElem?_getD]
  cases hh : hs[i]? with
  | none => simp
  | some x => have := h x (List.mem_of_getElem? hh); simp; omega
theorem outsTo_len (d v hs : List Int) (h : ∀ x ∈ hs, 0 ≤ x ∧ x ≤ 200) (hd : d.length ≤ 100) : ∀ k, (outsTo d v hs k).length ≤ 300100 * k
  | 0 => by simp [outsTo]
  | k + 1 => by
    rw [outsTo_succ, List.length_append]
    have := outsTo_len d v hs h hd k
    have := outsAt_len d v hs k h hd
    omega
end Go.Proofs.YtkfbdhlfajdpgaaDoor.HSteps
