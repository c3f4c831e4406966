/- The digits of a code. -/
import Derived.Test.YtkfbdhlfajdpgaaGreatDoorHSmall
import Derived.Lib.OthersKept
import Derived.WalkSmall
import Derived.Maps.AppendAt
import Derived.RangeFuncBox
namespace Go.Proofs.YtkfbdhlfajdpgaaGreatDoor.HDigits
set_option linter.unusedVariables false
set_option linter.unusedSimpArgs false
open Go Go.RowKit

theorem info3 : (Tryz.prog.info? 3).map (fun i => (i.zero, i.size, i.bytes)) = some (some (.int .i64 0), 1, 8) := by kernel_rfl

theorem ownsRow_base {w : World} {base base' : Nat} {e : TypeId} {size : Nat} {v : Value} {n : Nat} {xs : List Value} (h : w.ownsRow base e size v n xs) (hb : base' ≤ base) : w.ownsRow base' e size v n xs := by
  obtain ⟨h1, h2⟩ := h
  refine ⟨h1, ?_⟩
  rcases h2 with h2 | ⟨g, cap, cur, a, b, c, d⟩
  · exact .inl h2
  · exact .inr ⟨g, cap, cur, a, by omega, c, d⟩

set_option maxRecDepth 100000 in
set_option maxHeartbeats 2000000 in
theorem digits_any (s u : ByteArray) (d : List Int) (w : World) (h2 : 2 ≤ s.size) (hs : s.size ≤ 1000) (hu : s.extract 2 s.size = u) (hl : u.size = d.length)
    (hd : ∀ (j : Nat) (h : j < u.size), ((u[j]'h).toNat : Int) = 48 + d[j]?.getD 0) (hr : ∀ j : Nat, 0 ≤ d[j]?.getD 0 ∧ d[j]?.getD 0 ≤ 7) :
    Calls Tryz.prog 15 #[.string s] w fun e w' => ∃ v, e = .returned v ∧ w'.ownsRow w.heap.size 3 1 v d.length (d.map (Value.int .i64)) ∧ Below w.heap.size w w' := by
  obtain ⟨i0, hi, hz0, hz1, hz2⟩ := info_parts info3
  have Hd := Lib.hid hd
  have Hl := Lib.hid hl
  have Hr := Lib.hid hr
  have hul : u.size ≤ 1000 := by rw [← hu, ByteArray.size_extract]; omega
  clear hd hl hr
  have Hu := Lib.hid hu
  clear hu
  have hsl := fun (W : World) => (show (Instr.slice 9 (.string s) (some (.int .i64 2)) none none).run Tryz.prog W = .ok (.string u) W from by
    rw [← Hu.out]
    exact run_slice_string_l W 9 s Tryz.underlying9 .i64 2 (by omega) (by omega))
  go_enter Tryz.func15, Tryz.ntmps15
  go_wp2
  go_loopw [3] (fun v wr => ∃ (pos : Nat), wr.heap[w.heap.size]? = some (.stringIter u pos) ∧ wr.ownsRow (w.heap.size + 1) 3 1 v pos ((d.take pos).map (Value.int .i64)) ∧ Below w.heap.size w wr ∧ pos ≤ u.size) (fun _ wr => u.size - wr.iterPos w.heap.size)
  case atStart => exact ⟨0, World.iter_heap w u 0, World.ownsRow_nil _ _ _ _, (Below.refl _ _).alloc (Nat.le_refl _) _, by omega⟩
  case round =>
    obtain ⟨pos, hit, hown, hbw, hb⟩ := hrel
    have hpos0 := iterPos_of hit
    by_cases hp : pos < u.size
    · obtain ⟨x, hx⟩ : ∃ x : Nat, (u[pos]'hp).toNat = x := ⟨_, rfl⟩
      have hxd := Hd.out pos hp
      have hr7 := Hr.out pos
      rw [hx] at hxd
      have hx1 : 48 ≤ x := by omega
      have hx2 : x ≤ 55 := by omega
      have hnx : ∀ ty, (Instr.next (.pointer (some ⟨w.heap.size, 0, none⟩)) true ty).run Tryz.prog wr = .ok (.tuple #[.bool true, .int .i64 pos, .int .i32 x]) (wr.iterAt w.heap.size u (pos + 1)) := fun ty => by
        rw [← hx]; exact Lib.run_next_ascii_at wr w.heap.size u pos ty hit hp (by rw [hx]; omega)
      have hit2 := Lib.iterAt_heap wr w.heap.size u pos (pos + 1) hit
      have hbw2 := Lib.below_iterAt hbw (k := w.heap.size) (Nat.le_refl _) u (pos + 1)
      have hown2 := ownsRow_iterAt hown (k := w.heap.size) (by omega) u (pos + 1)
      obtain ⟨W1, hW1⟩ : ∃ W1, W1 = wr.iterAt w.heap.size u (pos + 1) := ⟨_, rfl⟩
      rw [← hW1] at hnx hit2 hbw2 hown2
      have Hsz : Hid (w.heap.size + 1 ≤ W1.heap.size) := by have := (Array.getElem?_eq_some_iff.1 hit2).1; show _ ≤ _; omega
      have HX : Hid ((d.take (pos + 1)).map (Value.int .i64) = (d.take pos).map (Value.int .i64) ++ [.int .i64 ((x : Int) - 48)]) := by
        have hlt : pos < d.length := by have := Hl.out; omega
        show _ = _
        rw [List.take_succ_eq_append_getElem hlt, List.map_append]
        have : d[pos]?.getD 0 = d[pos] := by rw [List.getElem?_eq_getElem hlt]; rfl
        rw [this] at hxd
        have : (x : Int) - 48 = d[pos] := by omega
        rw [this]; rfl
      clear hW1 hit hown hbw hx hxd hr7
      have hit3 := Lib.hid hit2
      clear hit2
      go_wp2_with (at_builtin; refine wpList_append_own _ rfl _ _ 22 rfl (w.heap.size + 1) 3 i0 (.int .i64 0) 1 8 Tryz.underlying22 hi hz0 hz1 hz2 rfl (by decide) _ _ _ rfl (hown2.alloc _) ⟨W1.heap.size, 0, none⟩ 1 1 [.int .i64 ((x : Int) - 48)] rfl rfl (cell_one_new _ _ _) (by simp [Value.oneCell']) (by unfold maxLen; omega) (by omega) (by have := Hsz.out; simp; omega) ?_; intro v' w1 hown' hgrow _; obtain ⟨g', cap', rfl⟩ := ownsRow_succ hown')
      have hbw3 : Below w.heap.size w w1 := (hbw2.alloc (by have := Hsz.out; omega) _).grown hgrow (by have := Hsz.out; simp; omega) (fun k hk => by have := (hown2.lt k hk).1; omega)
      have hit4 : w1.heap[w.heap.size]? = some (.stringIter u (pos + 1)) := by
        rw [hgrow.block w.heap.size (by have := Hsz.out; simp; omega) (fun e => by have := (hown2.lt _ e.symm).1; omega)]
        exact (Below.heap_alloc _ _ _ (by have := Hsz.out; omega)).trans hit3.out
      go_roundw
      case rel => exact ⟨pos + 1, hit4, by rw [HX.out]; exact hown', hbw3, by omega⟩
      case measure => rw [iterPos_of hit4, hpos0]; omega
    · have hnx : ∀ ty, (Instr.next (.pointer (some ⟨w.heap.size, 0, none⟩)) true ty).run Tryz.prog wr = .ok (.tuple #[.bool false]) wr := fun ty => Lib.run_next_end_at wr w.heap.size u pos ty hit hp
      have hfin : wr.ownsRow w.heap.size 3 1 u3 d.length (d.map (Value.int .i64)) := by
        have e : pos = d.length := by have := Hl.out; omega
        rw [e, List.take_length] at hown
        exact ownsRow_base hown (by omega)
      clear hown hit hpos0
      go_wp2
      go_ret
      exact ⟨_, rfl, hfin, hbw⟩
end Go.Proofs.YtkfbdhlfajdpgaaGreatDoor.HDigits
