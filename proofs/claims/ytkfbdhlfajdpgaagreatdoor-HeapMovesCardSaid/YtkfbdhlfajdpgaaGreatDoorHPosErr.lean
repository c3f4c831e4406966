/- heap.Moves: the errors, no heaps at all, and all cases in one contract. -/
import Derived.Test.YtkfbdhlfajdpgaaGreatDoorHPos
import Derived.Test.YtkfbdhlfajdpgaaGreatDoorWApart
namespace Go.Proofs.YtkfbdhlfajdpgaaGreatDoor.HSteps
set_option linter.unusedVariables false
set_option linter.unusedSimpArgs false
open Go Go.RowKit Go.Shelf Go.Lib Go.Sort Go.Proofs Go.Proofs.YtkfbdhlfajdpgaaGreatDoor.HIter Go.Proofs.YtkfbdhlfajdpgaaGreatDoor.HSpec Go.Proofs.YtkfbdhlfajdpgaaGreatDoor.HNim Go.Proofs.YtkfbdhlfajdpgaaGreatDoor.HRowOps Go.Proofs.YtkfbdhlfajdpgaaGreatDoor.HDigits Go.Proofs.YtkfbdhlfajdpgaaGreatDoor.HCode Go.Proofs.YtkfbdhlfajdpgaaGreatDoorW.PrintWords

theorem chk_box (s : ByteArray) (v : Value) (w : World) (hchk : ∀ W, Calls Tryz.prog 9 #[.string s] W fun e w' => e = .returned (.int .i64 0) ∧ Below W.heap.size W w') :
    Calls Tryz.prog 9 #[.string s] (w.alloc (.cells #[v] 22)) fun e w' => e = .returned (.int .i64 0) ∧ Below w.heap.size w w' ∧ w'.heap[w.heap.size]? = some (.cells #[v] 22 (0, 0)) := by
  refine (hchk _).mono ?_
  rintro e w1 ⟨rfl, hb1⟩
  have hb1 : Below (w.heap.size + 1) (w.alloc (.cells #[v] 22)) w1 := by simpa using hb1
  exact ⟨rfl, ((Below.refl _ w).alloc (Nat.le_refl _) _).trans (hb1.mono (by omega)), (hb1.block _ (by omega)).trans (World.alloc_heap_new w _)⟩

set_option maxRecDepth 100000 in
set_option maxHeartbeats 4000000 in
theorem moves_long (s : ByteArray) (hchk : ∀ W, Calls Tryz.prog 9 #[.string s] W fun e w' => e = .returned (.int .i64 0) ∧ Below W.heap.size W w')
    (A : Option Addr) (n c1 : Nat) (hn : 10 < n) (w : World) :
    Calls Tryz.prog 5 #[.string s, .slice A n c1] w fun e w' => e = .returned (.tuple #[.slice none 0 0, .int .i64 2]) ∧ Below w.heap.size w w' := by
  have hc := Lib.hid (chk_box s (.slice A n c1) w hchk)
  have hgt : (10 : Int) < (n : Int) := by omega
  clear hchk
  go_enter Tryz.func5, Tryz.ntmps5
  go_wp2_with (go_at_call 9; refine hc.out.mono ?_; rintro e w1 ⟨rfl, hB1, hbx1⟩; have hx1 := cell_of_one hbx1; have HB1 := Lib.hid hB1; clear hB1 hbx1)
  refine bodyPost_ret (results_list (rs := [.tmp 4, .tmp 5]) rfl (by simp) (.tmp (.tmp .nil))) rfl ?_
  exact ⟨rfl, HB1.out⟩

set_option maxRecDepth 100000 in
set_option maxHeartbeats 4000000 in
theorem moves_range (s : ByteArray) (hchk : ∀ W, Calls Tryz.prog 9 #[.string s] W fun e w' => e = .returned (.int .i64 0) ∧ Below W.heap.size W w')
    (b off c1 : Nat) (hs : List Int) (hs2 : hs.length ≤ 10) (hany : (hs.any fun x => decide (x < 0) || decide (x > 200)) = true) (w : World) (hb : b < w.heap.size)
    (hcell : ∀ j, j < hs.length → w.cell? ⟨b, off + j, none⟩ = some (iv (hs[j]?.getD 0))) :
    Calls Tryz.prog 5 #[.string s, .slice (some ⟨b, off, none⟩) hs.length c1] w fun e w' => e = .returned (.tuple #[.slice none 0 0, .int .i64 1]) ∧ Below w.heap.size w w' := by
  have hc := Lib.hid (chk_box s (.slice (some ⟨b, off, none⟩) hs.length c1) w hchk)
  have hgt : ¬ (10 : Int) < (hs.length : Int) := by omega
  have hcont : ∀ W, Below w.heap.size w W → Calls Tryz.prog 10 #[.slice (some ⟨b, off, none⟩) hs.length c1, .func (.func 11) #[] #[]] W fun e w' => e = .returned (.bool true) ∧ ∃ q, w' = W.drewN q := fun W hW => by
    have := contains_step b off c1 hs W (by omega) (fun j hj => (hW.cell (p := ⟨b, off + j, none⟩) hb).trans (hcell j hj))
    rwa [hany] at this
  have HCO := Lib.hid hcont
  clear hchk hcont hcell hany
  go_enter Tryz.func5, Tryz.ntmps5
  go_wp2_with (first
    | (go_at_call 9; refine hc.out.mono ?_; rintro e w1 ⟨rfl, hB1, hbx1⟩; have hx1 := cell_of_one hbx1; have HB1 := Lib.hid hB1; clear hB1 hbx1)
    | (go_at_call 10; refine (HCO.out _ HB1.out).mono ?_; rintro e w' ⟨rfl, q1, rfl⟩))
  refine bodyPost_ret (results_list (rs := [.tmp 4, .tmp 5]) rfl (by simp) (.tmp (.tmp .nil))) rfl ?_
  exact ⟨rfl, Below.trans HB1.out (pw_below_drewN (Below.refl _ _) q1 |>.mono HB1.out.size)⟩

theorem without_none (A : Option Addr) (v : Value) (c : Nat) (w : World) : Calls Tryz.prog 13 #[v, .slice A 0 c] w fun e w' => e = .returned (.int .i64 0) ∧ w' = w := by
  go_enter Tryz.func13, Tryz.ntmps13
  go_wp2
  refine wp_loop_rounds 1 ?_
  rw [rounds_succ]
  go_wp2
  go_ret
  exact ⟨rfl, rfl⟩

set_option maxRecDepth 100000 in
set_option maxHeartbeats 4000000 in
theorem moves_nil (s : ByteArray) (hcode : isCode s = true) (hchk : ∀ W, Calls Tryz.prog 9 #[.string s] W fun e w' => e = .returned (.int .i64 0) ∧ Below W.heap.size W w')
    (A : Option Addr) (c1 : Nat) (w : World) :
    Calls Tryz.prog 5 #[.string s, .slice A 0 c1] w fun e w' => e = .returned (.tuple #[.slice none 0 0, .int .i64 0]) ∧ Below w.heap.size w w' := by
  have hc := Lib.hid (chk_box s (.slice A 0 c1) w hchk)
  have hl : ∀ W, Calls Tryz.prog 12 #[.string s, .int .i64 200] W fun e w' => ∃ gv n cv, e = .returned (.slice (some ⟨gv, 0, none⟩) n cv) ∧ Below W.heap.size W w' := fun W => (list200 s hcode _ rfl W).mono (fun e w' ⟨gv, cv, h1, _, _, h2⟩ => ⟨gv, _, cv, h1, h2⟩)
  have HL := Lib.hid hl
  have HCODE := Lib.hid hcode
  have hcf := fun W => Tryz.slices_ContainsFunc_empty (α := Int) A c1 (.func (.func 11) #[] #[]) W
  have HCF := Lib.hid hcf
  clear hchk hl hcode hcf
  go_enter Tryz.func5, Tryz.ntmps5
  go_wp2_with (first
    | (go_at_call 9; refine hc.out.mono ?_; rintro e w1 ⟨rfl, hB1, hbx1⟩; have hx1 := cell_of_one hbx1; have HB1 := Lib.hid hB1; have HX1 := Lib.hid hbx1; clear hB1 hbx1)
    | (go_at_call 10; refine (HCF.out _).mono ?_; rintro e w' ⟨rfl, rfl⟩)
    | (go_at_call 12; refine (HL.out _).mono ?_; rintro e w2 ⟨gv, nv, cv, rfl, hb2⟩; have hx2 := cell_of_one ((hb2.block _ (World.block_lt_of_cell? _ _ hx1)).trans HX1.out); have hx3 := Lib.cell?_alloc_some (.cells #[.slice (some ⟨gv, 0, none⟩) nv cv] 22) hx2; have HB2 : Hid (Below w.heap.size w w2) := HB1.out.trans (hb2.mono HB1.out.size); clear hb2)
    | (go_at_call 13; refine (without_none _ _ _ _).mono ?_; rintro e w' ⟨rfl, rfl⟩; have hx4 := Lib.cell?_alloc_some (.cells #[.slice none 0 0] 24) hx3))
  refine wp_loop_rounds 1 ?_
  rw [rounds_succ]
  go_wp2_with (first
    | (go_at_call 21; refine (sortFunc_none _ _ _ _).mono ?_; rintro e w' ⟨rfl, rfl⟩)
    | (go_at_call 23; refine (compact_none _ _ _ _).mono ?_; rintro e w' ⟨rfl, rfl⟩))
  refine bodyPost_ret (results_list (rs := [.tmp 4, .tmp 5]) rfl (by simp) (.tmp (.tmp .nil))) rfl ?_
  exact ⟨rfl, HB2.out.trans ((((Below.refl _ w2).alloc (Nat.le_refl _) _).alloc (by simp) _).mono HB2.out.size)⟩

/-- The rows that are put out, in the print's words. -/
theorem outS_S {base : Nat} {W : World} {v : Value} {es : List Ent} (h : OutS base W v es) : Kd.S (Kd.slice 3 (Kd.int .i64)) 22 W base (fun _ => True) v (es.map (fun e => e.2.2)) := by
  have hvb : ∀ e ∈ es, some e.1 ≠ v.ownBlock := by
    intro e he hh
    rcases h.own.2 with ⟨h2, _⟩ | ⟨g, cap, cur, h2, _, h3, _⟩
    · rw [h2] at hh; simp [Value.ownBlock] at hh
    · rw [h2] at hh
      have : e.1 = g := by simpa [Value.ownBlock] using hh
      exact (h.fits e he).ne h3 (by decide) this
  obtain ⟨f, hf⟩ := Kd.reps_tag (d := Kd.slice 3 (Kd.int .i64)) (w := W) (base := base) (ok := fun k => True ∧ some k ≠ v.ownBlock) (xs := es.map (fun e => e.2.2)) (inner := es.map encE)
    (fun j k => ∃ e, es[j]? = some e ∧ e.1 = k) (by
      rintro i j k ⟨e, he, rfl⟩ ⟨e', he', hk⟩
      have h1 := (List.getElem?_eq_some_iff.1 he).1
      have h2 := (List.getElem?_eq_some_iff.1 he').1
      have hnd := h.nodup
      refine Classical.byContradiction fun hne => ?_
      have hp := List.pairwise_iff_getElem.1 hnd
      have g1 := (List.getElem?_eq_some_iff.1 he).2
      have g2 := (List.getElem?_eq_some_iff.1 he').2
      rcases Nat.lt_or_gt_of_ne hne with hlt | hlt
      · exact hp i j (by simpa using h1) (by simpa using h2) hlt (by simp only [List.getElem_map, g1, g2, hk])
      · exact hp j i (by simpa using h2) (by simpa using h1) hlt (by simp only [List.getElem_map, g1, g2, hk]))
    (by
      rintro j k ⟨e, he, rfl⟩
      exact ⟨trivial, hvb e (List.mem_of_getElem? he)⟩)
    (by simp [Kd.slice]) (by
      intro j x hx
      rw [List.getElem?_map] at hx
      obtain ⟨e, he, rfl⟩ := Option.map_eq_some_iff.1 hx
      have hfit := h.fits e (List.mem_of_getElem? he)
      refine ⟨encE e, ?_, ⟨?_, e.2.2.map iv, ?_, ?_, ?_⟩⟩
      · show ((es.map encE).drop (j * 1)).take 1 = [encE e]
        have hj := (List.getElem?_eq_some_iff.1 he)
        rw [Nat.mul_one, List.drop_eq_getElem_cons (by simpa using hj.1)]
        simp [hj.2]
      · intro k hk
        exact ⟨e, he, by simpa [encE, Value.ownBlock] using hk⟩
      · have := hfit.2.1.owns hfit.1
        rw [List.length_map] at this
        exact this
      · simp [Kd.int, Kd.scalar]
      · intro i y hy
        show ((e.2.2.map iv).drop (i * 1)).take 1 = [Value.int .i64 y]
        have hi := (List.getElem?_eq_some_iff.1 hy)
        rw [Nat.mul_one, List.drop_eq_getElem_cons (by simpa using hi.1)]
        simp [hi.2])
  refine ⟨f, fun k _ => trivial, es.map encE, ?_, hf⟩
  show W.ownsRow base 22 1 v _ _
  rw [List.length_zipIdx, List.length_map]
  exact h.own

def outR (l : List Int) : Bool := l.any fun x => decide (x < 0) || decide (x > 200)
/-- What heap.Moves returns at a code. -/
def movesF (s : ByteArray) (l : List Int) : List (List Int) × Int := if 10 < l.length then ([], 2) else if outR l = true then ([], 1) else (movesOf (digs s) (vals (digs s) 200) l, 0)

theorem moves_any_code (s : ByteArray) (hcode : isCode s = true) (hchk : ∀ W, Calls Tryz.prog 9 #[.string s] W fun e w' => e = .returned (.int .i64 0) ∧ Below W.heap.size W w')
    (A1 : Option Addr) (c1 : Nat) (l : List Int) (w : World) (hr1 : Kd.C (Kd.int .i64) w A1 l.length l) :
    Calls Tryz.prog 5 #[.string s, .slice A1 l.length c1] w fun e w' => ∃ v0_ : Value, e = .returned (.tuple #[v0_, .int .i64 (movesF s l).2]) ∧ Kd.S (Kd.slice 3 (Kd.int .i64)) 22 w' w.heap.size (fun _ => True) v0_ (movesF s l).1 ∧ Below w.heap.size w w' := by
  by_cases h1 : 10 < l.length
  · have e : movesF s l = ([], 2) := by unfold movesF; rw [if_pos h1]
    rw [e]
    refine (moves_long s hchk A1 l.length c1 h1 w).mono ?_
    rintro e w' ⟨rfl, hb⟩
    exact ⟨_, rfl, Kd.S_nil _ _ _ _ _, hb⟩
  · by_cases h0 : l.length = 0
    · have hl : l = [] := List.eq_nil_of_length_eq_zero h0
      subst hl
      have e : movesF s [] = ([], 0) := by
        unfold movesF outR movesOf outs outsTo lsort
        simp [dedup]
      rw [e]
      refine (moves_nil s hcode hchk A1 c1 w).mono ?_
      rintro e w' ⟨rfl, hb⟩
      exact ⟨_, rfl, Kd.S_nil _ _ _ _ _, hb⟩
    · obtain ⟨ad, rfl, hcell⟩ := hr1.2.2 (by omega)
      have hcell' : ∀ j, j < l.length → w.cell? (ad.add j) = some (iv (l[j]?.getD 0)) := fun j hj => by
        obtain ⟨c, hc1, hc2, hc3⟩ := hcell j _ (List.getElem?_eq_getElem hj)
        have hc2 : c = [Value.int .i64 l[j]] := hc2
        subst hc2
        have := hc3 0 _ rfl
        rw [show j * (Kd.int .i64).sz + 0 = j from by simp [Kd.int, Kd.scalar]] at this
        rw [this, List.getElem?_eq_getElem hj]; rfl
      obtain ⟨b, off, sp⟩ := ad
      have hsp : sp = none := by
        have h := hcell' 0 (by omega)
        cases sp with
        | none => rfl
        | some k =>
          exfalso
          unfold World.cell? Addr.add at h
          simp at h
          split at h <;> simp at h
      subst hsp
      have hc : ∀ j, j < l.length → w.cell? ⟨b, off + j, none⟩ = some (iv (l[j]?.getD 0)) := fun j hj => by
        have := hcell' j hj
        rwa [Addr.add_lit] at this
      have hb : b < w.heap.size := World.block_lt_of_cell? w _ (hc 0 (by omega))
      by_cases h2 : outR l = true
      · have e : movesF s l = ([], 1) := by unfold movesF; rw [if_neg h1, if_pos h2]
        rw [e]
        refine (moves_range s hchk b off c1 l (by omega) h2 w hb hc).mono ?_
        rintro e w' ⟨rfl, hb⟩
        exact ⟨_, rfl, Kd.S_nil _ _ _ _ _, hb⟩
      · have e : movesF s l = (movesOf (digs s) (vals (digs s) 200) l, 0) := by unfold movesF; rw [if_neg h1, if_neg h2]
        rw [e]
        have hr : ∀ x ∈ l, 0 ≤ x ∧ x ≤ 200 := by
          have h2 : outR l = false := by simpa using h2
          unfold outR at h2
          rw [List.any_eq_false] at h2
          intro x hx
          have := h2 x hx
          simp at this
          omega
        refine (callsIn_wide.1 (moves_in Fence.wide 5 Wide.wide (fun _ => trivial) rfl rfl s hcode _ _ rfl rfl hchk b off c1 l (by omega) (by omega) hr w hc)).mono ?_
        rintro e w' ⟨v, es, rfl, ho, hk, hb⟩
        have := outS_S ho
        rw [hk] at this
        exact ⟨v, rfl, this, hb⟩
end Go.Proofs.YtkfbdhlfajdpgaaGreatDoor.HSteps
