/- What heap.Moves holds while it goes: its boxes, and the rows that it puts out. -/
import Derived.Test.YtkfbdhlfajdpgaaGreatDoorHPut
import Derived.Test.YtkfbdhlfajdpgaaGreatDoorHWithout
import Derived.Test.YtkfbdhlfajdpgaaGreatDoorHCode
import Derived.Test.YtkfbdhlfajdpgaaGreatDoorHDrawInv
namespace Go.Proofs.YtkfbdhlfajdpgaaGreatDoor.HSteps
set_option linter.unusedVariables false
set_option linter.unusedSimpArgs false
open Go Go.RowKit Go.Shelf Go.Lib Go.Sort Go.Proofs Go.Proofs.YtkfbdhlfajdpgaaGreatDoor.HIter Go.Proofs.YtkfbdhlfajdpgaaGreatDoor.HSpec Go.Proofs.YtkfbdhlfajdpgaaGreatDoor.HNim Go.Proofs.YtkfbdhlfajdpgaaGreatDoor.HRowOps Go.Proofs.YtkfbdhlfajdpgaaGreatDoor.HDrawn Go.Proofs.YtkfbdhlfajdpgaaGreatDoor.HDigits Go.Proofs.YtkfbdhlfajdpgaaGreatDoor.HList

def isCells (o : Obj) : Prop := ∃ c e fr, o = .cells c e fr
/-- The blocks that stay as they are (cs), the box Bo of the list, the list, its rows. -/
structure InS (base : Nat) (cs : List (Nat × Obj)) (Bo : Nat) (L : List (List Int)) (D : Nat → Prop) (W : World) (vo : Value) (es : List Ent) : Prop where
  dom : ∀ i, D i ↔ (∃ o, (i, o) ∈ cs) ∨ i = Bo ∨ vo.ownBlock = some i ∨ ∃ e ∈ es, e.1 = i
  pin : ∀ p ∈ cs, W.heap[p.1]? = some p.2 ∧ isCells p.2 ∧ p.1 ≠ Bo ∧ vo.ownBlock ≠ some p.1
  box : W.heap[Bo]? = some (.cells #[vo] 24 (0, 0))
  out : OutS base W vo es
  key : es.map (fun e => e.2.2) = L
  lo : base ≤ Bo
theorem InS.lt {base : Nat} {cs : List (Nat × Obj)} {Bo : Nat} {L : List (List Int)} {D : Nat → Prop} {W : World} {vo : Value} {es : List Ent} (h : InS base cs Bo L D W vo es) (i : Nat) (hi : D i) : i < W.heap.size := by
  rcases (h.dom i).1 hi with ⟨o, ho⟩ | rfl | ho | ⟨e, he, rfl⟩
  · exact (Array.getElem?_eq_some_iff.1 (h.pin _ ho).1).1
  · exact (Array.getElem?_eq_some_iff.1 h.box).1
  · exact (ownsRow_lt h.out.own i ho).2
  · exact (h.out.fits e he).2.1.lt
theorem InS.move {base : Nat} {cs : List (Nat × Obj)} {Bo : Nat} {L : List (List Int)} {D : Nat → Prop} {W W' : World} {vo : Value} {es : List Ent} (h : InS base cs Bo L D W vo es) (hm : ∀ k, D k → W'.heap[k]? = W.heap[k]?) : InS base cs Bo L D W' vo es where
  dom := h.dom
  pin := fun p hp => ⟨(hm _ ((h.dom _).2 (.inl ⟨p.2, hp⟩))).trans (h.pin p hp).1, (h.pin p hp).2⟩
  box := (hm _ ((h.dom _).2 (.inr (.inl rfl)))).trans h.box
  out := ⟨ownsRow_any h.out.own (fun g hg => hm g ((h.dom _).2 (.inr (.inr (.inl hg))))), fun e he => ⟨(h.out.fits e he).1, (h.out.fits e he).2.1.of_block (hm _ ((h.dom _).2 (.inr (.inr (.inr ⟨e, he, rfl⟩))))), (h.out.fits e he).2.2⟩, h.out.nodup⟩
  key := h.key
  lo := h.lo
/-- What lay ahead of base is as it was. -/
theorem InS.below {base : Nat} {cs : List (Nat × Obj)} {Bo : Nat} {L L' : List (List Int)} {D D' : Nat → Prop} {W W' : World} {vo vo' : Value} {es es' : List Ent} (h : InS base cs Bo L D W vo es) (h' : InS base cs Bo L' D' W' vo' es') (hf : Fr D W W') (hb : base ≤ W.heap.size) : Below base W W' :=
  ⟨hf.os, hf.tape, hf.output, hf.size, fun k hk => by
    by_cases hd : D k
    · rcases (h.dom k).1 hd with ⟨o, ho⟩ | rfl | ho | ⟨e, he, rfl⟩
      · exact (h'.pin _ ho).1.trans (h.pin _ ho).1.symm
      · have := h.lo; omega
      · have := (ownsRow_lt h.out.own k ho).1; omega
      · have := (h.out.fits e he).1; omega
    · exact hf.block k (by omega) hd⟩
/-- A mark is none of these blocks. -/
theorem InS.mark {base : Nat} {cs : List (Nat × Obj)} {Bo : Nat} {L : List (List Int)} {D : Nat → Prop} {W : World} {vo : Value} {es : List Ent} (h : InS base cs Bo L D W vo es) {r : Nat} {ds : Option (List Deferred)} (hr : W.heap[r]? = some (.deferred ds)) : ¬ D r := by
  intro hd
  rcases (h.dom r).1 hd with ⟨o, ho⟩ | rfl | ho | ⟨e, he, rfl⟩
  · obtain ⟨h1, ⟨c, e, fr, h2⟩, _⟩ := h.pin _ ho
    rw [hr] at h1
    simp only at h1 h2
    rw [h2] at h1
    cases h1
  · rw [h.box] at hr; cases hr
  · obtain ⟨_, h2⟩ := h.out.own
    rcases h2 with ⟨rfl, _⟩ | ⟨g, cap, cur, rfl, _, h3, _⟩
    · simp [Value.ownBlock] at ho
    · have : g = r := by simpa [Value.ownBlock] using ho
      subst this
      rw [h3] at hr; cases hr
  · obtain ⟨_, ⟨cur, h3, _⟩, _⟩ := h.out.fits e he
    rw [h3] at hr; cases hr
def InP (base : Nat) (cs : List (Nat × Obj)) (Bo : Nat) (key : List (Int × Int) → List (List Int)) (D : Nat → Prop) (s : List (Int × Int)) (W : World) : Prop := ∃ vo es, InS base cs Bo (key s) D W vo es
theorem InP.stable (base : Nat) (cs : List (Nat × Obj)) (Bo : Nat) (key : List (Int × Int) → List (List Int)) : Stable (InP base cs Bo key) := fun D s A B ⟨vo, es, h⟩ _ hs => ⟨vo, es, h.move hs⟩
theorem InP.lies (base : Nat) (cs : List (Nat × Obj)) (Bo : Nat) (key : List (Int × Int) → List (List Int)) : Lies (InP base cs Bo key) := fun D s A ⟨vo, es, h⟩ k hk => h.lt k hk

/-- The state of the region that makes a position: which operations are done (b0 to b10), and what they left. -/
structure S19 (Wb : World) (hv : Value) (hs : List Int) (i : Nat) (p q : Int) (b0 b1 b2 b3 b4 b5 b6 b7 b8 b9 b10 : Bool) (v62 v63 v64 v65 v66 v67 v68 v69 v70 v71 v15 : Value) (g c bb : Nat) (W : World) : Prop where
  fr : Fr (fun _ => False) Wb W
  o51 : b5 = true → b1 = true
  o95 : b9 = true → b5 = true
  o98 : b9 = true → b8 = true
  x0 : b0 = true → v62 = hv
  x1 : b1 = true → b5 = false → v63 = .slice (some ⟨g, 0, none⟩) hs.length c
  r1 : b1 = true → b5 = false → Wb.heap.size ≤ g ∧ Row W 3 g c (hs.map iv)
  x2 : b2 = true → v64 = iv i
  x3 : b3 = true → v65 = iv i
  x4 : b4 = true → v66 = .int .i64 ((i : Int) + 1)
  x5 : b5 = true → b9 = false → v67 = .slice (some ⟨g, 0, none⟩) (hs.eraseIdx i).length c
  r5 : b5 = true → b9 = false → Wb.heap.size ≤ g ∧ Row W 3 g c ((hs.eraseIdx i).map iv)
  x6 : b6 = true → v68 = iv p
  x7 : b7 = true → v69 = iv q
  x8 : b8 = true → b9 = false → v70 = .slice (some ⟨bb, 0, none⟩) 2 2
  r8 : b8 = true → b9 = false → Wb.heap.size ≤ bb ∧ Row W 3 bb 2 [iv p, iv q]
  ne : b1 = true → b8 = true → b9 = false → g ≠ bb
  x9 : b9 = true → ∃ g' c', v71 = .slice (some ⟨g', 0, none⟩) (hs.eraseIdx i ++ [p, q]).length c' ∧ Wb.heap.size ≤ g' ∧ Row W 3 g' c' ((hs.eraseIdx i ++ [p, q]).map iv)
  x10 : b10 = true → v15 = v71 ∧ b9 = true

/-- One operation of a drawn region, as a list of one. -/
theorem opIn_of_list {F : Fence} {n : Nat} {P : Program} {ops : Array Oper} {i : Nat} {o : Oper} {a : Act} {W : World} {K : Act → World → Prop} {Q : Exit → Act → World → Prop} (ho : ops[i]? = some o) (h : wpListIn F n P ops (fun e a w => match e with | .normal => K a w | e => Q e a w) [o] a W) : wpOpIn F n P ops Q i K a W := by
  unfold wpOpIn
  simp only [ho]
  simp only [wpListIn] at h
  by_cases hw : Region.wanted o (yielded ops a.tmps) = true
  · rw [if_pos hw] at h ⊢
    exact h
  · rw [if_neg hw] at h ⊢
    exact h

theorem info22 : (Tryz.prog.info? 22).map (fun i => (i.zero, i.size, i.bytes)) = some (some (.slice none 0 0), 1, 24) := by kernel_rfl

/-- How many moves there are, at most. -/
theorem mvAt_len (dg left : Int) (h : left ≤ 3000) : (mvAt dg left).length ≤ 3001 := by
  unfold mvAt
  split
  · simp
  · split
    · split <;> simp
    · rw [List.length_append]
      have h1 : (if bits .and .i64 dg 2 = 0 then [] else [(left, (0 : Int))]).length ≤ 1 := by split <;> simp
      have h2 : (if bits .and .i64 dg 4 = 0 then [] else prs left (left / 2).toNat).length ≤ 1500 := by
        split
        · simp
        · simp [prs]; omega
      omega
theorem mvs_len (d : List Int) (m : Int) (h : m ≤ 3000) : ∀ k, (mvs d m k).length ≤ 3001 * k
  | 0 => by simp [mvs_zero]
  | k + 1 => by
    rw [mvs_succ, List.length_append]
    have := mvs_len d m h k
    have := mvAt_len (d[k]?.getD 0) (m - k - 1) (by omega)
    omega
theorem mv_len (d : List Int) (m : Int) (h : m ≤ 3000) (hd : d.length ≤ 100) : (mv d m).length ≤ 300100 := by
  have := mvs_len d m h d.length
  unfold mv; omega
theorem outsAt_len (d v hs : List Int) (i : Nat) (h : ∀ x ∈ hs, 0 ≤ x ∧ x ≤ 200) (hd : d.length ≤ 100) : (outsAt d v hs i).length ≤ 300100 := by
  unfold outsAt
  rw [List.length_map]
  refine Nat.le_trans (List.length_filter_le _ _) (mv_len d _ ?_ hd)
  rw [List.getD_eq_getElem?_getD]
  cases hh : hs[i]? with
  | none => simp
  | some x => have := h x (List.mem_of_getElem? hh); simp; omega
theorem outsTo_len (d v hs : List Int) (h : ∀ x ∈ hs, 0 ≤ x ∧ x ≤ 200) (hd : d.length ≤ 100) : ∀ k, (outsTo d v hs k).length ≤ 300100 * k
  | 0 => by simp [outsTo]
  | k + 1 => by
    rw [outsTo_succ, List.length_append]
    have := outsTo_len d v hs h hd k
    have := outsAt_len d v hs k h hd
    omega
end Go.Proofs.YtkfbdhlfajdpgaaGreatDoor.HSteps
