/- heap.Moves at codes and heaps in range: the walk. -/
import Derived.Test.YtkfbdhlfajdpgaaGreatDoorHInP
namespace Go.Proofs.YtkfbdhlfajdpgaaGreatDoor.HSteps
set_option linter.unusedVariables false
set_option linter.unusedSimpArgs false
open Go Go.RowKit Go.Shelf Go.Lib Go.Sort Go.Proofs Go.Proofs.YtkfbdhlfajdpgaaGreatDoor.HIter Go.Proofs.YtkfbdhlfajdpgaaGreatDoor.HSpec Go.Proofs.YtkfbdhlfajdpgaaGreatDoor.HMoves Go.Proofs.YtkfbdhlfajdpgaaGreatDoor.HSmall Go.Proofs.YtkfbdhlfajdpgaaGreatDoor.HNim Go.Proofs.YtkfbdhlfajdpgaaGreatDoor.HRowOps Go.Proofs.YtkfbdhlfajdpgaaGreatDoor.HDrawn Go.Proofs.YtkfbdhlfajdpgaaGreatDoor.HDigits Go.Proofs.YtkfbdhlfajdpgaaGreatDoor.HValues Go.Proofs.YtkfbdhlfajdpgaaGreatDoor.HList Go.Proofs.YtkfbdhlfajdpgaaGreatDoor.HCode
attribute [local go_sem] Oper.semAt_some

def LoopP (s : ByteArray) (HV : Value) (hs d V : List Int) (all : Int) (w : World) (cs : List (Nat × Obj)) (Bv Bo : Nat) (a : Act) (W : World) : Prop :=
  ∃ (k : Nat) (ds : List Deferred) (D : Nat → Prop) (u2 u10 u11 u12 u13 u14 u15 u16 u17 u18 u19 u20 u21 u22 u23 u24 u25 u26 u27 u28 u29 u30 u34 u35 u36 u37 u38 u39 u40 u41 u42 u43 u44 u45 u46 u47 u48 u49 u50 u51 u52 u53 u54 u55 u56 u57 u58 u59 u60 u61 u62 u63 u64 u65 u66 u67 u68 u69 u70 u71 u72 u73 u74 u75 u76 u77 u78 u79 u80 u81 u82 u83 u84 : Value), k ≤ hs.length ∧ InP w.heap.size cs Bo (fun _ => outsTo d V hs k) D [] W ∧ Below w.heap.size w W ∧
    (∀ x ∈ ds, ∃ r, x.target = .collected r ∧ w.heap.size ≤ r ∧ W.heap[r]? = some (.deferred (some []))) ∧ (ds.map (·.target)).Pairwise (fun a b => ∀ r, a = .collected r → b ≠ .collected r) ∧
    a = { tmps := (List.toArray ((.string s) :: HV :: u2 :: (.pointer (some ⟨w.heap.size, 0, none⟩)) :: (.slice none 0 0) :: (.int .i64 0) :: (.int .i64 0) :: (.pointer (some ⟨Bv, 0, none⟩)) :: (iv all) :: (.pointer (some ⟨Bo, 0, none⟩)) :: u10 :: u11 :: u12 :: u13 :: u14 :: u15 :: u16 :: u17 :: u18 :: u19 :: u20 :: u21 :: u22 :: u23 :: u24 :: u25 :: u26 :: u27 :: u28 :: u29 :: u30 :: HV :: (.int .i64 (hs.length : Int)) :: (.int .i64 (k : Int)) :: u34 :: u35 :: u36 :: u37 :: u38 :: u39 :: u40 :: u41 :: u42 :: u43 :: u44 :: u45 :: u46 :: u47 :: u48 :: u49 :: u50 :: u51 :: u52 :: u53 :: u54 :: u55 :: u56 :: u57 :: u58 :: u59 :: u60 :: u61 :: u62 :: u63 :: u64 :: u65 :: u66 :: u67 :: u68 :: u69 :: u70 :: u71 :: u72 :: u73 :: u74 :: u75 :: u76 :: u77 :: u78 :: u79 :: u80 :: u81 :: u82 :: u83 :: u84 :: [])), defers := ds }
theorem Below.drewN' (W : World) (q : Nat) {W' : World} (h : Below (W.drewN q).heap.size (W.drewN q) W') : Below W.heap.size W W' := ⟨h.os, h.tape, h.output, h.size, h.block⟩
def LoopPM (n : Nat) (a : Act) (_ : World) : Nat := n - (intOf (a.tmps.getD 33 undef)).toNat

/-- The region's invariant. -/
def I19 (Wb : World) (HV : Value) (hs : List Int) (k : Nat) (p q : Int) (Bh Bo Bi : Nat) (listed : Array Bool) (a : Act) (W : World) : Prop :=
  ∃ (b0 b1 b2 b3 b4 b5 b6 b7 b8 b9 b10 : Bool) (v62 v63 v64 v65 v66 v67 v68 v69 v70 v71 v15 : Value) (g c bb : Nat) (u0 u1 u2 u4 u5 u6 u7 u8 u11 u12 u16 u17 u18 u19 u20 u21 u22 u23 u24 u25 u26 u27 u28 u29 u30 u31 u32 u33 u34 u35 u36 u37 u38 u39 u40 u41 u42 u43 u44 u45 u46 u47 u48 u49 u50 u51 u52 u53 u54 u55 u56 u57 u58 u59 u60 u61 u72 u73 u74 u75 u76 u77 u78 u79 u80 u81 u82 u83 u84 : Value), listed = #[b0, b1, b2, b3, b4, b5, b6, b7, b8, b9, b10] ∧ a = { tmps := (List.toArray (u0 :: u1 :: u2 :: (.pointer (some ⟨Bh, 0, none⟩)) :: u4 :: u5 :: u6 :: u7 :: u8 :: (.pointer (some ⟨Bo, 0, none⟩)) :: (.pointer (some ⟨Bi, 0, none⟩)) :: u11 :: u12 :: (iv p) :: (iv q) :: v15 :: u16 :: u17 :: u18 :: u19 :: u20 :: u21 :: u22 :: u23 :: u24 :: u25 :: u26 :: u27 :: u28 :: u29 :: u30 :: u31 :: u32 :: u33 :: u34 :: u35 :: u36 :: u37 :: u38 :: u39 :: u40 :: u41 :: u42 :: u43 :: u44 :: u45 :: u46 :: u47 :: u48 :: u49 :: u50 :: u51 :: u52 :: u53 :: u54 :: u55 :: u56 :: u57 :: u58 :: u59 :: u60 :: u61 :: v62 :: v63 :: v64 :: v65 :: v66 :: v67 :: v68 :: v69 :: v70 :: v71 :: u72 :: u73 :: u74 :: u75 :: u76 :: u77 :: u78 :: u79 :: u80 :: u81 :: u82 :: u83 :: u84 :: [])), defers := [] } ∧ S19 Wb HV hs k p q b0 b1 b2 b3 b4 b5 b6 b7 b8 b9 b10 v62 v63 v64 v65 v66 v67 v68 v69 v70 v71 v15 g c bb W

theorem i19_mk {Wb : World} {HV : Value} {hs : List Int} {k : Nat} {p q : Int} {Bh Bo Bi : Nat} {b0 b1 b2 b3 b4 b5 b6 b7 b8 b9 b10 : Bool} {v62 v63 v64 v65 v66 v67 v68 v69 v70 v71 v15 : Value} {g c bb : Nat} {u0 u1 u2 u4 u5 u6 u7 u8 u11 u12 u16 u17 u18 u19 u20 u21 u22 u23 u24 u25 u26 u27 u28 u29 u30 u31 u32 u33 u34 u35 u36 u37 u38 u39 u40 u41 u42 u43 u44 u45 u46 u47 u48 u49 u50 u51 u52 u53 u54 u55 u56 u57 u58 u59 u60 u61 u72 u73 u74 u75 u76 u77 u78 u79 u80 u81 u82 u83 u84 : Value} {W : World} {listed : Array Bool} (hl : listed = #[b0, b1, b2, b3, b4, b5, b6, b7, b8, b9, b10]) (h : S19 Wb HV hs k p q b0 b1 b2 b3 b4 b5 b6 b7 b8 b9 b10 v62 v63 v64 v65 v66 v67 v68 v69 v70 v71 v15 g c bb W) :
    I19 Wb HV hs k p q Bh Bo Bi listed { tmps := (List.toArray (u0 :: u1 :: u2 :: (.pointer (some ⟨Bh, 0, none⟩)) :: u4 :: u5 :: u6 :: u7 :: u8 :: (.pointer (some ⟨Bo, 0, none⟩)) :: (.pointer (some ⟨Bi, 0, none⟩)) :: u11 :: u12 :: (iv p) :: (iv q) :: v15 :: u16 :: u17 :: u18 :: u19 :: u20 :: u21 :: u22 :: u23 :: u24 :: u25 :: u26 :: u27 :: u28 :: u29 :: u30 :: u31 :: u32 :: u33 :: u34 :: u35 :: u36 :: u37 :: u38 :: u39 :: u40 :: u41 :: u42 :: u43 :: u44 :: u45 :: u46 :: u47 :: u48 :: u49 :: u50 :: u51 :: u52 :: u53 :: u54 :: u55 :: u56 :: u57 :: u58 :: u59 :: u60 :: u61 :: v62 :: v63 :: v64 :: v65 :: v66 :: v67 :: v68 :: v69 :: v70 :: v71 :: u72 :: u73 :: u74 :: u75 :: u76 :: u77 :: u78 :: u79 :: u80 :: u81 :: u82 :: u83 :: u84 :: [])), defers := [] } W := ⟨b0, b1, b2, b3, b4, b5, b6, b7, b8, b9, b10, v62, v63, v64, v65, v66, v67, v68, v69, v70, v71, v15, g, c, bb, u0, u1, u2, u4, u5, u6, u7, u8, u11, u12, u16, u17, u18, u19, u20, u21, u22, u23, u24, u25, u26, u27, u28, u29, u30, u31, u32, u33, u34, u35, u36, u37, u38, u39, u40, u41, u42, u43, u44, u45, u46, u47, u48, u49, u50, u51, u52, u53, u54, u55, u56, u57, u58, u59, u60, u61, u72, u73, u74, u75, u76, u77, u78, u79, u80, u81, u82, u83, u84, hl, rfl, h⟩
theorem i19_start (Wb : World) (HV : Value) (hs : List Int) (k : Nat) (p q : Int) (Bh Bo Bi : Nat) (v62 v63 v64 v65 v66 v67 v68 v69 v70 v71 v15 : Value) (u0 u1 u2 u4 u5 u6 u7 u8 u11 u12 u16 u17 u18 u19 u20 u21 u22 u23 u24 u25 u26 u27 u28 u29 u30 u31 u32 u33 u34 u35 u36 u37 u38 u39 u40 u41 u42 u43 u44 u45 u46 u47 u48 u49 u50 u51 u52 u53 u54 u55 u56 u57 u58 u59 u60 u61 u72 u73 u74 u75 u76 u77 u78 u79 u80 u81 u82 u83 u84 : Value) (W : World) (listed : Array Bool) (hl : listed = #[false, false, false, false, false, false, false, false, false, false, false]) (hf : Fr (fun _ => False) Wb W) :
    I19 Wb HV hs k p q Bh Bo Bi listed { tmps := (List.toArray (u0 :: u1 :: u2 :: (.pointer (some ⟨Bh, 0, none⟩)) :: u4 :: u5 :: u6 :: u7 :: u8 :: (.pointer (some ⟨Bo, 0, none⟩)) :: (.pointer (some ⟨Bi, 0, none⟩)) :: u11 :: u12 :: (iv p) :: (iv q) :: v15 :: u16 :: u17 :: u18 :: u19 :: u20 :: u21 :: u22 :: u23 :: u24 :: u25 :: u26 :: u27 :: u28 :: u29 :: u30 :: u31 :: u32 :: u33 :: u34 :: u35 :: u36 :: u37 :: u38 :: u39 :: u40 :: u41 :: u42 :: u43 :: u44 :: u45 :: u46 :: u47 :: u48 :: u49 :: u50 :: u51 :: u52 :: u53 :: u54 :: u55 :: u56 :: u57 :: u58 :: u59 :: u60 :: u61 :: v62 :: v63 :: v64 :: v65 :: v66 :: v67 :: v68 :: v69 :: v70 :: v71 :: u72 :: u73 :: u74 :: u75 :: u76 :: u77 :: u78 :: u79 :: u80 :: u81 :: u82 :: u83 :: u84 :: [])), defers := [] } W :=
  ⟨false, false, false, false, false, false, false, false, false, false, false, v62, v63, v64, v65, v66, v67, v68, v69, v70, v71, v15, 0, 0, 0, u0, u1, u2, u4, u5, u6, u7, u8, u11, u12, u16, u17, u18, u19, u20, u21, u22, u23, u24, u25, u26, u27, u28, u29, u30, u31, u32, u33, u34, u35, u36, u37, u38, u39, u40, u41, u42, u43, u44, u45, u46, u47, u48, u49, u50, u51, u52, u53, u54, u55, u56, u57, u58, u59, u60, u61, u72, u73, u74, u75, u76, u77, u78, u79, u80, u81, u82, u83, u84, hl, rfl, ⟨hf, fun h => (by cases h), fun h => (by cases h), fun h => (by cases h), fun h => (by cases h), fun h => (by cases h), fun h => (by cases h), fun h => (by cases h), fun h => (by cases h), fun h => (by cases h), fun h => (by cases h), fun h => (by cases h), fun h => (by cases h), fun h => (by cases h), fun h => (by cases h), fun h => (by cases h), fun h => (by cases h), fun h => (by cases h), fun h => (by cases h)⟩⟩

theorem digits_step (s : ByteArray) (d : List Int) (h : IsCode s d) (w : World) : Calls Tryz.prog 15 #[.string s] w fun e w' => ∃ gd cd, e = .returned (.slice (some ⟨gd, 0, none⟩) d.length cd) ∧ w.heap.size ≤ gd ∧ Row w' 3 gd cd (d.map iv) ∧ Below w.heap.size w w' := by
  have h2 := h.two
  have h3 := h.le
  have h4 := h.pos
  refine (digits_any s (s.extract 2 s.size) d w (by omega) (by omega) rfl (by rw [ByteArray.size_extract]; omega) h.byte h.rng).mono ?_
  rintro e w' ⟨v, rfl, hv, hb⟩
  have hne : v ≠ .slice none 0 0 := by
    rintro rfl
    rcases hv.2 with ⟨_, h⟩ | ⟨_, _, _, h, _⟩
    · omega
    · cases h
  obtain ⟨g, cap, rfl, h1, h2, h3⟩ := Row.of_owns hv hne
  rw [List.length_map]
  exact ⟨g, cap, rfl, h1, h2, hb⟩

theorem list200 (s : ByteArray) (h : isCode s = true) (V : List Int) (hV : vals (digs s) 200 = V) (w : World) :
    Calls Tryz.prog 12 #[.string s, .int .i64 200] w fun e w' => ∃ gv cv, e = .returned (.slice (some ⟨gv, 0, none⟩) V.length cv) ∧ w.heap.size ≤ gv ∧ Row w' 3 gv cv (V.map iv) ∧ Below w.heap.size w w' := by
  refine (list_any s 200 h (by omega) (by omega) w).mono ?_
  rintro e w' ⟨v, rfl, hv, hb⟩
  have e1 : (200 : Int).toNat = 200 := rfl
  rw [e1, hV] at hv
  have hne : v ≠ .slice none 0 0 := by
    rintro rfl
    rcases hv.2 with ⟨_, h⟩ | ⟨_, _, _, h, _⟩
    · omega
    · cases h
  obtain ⟨g, cap, rfl, h1, h2, h3⟩ := Row.of_owns hv hne
  rw [List.length_map]
  exact ⟨g, cap, rfl, h1, h2, hb⟩

set_option maxRecDepth 100000 in
set_option maxHeartbeats 16000000 in
theorem moves_in (F : Fence) (m : Nat) (hWd : Wide F) (hF : ∀ f, F.fn f) (hro : F.round = none) (hn : F.depth = none) (s : ByteArray) (hcode : isCode s = true) (d V : List Int) (hd : digs s = d) (hV : vals (digs s) 200 = V)
    (hchk : ∀ W, Calls Tryz.prog 9 #[.string s] W fun e w' => e = .returned (.int .i64 0) ∧ Below W.heap.size W w')
    (b off c1 : Nat) (hs : List Int) (hs1 : 0 < hs.length) (hs2 : hs.length ≤ 10) (hr : ∀ x ∈ hs, 0 ≤ x ∧ x ≤ 200) (w : World)
    (hc : ∀ j, j < hs.length → w.cell? ⟨b, off + j, none⟩ = some (iv (hs[j]?.getD 0))) :
    CallsIn F m Tryz.prog 5 #[.string s, .slice (some ⟨b, off, none⟩) hs.length c1] w fun e w' => ∃ v es, e = .returned (.tuple #[v, .int .i64 0]) ∧ OutS w.heap.size w' v es ∧ es.map (fun e => e.2.2) = movesOf d V hs ∧ Below w.heap.size w w' := by
  have hFf := hF 5
  have hVl : V.length = 201 := by rw [← hV]; exact vals_length _ _
  have hrV : ∀ x ∈ hs, 0 ≤ x ∧ x < V.length := fun x hx => ⟨(hr x hx).1, by have := (hr x hx).2; rw [hVl]; omega⟩
  have Hhx := Lib.hid (show ∀ j, j < hs.length → 0 ≤ hs[j]?.getD 0 ∧ hs[j]?.getD 0 < V.length from fun j hj => hrV _ (by rw [List.getElem?_eq_getElem hj]; exact List.getElem_mem hj))
  have HrV := Lib.hid hrV
  clear hrV
  have hl200 := list200 s hcode V hV
  have hic : IsCode s d := by rw [← hd]; exact isCode_of hcode
  have Hdig := Lib.hid (fun W => digits_step s d hic W)
  have HIC := Lib.hid hic
  clear hic
  have HCODE := Lib.hid hcode
  have HVl := Lib.hid hVl
  clear hV hd hcode hVl
  refine callsIn_of_wp_marks Tryz.func5 rfl hFf ?_ hro
  simp only [Tryz.ntmps5, List.size_toArray, List.length_cons, List.length_nil, Nat.reduceAdd, Nat.reduceSub, Array.replicate_succ, Array.replicate_zero, List.push_toArray, List.append_toArray, List.nil_append, List.cons_append]
  have hb : b < w.heap.size := World.block_lt_of_cell? w _ (hc 0 hs1)
  have hgt : ¬ (10 : Int) < (hs.length : Int) := by omega
  have hany : (hs.any fun x => decide (x < 0) || decide (x > 200)) = false := by
    rw [List.any_eq_false]
    intro x hx
    have := hr x hx
    simp; omega
  have hcont : ∀ W, (∀ j, j < hs.length → W.cell? ⟨b, off + j, none⟩ = some (iv (hs[j]?.getD 0))) → Calls Tryz.prog 10 #[.slice (some ⟨b, off, none⟩) hs.length c1, .func (.func 11) #[] #[]] W fun e w' => e = .returned (.bool false) ∧ ∃ q, w' = W.drewN q := fun W hW => by
    have := contains_step b off c1 hs W (by omega) hW
    rwa [hany] at this
  have HC := Lib.hid hc
  have HR := Lib.hid hr
  have Hl := Lib.hid hl200
  have Hcont := Lib.hid hcont
  have Hchk := Lib.hid hchk
  clear hc hr hl200 hcont hchk hany
  have Hchk1 := Lib.hid (show Calls Tryz.prog 9 #[.string s] (w.alloc (.cells #[.slice (some ⟨b, off, none⟩) hs.length c1] 22)) fun e w' => e = .returned (.int .i64 0) ∧ Below w.heap.size w w' ∧ w'.heap[w.heap.size]? = some (.cells #[.slice (some ⟨b, off, none⟩) hs.length c1] 22 (0, 0)) ∧ (∀ j, j < hs.length → w'.cell? ⟨b, off + j, none⟩ = some (iv (hs[j]?.getD 0))) from by
    refine (Hchk.out _).mono ?_
    rintro e w1 ⟨rfl, hb1⟩
    have hb1 : Below (w.heap.size + 1) (w.alloc (.cells #[.slice (some ⟨b, off, none⟩) hs.length c1] 22)) w1 := by simpa using hb1
    have hB1 : Below w.heap.size w w1 := ((Below.refl _ w).alloc (Nat.le_refl _) _).trans (hb1.mono (by omega))
    exact ⟨rfl, hB1, (hb1.block _ (by omega)).trans (World.alloc_heap_new w _), fun j hj => (hB1.cell (p := ⟨b, off + j, none⟩) hb).trans (HC.out j hj)⟩)
  gi_wp2_with (first
    | (gi_at_call 9; refine (hWd.calls Hchk1.out).mono ?_; rintro e w1 ⟨rfl, hB1, hbx1, hc1⟩; have hx1 := cell_of_one hbx1; have HC1 := Lib.hid hc1; have HB1 := Lib.hid hB1; have Hbx1 := Lib.hid hbx1; clear hB1 hbx1 hc1)
    | (gi_at_call 10; refine (hWd.calls (Hcont.out _ HC1.out)).mono ?_; rintro e w' ⟨rfl, q1, rfl⟩)
    | (gi_at_call 12; refine (hWd.calls (Hl.out _)).mono ?_; rintro e w2 ⟨gv, cv, rfl, hgv, hrv, hb2⟩; have hB2 := HB1.out.trans ((Below.drewN' w1 q1 hb2).mono HB1.out.size); have hbx2 := ((Below.drewN' w1 q1 hb2).block w.heap.size (World.block_lt_of_cell? w1 _ hx1)).trans Hbx1.out; have hx2 := cell_of_one hbx2; have hx3 := Lib.cell?_alloc_some (.cells #[.slice (some ⟨gv, 0, none⟩) V.length cv] 22) hx2; have Hrv := Lib.hid hrv; have HB2 := Lib.hid hB2; have Hbx2 := Lib.hid hbx2; have Hgv := Lib.hid (Nat.le_trans HB1.out.size hgv); clear hrv hB2 hb2 hbx2 hx1 hgv)
    | (gi_at_call 13; refine (hWd.calls (without_any b off c1 gv cv V hs (w2.alloc (.cells #[.slice (some ⟨gv, 0, none⟩) V.length cv] 22)) (by omega) HrV.out (by have := HVl.out; omega) (fun j hj => Lib.cell?_alloc_some _ ((HB2.out.cell (p := ⟨b, off + j, none⟩) hb).trans (HC.out j hj))) (fun j hj => Lib.cell?_alloc_some _ (Hrv.out.cellAt j (by rw [List.getElem?_map, List.getElem?_eq_getElem hj]; rfl))))).mono ?_; rintro e w' ⟨rfl, rfl⟩; have hx4 := Lib.cell?_alloc_some (.cells #[.slice none 0 0] 24) hx3; clear hx3))
  -- THE LOOP
  obtain ⟨all, hall⟩ : ∃ all, wsum V hs = all := ⟨_, rfl⟩
  rw [hall]
  have HALL := Lib.hid hall
  clear hall
  obtain ⟨ob, hob⟩ : ∃ ob, w.heap[b]? = some ob := ⟨_, Array.getElem?_eq_getElem hb⟩
  have hobc : isCells ob := by
    obtain ⟨c, e, fr, h1, _⟩ := cells_of_cell? (HC.out 0 hs1)
    rw [hob] at h1
    exact ⟨c, e, fr, Option.some.inj h1⟩
  obtain ⟨ogv, hogv⟩ : ∃ ogv, w2.heap[gv]? = some ogv := ⟨_, Array.getElem?_eq_getElem Hrv.out.lt⟩
  have hogc : isCells ogv := by
    obtain ⟨cur, h1, _⟩ := Hrv.out
    rw [hogv] at h1
    exact ⟨_, _, _, Option.some.inj h1⟩
  obtain ⟨cs, hcs⟩ : ∃ cs : List (Nat × Obj), cs = [(b, ob), (w.heap.size, .cells #[.slice (some ⟨b, off, none⟩) hs.length c1] 22 (0, 0)), (w2.heap.size, .cells #[.slice (some ⟨gv, 0, none⟩) V.length cv] 22 (0, 0)), (gv, ogv)] := ⟨_, rfl⟩
  have hws : w.heap.size < w2.heap.size := (Array.getElem?_eq_some_iff.1 Hbx2.out).1
  have HOB := Lib.hid hob
  have HOBC := Lib.hid hobc
  have HOG := Lib.hid hogv
  have HOGC := Lib.hid hogc
  have HCS := Lib.hid hcs
  clear hob hobc hogv hogc hcs hx2 hx4
  refine wpIn_loop (LoopP s (.slice (some ⟨b, off, none⟩) hs.length c1) hs d V all w cs w2.heap.size (w2.heap.size + 1)) (LoopPM hs.length) ?start ?round
  case start =>
    have hlg := Hrv.out.lt
    have hb4 : Below w2.heap.size w2 ((w2.alloc (.cells #[.slice (some ⟨gv, 0, none⟩) V.length cv] 22)).alloc (.cells #[.slice none 0 0] 24)) := ((Below.refl _ w2).alloc (Nat.le_refl _) _).alloc (by simp) _
    refine ⟨0, [], fun i => (∃ o, (i, o) ∈ cs) ∨ i = w2.heap.size + 1 ∨ (Value.slice none 0 0).ownBlock = some i ∨ ∃ e ∈ ([] : List Ent), e.1 = i, _, _, _, _, _, _, _, _, _, _, _, _, _, _, _, _, _, _, _, _, _, _, _, _, _, _, _, _, _, _, _, _, _, _, _, _, _, _, _, _, _, _, _, _, _, _, _, _, _, _, _, _, _, _, _, _, _, _, _, _, _, _, _, _, _, _, _, _, _, _, _, _, _, Nat.zero_le _, ⟨.slice none 0 0, [], ⟨fun i => Iff.rfl, ?_, ?_, ⟨World.ownsRow_nil _ _ _ _, by simp, by simp⟩, by simp [outsTo], by omega⟩⟩, HB2.out.trans (hb4.mono (by omega)), by simp, by simp, rfl⟩
    · intro pp hp
      rw [HCS.out] at hp
      simp only [List.mem_cons, List.not_mem_nil, or_false] at hp
      rcases hp with rfl | rfl | rfl | rfl
      · exact ⟨(hb4.block b (by omega)).trans ((HB2.out.block b hb).trans HOB.out), HOBC.out, by simp only; omega, by simp [Value.ownBlock]⟩
      · exact ⟨(hb4.block _ hws).trans Hbx2.out, ⟨_, _, _, rfl⟩, by simp only; omega, by simp [Value.ownBlock]⟩
      · exact ⟨(Below.heap_alloc _ _ _ (by simp)).trans (World.alloc_heap_new w2 _), ⟨_, _, _, rfl⟩, by simp only; omega, by simp [Value.ownBlock]⟩
      · exact ⟨(hb4.block _ hlg).trans HOG.out, HOGC.out, by simp only; omega, by simp [Value.ownBlock]⟩
    · have := World.alloc_heap_new (w2.alloc (.cells #[.slice (some ⟨gv, 0, none⟩) V.length cv] 22)) (.cells #[.slice none 0 0] 24)
      rwa [World.size_alloc] at this
  case round =>
    rintro a wr ⟨k, ds, D, u2, u10, u11, u12, u13, u14, u15, u16, u17, u18, u19, u20, u21, u22, u23, u24, u25, u26, u27, u28, u29, u30, u34, u35, u36, u37, u38, u39, u40, u41, u42, u43, u44, u45, u46, u47, u48, u49, u50, u51, u52, u53, u54, u55, u56, u57, u58, u59, u60, u61, u62, u63, u64, u65, u66, u67, u68, u69, u70, u71, u72, u73, u74, u75, u76, u77, u78, u79, u80, u81, u82, u83, u84, hk, ⟨vo, es, hI⟩, hB, hmk, hdist, rfl⟩
    have ph : wr.heap[w.heap.size]? = some (.cells #[.slice (some ⟨b, off, none⟩) hs.length c1] 22 (0, 0)) := (hI.pin (w.heap.size, _) (by rw [HCS.out]; simp)).1
    have pv : wr.heap[w2.heap.size]? = some (.cells #[.slice (some ⟨gv, 0, none⟩) V.length cv] 22 (0, 0)) := (hI.pin (w2.heap.size, _) (by rw [HCS.out]; simp)).1
    have pb : wr.heap[b]? = some ob := (hI.pin (b, ob) (by rw [HCS.out]; simp)).1
    have pg : wr.heap[gv]? = some ogv := (hI.pin (gv, ogv) (by rw [HCS.out]; simp)).1
    have cx := cell_of_one ph
    have cv0 := cell_of_one pv
    have hmix : (Tryz.prog).follows .mixedOrders = true := by kernel_rfl
    have HI := Lib.hid hI
    have HBW := Lib.hid hB
    have HMK := Lib.hid hmk
    have HDI := Lib.hid hdist
    have PB := Lib.hid pb
    have PG := Lib.hid pg
    have PH := Lib.hid ph
    have PV := Lib.hid pv
    clear hI hB hmk hdist pb pg ph pv
    have hkI : k < 9223372036854775807 := by omega
    by_cases hlt : k < hs.length
    · obtain ⟨hx0, hx1⟩ := Hhx.out k hlt
      have cb := (World.cell?_of_block (w := w) (w' := wr) (a := ⟨b, off + k, none⟩) (PB.out.trans HOB.out.symm)).trans (HC.out k hlt)
      obtain ⟨x, hx⟩ := Int.eq_ofNat_of_zero_le hx0
      rw [hx] at cb hx1
      have hxV : x < V.length := by omega
      have hx200 : x ≤ 200 := by have := HVl.out; omega
      have cg := (Hrv.out.of_block (PG.out.trans HOG.out.symm)).cellAt (W := wr) x (v := iv (V[x]?.getD 0)) (by rw [List.getElem?_map, List.getElem?_eq_getElem hxV]; rfl)
      obtain ⟨vx, hvx⟩ : ∃ vx, V[x]?.getD 0 = vx := ⟨_, rfl⟩
      rw [hvx] at cg
      obtain ⟨rest, hrs⟩ : ∃ rest, bits .xor .i64 all vx = rest := ⟨_, rfl⟩
      have cv1 := Lib.cell?_alloc_some (.cells #[.int .i64 (k : Int)] 3) cv0
      have cg1 := Lib.cell?_alloc_some (.cells #[.int .i64 (k : Int)] 3) cg
      have HX := Lib.hid hx
      have HVX := Lib.hid hvx
      clear hx hvx hx0 hx1
      gi_wp2_with (first
        | (gi_at_call 15; refine (hWd.calls (Hdig.out _)).mono ?_; rintro e w4 ⟨gd, cd, rfl, hgd, hrd, hb4⟩; have Hgd := Lib.hid hgd; have Hrd := Lib.hid hrd; have Hb4 := Lib.hid hb4; clear hgd hrd hb4)
        | (gi_at_call 14; refine (hWd.calls (moves_any _ _ _ _ _)).mono ?_; rintro e w' ⟨rfl, rfl⟩))
      -- THE MOVES
      obtain ⟨w5, hw5⟩ : ∃ w5, ((w4.alloc (Obj.cells #[Value.slice (some { block := gd, off := 0 }) d.length cd] 22)).alloc (Obj.cells #[Value.int IntKind.i64 (x : Int)] 3)) = w5 := ⟨_, rfl⟩
      have hb4 := Hb4.out
      simp only [World.size_alloc] at hb4
      have hgd := Hgd.out
      simp only [World.size_alloc] at hgd
      have hs4 : wr.heap.size + 2 ≤ w4.heap.size := by have := hb4.size; simp only [World.size_alloc] at this; omega
      have hs5 : w5.heap.size = w4.heap.size + 2 := by rw [← hw5]; simp
      have hb45 : Below w4.heap.size w4 w5 := by rw [← hw5]; exact ((Below.refl _ w4).alloc (Nat.le_refl _) _).alloc (by simp) _
      have hB5 : Below wr.heap.size wr w5 := ((((Below.refl _ wr).alloc (Nat.le_refl _) (.cells #[.int .i64 (k : Int)] 3)).alloc (by simp) (.cells #[.int .i64 rest] 3)).trans (hb4.mono (by omega))).trans (hb45.mono (by omega))
      have hBi : w5.heap[wr.heap.size]? = some (.cells #[.int .i64 (k : Int)] 3 (0, 0)) :=
        (hb45.block _ (by omega)).trans ((hb4.block _ (by omega)).trans ((Below.heap_alloc _ _ _ (by simp)).trans (World.alloc_heap_new wr _)))
      have hBr : w5.heap[wr.heap.size + 1]? = some (.cells #[.int .i64 rest] 3 (0, 0)) := by
        refine (hb45.block _ (by omega)).trans ((hb4.block _ (by omega)).trans ?_)
        have := World.alloc_heap_new (wr.alloc (.cells #[.int .i64 (k : Int)] 3)) (.cells #[.int .i64 rest] 3)
        rwa [World.size_alloc] at this
      have hcd5 : w5.cell? ⟨w4.heap.size, 0, none⟩ = some (.slice (some ⟨gd, 0, none⟩) d.length cd) := by
        have h1 := World.alloc_heap_new w4 (Obj.cells #[Value.slice (some { block := gd, off := 0 }) d.length cd] 22)
        have h2 : w5.heap[w4.heap.size]? = some (.cells #[Value.slice (some { block := gd, off := 0 }) d.length cd] 22 (0, 0)) := by rw [← hw5]; exact (Below.heap_alloc _ _ _ (by simp)).trans h1
        exact cell_of_one h2
      have hcn5 : w5.cell? ⟨w4.heap.size + 1, 0, none⟩ = some (.int .i64 (x : Int)) := by
        have h1 := World.alloc_heap_new (w4.alloc (Obj.cells #[Value.slice (some { block := gd, off := 0 }) d.length cd] 22)) (Obj.cells #[Value.int IntKind.i64 (x : Int)] 3)
        simp only [World.size_alloc] at h1
        rw [hw5] at h1
        exact cell_of_one h1
      have hrd5 : Row w5 3 gd cd (d.map iv) := Hrd.out.of_block (hb45.block gd Hrd.out.lt)
      rw [hw5]
      clear hw5
      have hlgd := Hrd.out.lt
      obtain ⟨cs2, hcs2⟩ : ∃ cs2 : List (Nat × Obj), cs2 = cs ++ [(wr.heap.size, .cells #[.int .i64 (k : Int)] 3 (0, 0)), (wr.heap.size + 1, .cells #[.int .i64 rest] 3 (0, 0))] := ⟨_, rfl⟩
      have h5 := HI.out.move (W' := w5) (fun i hi => hB5.block i (HI.out.lt i hi))
      have hBo : w2.heap.size + 1 < wr.heap.size := (Array.getElem?_eq_some_iff.1 HI.out.box).1
      have hI5 : InS w.heap.size cs2 (w2.heap.size + 1) (outsTo d V hs k ++ (([] : List (Int × Int)).filter (okM V rest)).map (ownOf hs k)) (fun i => (∃ o, (i, o) ∈ cs2) ∨ i = w2.heap.size + 1 ∨ vo.ownBlock = some i ∨ ∃ e ∈ es, e.1 = i) w5 vo es := by
        refine ⟨fun i => Iff.rfl, ?_, h5.box, h5.out, by simpa using h5.key, h5.lo⟩
        intro pp hp
        rw [hcs2] at hp
        have hvo : ∀ i, vo.ownBlock = some i → i < wr.heap.size := fun i hi => (ownsRow_lt HI.out.out.own i hi).2
        rcases List.mem_append.1 hp with hp | hp
        · exact h5.pin pp hp
        · simp only [List.mem_cons, List.not_mem_nil, or_false] at hp
          rcases hp with rfl | rfl
          · exact ⟨hBi, ⟨_, _, _, rfl⟩, by simp only; omega, fun h => by have := hvo _ h; simp only at this; omega⟩
          · exact ⟨hBr, ⟨_, _, _, rfl⟩, by simp only; omega, fun h => by have := hvo _ h; simp only at this; omega⟩
      have hD0 : ∀ i, ((∃ o, (i, o) ∈ cs2) ∨ i = w2.heap.size + 1 ∨ vo.ownBlock = some i ∨ ∃ e ∈ es, e.1 = i) → i < wr.heap.size + 2 := by
        intro i hi
        rcases hi with ⟨o, ho⟩ | hi | hi | ⟨e, he, hi⟩
        · rw [hcs2] at ho
          rcases List.mem_append.1 ho with ho | ho
          · have := (Array.getElem?_eq_some_iff.1 (HI.out.pin _ ho).1).1; simp only at this; omega
          · simp only [List.mem_cons, List.not_mem_nil, or_false, Prod.mk.injEq] at ho
            rcases ho with ⟨rfl, _⟩ | ⟨rfl, _⟩ <;> omega
        · omega
        · have := (ownsRow_lt HI.out.out.own i hi).2; omega
        · have := (HI.out.out.fits e he).2.1.lt; omega
      have H5 := Lib.hid hI5
      have HD0 := Lib.hid hD0
      have HCS2 := Lib.hid hcs2
      have HB45 := Lib.hid hb45
      have HB5 := Lib.hid hB5
      have HCD := Lib.hid hcd5
      have HCN := Lib.hid hcn5
      have HRD := Lib.hid hrd5
      have HS5 := Lib.hid hs5
      clear hI5 hD0 hcs2 hb45 hB5 hcd5 hcn5 hrd5 hs5 h5 hBi hBr hb4
      refine wpIn_range hro hn (gf := 38) (lb := #[.pointer (some ⟨w4.heap.size, 0, none⟩), .pointer (some ⟨w4.heap.size + 1, 0, none⟩)]) rfl (hF _) (enters_of Tryz.func38 (by kernel_rfl) rfl)
        (moves_seq F (m - 1) hF hro hn w4.heap.size (w4.heap.size + 1) gd 0 cd d (x : Int) (by omega) (by omega) (by have := HIC.out.le; omega)) (fun _ => rfl)
        (InP w.heap.size cs2 (w2.heap.size + 1) (fun s => outsTo d V hs k ++ (s.filter (okM V rest)).map (ownOf hs k))) (fun _ _ _ _ => False) (InP.stable _ _ _ _) (InP.lies _ _ _ _) (fun _ _ _ _ _ h _ _ => h) (fun _ _ _ _ h => h.elim) (fun b e => by cases e)
        (fun i => (∃ o, (i, o) ∈ cs2) ∨ i = w2.heap.size + 1 ∨ vo.ownBlock = some i ∨ ∃ e ∈ es, e.1 = i) ⟨vo, es, H5.out⟩ ?own (fun y => { tmps := (List.toArray ((.string s) :: (.slice (some ⟨b, off, none⟩) hs.length c1) :: u2 :: (.pointer (some ⟨w.heap.size, 0, none⟩)) :: (.slice none 0 0) :: (.int .i64 0) :: (.int .i64 0) :: (.pointer (some ⟨w2.heap.size, 0, none⟩)) :: (iv all) :: (.pointer (some ⟨(w2.heap.size + 1), 0, none⟩)) :: (.pointer (some ⟨wr.heap.size, 0, none⟩)) :: (.int .i64 (x : Int)) :: (.pointer (some ⟨(wr.heap.size + 1), 0, none⟩)) :: (.int .i64 y.1) :: (.int .i64 y.2) :: u15 :: u16 :: u17 :: u18 :: u19 :: u20 :: u21 :: u22 :: u23 :: u24 :: u25 :: u26 :: u27 :: u28 :: u29 :: u30 :: (.slice (some ⟨b, off, none⟩) hs.length c1) :: (.int .i64 (hs.length : Int)) :: (.int .i64 (k : Int)) :: (.bool true) :: (.int .i64 (k : Int)) :: (.pointer (some ⟨b, off + k, none⟩)) :: (.int .i64 (x : Int)) :: (iv all) :: (.slice (some ⟨gv, 0, none⟩) V.length cv) :: (.int .i64 (x : Int)) :: (.pointer (some ⟨gv, x, none⟩)) :: (iv vx) :: (iv rest) :: (.string s) :: (.slice (some ⟨gd, 0, none⟩) d.length cd) :: (.int .i64 (x : Int)) :: (.func (.func 38) #[] #[.pointer (some ⟨w4.heap.size, 0, none⟩), .pointer (some ⟨w4.heap.size + 1, 0, none⟩)]) :: (.int .i64 y.1) :: (.int .i64 y.2) :: u50 :: u51 :: u52 :: u53 :: u54 :: u55 :: u56 :: u57 :: u58 :: u59 :: u60 :: u61 :: u62 :: u63 :: u64 :: u65 :: u66 :: u67 :: u68 :: u69 :: u70 :: u71 :: u72 :: u73 :: u74 :: u75 :: u76 :: u77 :: u78 :: u79 :: u80 :: u81 :: u82 :: u83 :: u84 :: [])), defers := [] }) ?assign ?body ?done ?stop
      case own =>
        intro Wx Dx hbx hdx
        have hsx := hbx.size
        have hs5 := HS5.out
        refine ⟨(hbx.cell (p := ⟨w4.heap.size, 0, none⟩) (by simp only; omega)).trans HCD.out, (hbx.cell (p := ⟨w4.heap.size + 1, 0, none⟩) (by simp only; omega)).trans HCN.out, fun j hj => ?_, ?_, ?_, ?_, by omega, by omega, by omega⟩
        · rw [Nat.zero_add]
          exact (hbx.cell (p := ⟨gd, j, none⟩) (by simp only; omega)).trans (HRD.out.cellAt j (by rw [List.getElem?_map, List.getElem?_eq_getElem hj]; rfl))
        · intro h; rcases hdx _ h with h | h
          · have := HD0.out _ h; omega
          · omega
        · intro h; rcases hdx _ h with h | h
          · have := HD0.out _ h; omega
          · omega
        · intro h; rcases hdx _ h with h | h
          · have := HD0.out _ h; omega
          · omega
      case assign =>
        intro l2 y Wa K hK
        gi_wp2
        exact hK
      case body =>
        rintro l2_ D4 pre ⟨p, q⟩ Wb hszb ⟨vo4, es4, hI4⟩ ⟨rest', hrest⟩
        have hmem : (p, q) ∈ mv d (x : Int) := by rw [hrest]; simp
        obtain ⟨hp0, hq0, hpq⟩ := mem_mv hmem
        simp only at hp0 hq0 hpq
        obtain ⟨p, rfl⟩ := Int.eq_ofNat_of_zero_le hp0
        obtain ⟨q, rfl⟩ := Int.eq_ofNat_of_zero_le hq0
        have HREST := Lib.hid hrest
        clear hmem hrest hp0 hq0
        have hpV : p < V.length := by omega
        have hqV : q < V.length := by omega
        have pins : ∀ pp ∈ cs2, Wb.heap[pp.1]? = some pp.2 := fun pp hp => (hI4.pin pp hp).1
        rw [HCS2.out, HCS.out] at pins
        have c3 := Lib.hid (cell_of_one (pins (w.heap.size, .cells #[.slice (some ⟨b, off, none⟩) hs.length c1] 22 (0, 0)) (by simp)))
        have c10 := Lib.hid (cell_of_one (pins (wr.heap.size, .cells #[.int .i64 (k : Int)] 3 (0, 0)) (by simp)))
        have c12 := cell_of_one (pins (wr.heap.size + 1, .cells #[.int .i64 rest] 3 (0, 0)) (by simp))
        have c7 := cell_of_one (pins (w2.heap.size, .cells #[.slice (some ⟨gv, 0, none⟩) V.length cv] 22 (0, 0)) (by simp))
        have pgb := pins (gv, ogv) (by simp)
        have pbb := pins (b, ob) (by simp)
        have hrow := Hrv.out.of_block (W' := Wb) (pgb.trans HOG.out.symm)
        have cvp := hrow.cellAt p (v := iv (V[p]?.getD 0)) (by rw [List.getElem?_map, List.getElem?_eq_getElem hpV]; rfl)
        have cvq := hrow.cellAt q (v := iv (V[q]?.getD 0)) (by rw [List.getElem?_map, List.getElem?_eq_getElem hqV]; rfl)
        have cb := Lib.hid (show ∀ j, j < hs.length → Wb.cell? ⟨b, off + j, none⟩ = some (iv (hs[j]?.getD 0)) from fun j hj => (World.cell?_of_block (w := w) (w' := Wb) (a := ⟨b, off + j, none⟩) (pbb.trans HOB.out.symm)).trans (HC.out j hj))
        have hbW : b < Wb.heap.size := (Array.getElem?_eq_some_iff.1 pbb).1
        have hBh : w.heap.size < Wb.heap.size := (Array.getElem?_eq_some_iff.1 (pins (w.heap.size, .cells #[.slice (some ⟨b, off, none⟩) hs.length c1] 22 (0, 0)) (by simp))).1
        have hBi : wr.heap.size < Wb.heap.size := (Array.getElem?_eq_some_iff.1 (pins (wr.heap.size, .cells #[.int .i64 (k : Int)] 3 (0, 0)) (by simp))).1
        have hok : okM V rest ((p : Int), (q : Int)) = (bits .xor .i64 (bits .xor .i64 rest (V[p]?.getD 0)) (V[q]?.getD 0) == 0) := by
          unfold okM xr at0
          simp only [Int.toNat_natCast, List.getD_eq_getElem?_getD]
        obtain ⟨vp, hvp⟩ : ∃ vp, V[p]?.getD 0 = vp := ⟨_, rfl⟩
        obtain ⟨vq, hvq⟩ : ∃ vq, V[q]?.getD 0 = vq := ⟨_, rfl⟩
        rw [hvp] at cvp hok
        rw [hvq] at cvq hok
        have HI4 := Lib.hid hI4
        have HOK := Lib.hid hok
        clear hI4 hok pins pgb pbb hrow hvp hvq
        by_cases hz : bits .xor .i64 (bits .xor .i64 rest vp) vq = 0
        · have hz1 : (bits .xor .i64 (bits .xor .i64 rest vp) vq != 0) = false := by rw [hz]; rfl
          have HZ := Lib.hid hz
          clear hz
          gi_wp2
          refine wpIn_still_tail (hWd.inRound l2_) 11 hmix (by kernel_rfl) ?_
          simp only [List.take_succ_cons, List.take_zero, List.drop_succ_cons, List.drop_zero]
          change wpStill _ _ (World.drew Wb) _ _ _
          repeat still_step
          refine wpStill_nil ?_
          change wpListIn _ _ _ _ _ _ _ (World.drew Wb)
          gi_wp2
          clear c12 c7 cvp cvq
          refine wpIn_region_inv hmix (I19 Wb (.slice (some ⟨b, off, none⟩) hs.length c1) hs k p q w.heap.size (w2.heap.size + 1) wr.heap.size) ?g0 ?gend ?gstep
          case g0 => exact i19_start _ _ _ _ _ _ _ _ _ _ _ _ _ _ _ _ _ _ _ _ _ _ _ _ _ _ _ _ _ _ _ _ _ _ _ _ _ _ _ _ _ _ _ _ _ _ _ _ _ _ _ _ _ _ _ _ _ _ _ _ _ _ _ _ _ _ _ _ _ _ _ _ _ _ _ _ _ _ _ _ _ _ _ _ _ _ _ _ _ _ _ (by kernel_rfl) ⟨rfl, rfl, rfl, Nat.le_refl _, fun _ _ _ => rfl⟩
          case gstep =>
            rintro listed a W ⟨b0, b1, b2, b3, b4, b5, b6, b7, b8, b9, b10, v62, v63, v64, v65, v66, v67, v68, v69, v70, v71, v15, g, c, bb, u0, u1, u2, u4, u5, u6, u7, u8, u11, u12, u16, u17, u18, u19, u20, u21, u22, u23, u24, u25, u26, u27, u28, u29, u30, u31, u32, u33, u34, u35, u36, u37, u38, u39, u40, u41, u42, u43, u44, u45, u46, u47, u48, u49, u50, u51, u52, u53, u54, u55, u56, u57, u58, u59, u60, u61, u72, u73, u74, u75, u76, u77, u78, u79, u80, u81, u82, u83, u84, rfl, rfl, h⟩ i hi
            obtain ⟨h0, o, ho, hd⟩ := mem_ready.1 hi
            have hi11 : i < 11 := (Array.getElem?_eq_some_iff.1 ho).1
            clear hi
            rcases (by omega : i = 0 ∨ i = 1 ∨ i = 2 ∨ i = 3 ∨ i = 4 ∨ i = 5 ∨ i = 6 ∨ i = 7 ∨ i = 8 ∨ i = 9 ∨ i = 10) with rfl | rfl | rfl | rfl | rfl | rfl | rfl | rfl | rfl | rfl | rfl
            · -- operation 0
              have e0 : b0 = false := by simpa using h0
              subst e0
              obtain rfl := Option.some.inj ho
              have H := Lib.hid h
              clear h hd
              refine opIn_of_list rfl ?_
              have cW := (H.out.fr.cell (p := ⟨w.heap.size, 0, none⟩) hBh (fun h => h)).trans c3.out
              gi_wp2
              show I19 Wb (.slice (some ⟨b, off, none⟩) hs.length c1) hs k p q w.heap.size (w2.heap.size + 1) wr.heap.size _ _ _
              exact i19_mk (b0 := true) (b1 := b1) (b2 := b2) (b3 := b3) (b4 := b4) (b5 := b5) (b6 := b6) (b7 := b7) (b8 := b8) (b9 := b9) (b10 := b10) (g := g) (c := c) (bb := bb) rfl { H.out with x0 := fun _ => rfl }
            · -- operation 1
              have e0 : b1 = false := by simpa using h0
              subst e0
              obtain rfl := Option.some.inj ho
              have e1' : b0 = true := by simpa using hd ⟨0, Ground.data⟩ (by simp) rfl
              subst e1'
              have f5 : b5 = false := by cases hb5 : b5 with | false => rfl | true => exact absurd (h.o51 hb5) (by simp)
              subst f5
              have f9 : b9 = false := by cases hb9 : b9 with | false => rfl | true => exact absurd (h.o95 hb9) (by simp)
              subst f9
              obtain rfl := h.x0 rfl
              have H := Lib.hid h
              clear h hd
              refine opIn_of_list rfl ?_
              have hcl := Lib.hid (clone_step b off c1 hs W (by omega) (fun j hj => (H.out.fr.cell (p := ⟨b, off + j, none⟩) hbW (fun h => h)).trans (cb.out j hj)))
              gi_wp2_with (gi_at_call 17; refine ((hWd.inRound l2_).calls hcl.out).mono ?_; rintro e w' ⟨g', c', rfl, hg', hrow', hb'⟩; have HG := Lib.hid hg'; have HRW := Lib.hid hrow'; have HB := Lib.hid hb'; clear hg' hrow' hb')
              show I19 Wb (.slice (some ⟨b, off, none⟩) hs.length c1) hs k p q w.heap.size (w2.heap.size + 1) wr.heap.size _ _ _
              have hsz := H.out.fr.size
              exact i19_mk (b0 := true) (b1 := true) (b2 := b2) (b3 := b3) (b4 := b4) (b5 := false) (b6 := b6) (b7 := b7) (b8 := b8) (b9 := false) (b10 := b10) (g := g') (c := c') (bb := bb) rfl { H.out with fr := H.out.fr.trans (Fr.of_below (D := fun _ => False) HB.out) (fun _ h => .inl h), o51 := fun _ => rfl, x1 := fun _ _ => rfl, r1 := fun _ _ => ⟨Nat.le_trans hsz HG.out, HRW.out⟩, x5 := fun h => (by cases h), r5 := fun h => (by cases h), r8 := fun h1 h2 => ⟨(H.out.r8 h1 h2).1, (H.out.r8 h1 h2).2.of_block (HB.out.block _ (H.out.r8 h1 h2).2.lt)⟩, ne := fun _ h1 h2 => by (have := (H.out.r8 h1 h2).2.lt; have := HG.out; omega), x9 := fun h => (by cases h) }
            · -- operation 2
              have e0 : b2 = false := by simpa using h0
              subst e0
              obtain rfl := Option.some.inj ho
              have H := Lib.hid h
              clear h hd
              refine opIn_of_list rfl ?_
              have cW := (H.out.fr.cell (p := ⟨wr.heap.size, 0, none⟩) hBi (fun h => h)).trans c10.out
              gi_wp2
              show I19 Wb (.slice (some ⟨b, off, none⟩) hs.length c1) hs k p q w.heap.size (w2.heap.size + 1) wr.heap.size _ _ _
              exact i19_mk (b0 := b0) (b1 := b1) (b2 := true) (b3 := b3) (b4 := b4) (b5 := b5) (b6 := b6) (b7 := b7) (b8 := b8) (b9 := b9) (b10 := b10) (g := g) (c := c) (bb := bb) rfl { H.out with x2 := fun _ => rfl }
            · -- operation 3
              have e0 : b3 = false := by simpa using h0
              subst e0
              obtain rfl := Option.some.inj ho
              have H := Lib.hid h
              clear h hd
              refine opIn_of_list rfl ?_
              have cW := (H.out.fr.cell (p := ⟨wr.heap.size, 0, none⟩) hBi (fun h => h)).trans c10.out
              gi_wp2
              show I19 Wb (.slice (some ⟨b, off, none⟩) hs.length c1) hs k p q w.heap.size (w2.heap.size + 1) wr.heap.size _ _ _
              exact i19_mk (b0 := b0) (b1 := b1) (b2 := b2) (b3 := true) (b4 := b4) (b5 := b5) (b6 := b6) (b7 := b7) (b8 := b8) (b9 := b9) (b10 := b10) (g := g) (c := c) (bb := bb) rfl { H.out with x3 := fun _ => rfl }
            · -- operation 4
              have e0 : b4 = false := by simpa using h0
              subst e0
              obtain rfl := Option.some.inj ho
              have e4' : b3 = true := by simpa using hd ⟨3, Ground.data⟩ (by simp) rfl
              subst e4'
              obtain rfl := h.x3 rfl
              have H := Lib.hid h
              clear h hd
              refine opIn_of_list rfl ?_
              gi_wp2
              show I19 Wb (.slice (some ⟨b, off, none⟩) hs.length c1) hs k p q w.heap.size (w2.heap.size + 1) wr.heap.size _ _ _
              exact i19_mk (b0 := b0) (b1 := b1) (b2 := b2) (b3 := true) (b4 := true) (b5 := b5) (b6 := b6) (b7 := b7) (b8 := b8) (b9 := b9) (b10 := b10) (g := g) (c := c) (bb := bb) rfl { H.out with x4 := fun _ => rfl }
            · -- operation 5
              have e0 : b5 = false := by simpa using h0
              subst e0
              obtain rfl := Option.some.inj ho
              have e2' : b1 = true := by simpa using hd ⟨1, Ground.data⟩ (by simp) rfl
              subst e2'
              have e3' : b2 = true := by simpa using hd ⟨2, Ground.data⟩ (by simp) rfl
              subst e3'
              have e5' : b4 = true := by simpa using hd ⟨4, Ground.data⟩ (by simp) rfl
              subst e5'
              have f9 : b9 = false := by cases hb9 : b9 with | false => rfl | true => exact absurd (h.o95 hb9) (by simp)
              subst f9
              obtain rfl := h.x2 rfl
              obtain rfl := h.x4 rfl
              obtain rfl := h.x1 rfl rfl
              obtain ⟨hg, hrow⟩ := h.r1 rfl rfl
              have H := Lib.hid h
              clear h hd
              refine opIn_of_list rfl ?_
              have HROW := Lib.hid hrow
              have HG := Lib.hid hg
              have hcl := Lib.hid (delete_step g c k hs W hrow hlt)
              clear hg hrow
              gi_wp2_with (gi_at_call 16; refine ((hWd.inRound l2_).calls hcl.out).mono ?_; rintro e w' ⟨rfl, hrow', hf'⟩; have HRW := Lib.hid hrow'; have HF := Lib.hid hf'; clear hrow' hf')
              show I19 Wb (.slice (some ⟨b, off, none⟩) hs.length c1) hs k p q w.heap.size (w2.heap.size + 1) wr.heap.size _ _ _
              exact i19_mk (b0 := b0) (b1 := true) (b2 := true) (b3 := b3) (b4 := true) (b5 := true) (b6 := b6) (b7 := b7) (b8 := b8) (b9 := false) (b10 := b10) (g := g) (c := c) (bb := bb) rfl { H.out with fr := H.out.fr.trans HF.out (fun k h => .inr (by rw [h]; exact HG.out)), o51 := fun _ => rfl, o95 := fun h => (by cases h), x1 := fun _ h => (by cases h), r1 := fun _ h => (by cases h), x5 := fun _ _ => rfl, r5 := fun _ _ => ⟨HG.out, HRW.out⟩, r8 := fun h1 h2 => ⟨(H.out.r8 h1 h2).1, (H.out.r8 h1 h2).2.fr HF.out (Ne.symm (H.out.ne rfl h1 h2))⟩, x9 := fun h => (by cases h) }
            · -- operation 6
              have e0 : b6 = false := by simpa using h0
              subst e0
              obtain rfl := Option.some.inj ho
              have H := Lib.hid h
              clear h hd
              refine opIn_of_list rfl ?_
              gi_wp2
              show I19 Wb (.slice (some ⟨b, off, none⟩) hs.length c1) hs k p q w.heap.size (w2.heap.size + 1) wr.heap.size _ _ _
              exact i19_mk (b0 := b0) (b1 := b1) (b2 := b2) (b3 := b3) (b4 := b4) (b5 := b5) (b6 := true) (b7 := b7) (b8 := b8) (b9 := b9) (b10 := b10) (g := g) (c := c) (bb := bb) rfl { H.out with x6 := fun _ => rfl }
            · -- operation 7
              have e0 : b7 = false := by simpa using h0
              subst e0
              obtain rfl := Option.some.inj ho
              have H := Lib.hid h
              clear h hd
              refine opIn_of_list rfl ?_
              gi_wp2
              show I19 Wb (.slice (some ⟨b, off, none⟩) hs.length c1) hs k p q w.heap.size (w2.heap.size + 1) wr.heap.size _ _ _
              exact i19_mk (b0 := b0) (b1 := b1) (b2 := b2) (b3 := b3) (b4 := b4) (b5 := b5) (b6 := b6) (b7 := true) (b8 := b8) (b9 := b9) (b10 := b10) (g := g) (c := c) (bb := bb) rfl { H.out with x7 := fun _ => rfl }
            · -- operation 8
              have e0 : b8 = false := by simpa using h0
              subst e0
              obtain rfl := Option.some.inj ho
              have e7' : b6 = true := by simpa using hd ⟨6, Ground.data⟩ (by simp) rfl
              subst e7'
              have e8' : b7 = true := by simpa using hd ⟨7, Ground.data⟩ (by simp) rfl
              subst e8'
              have f9 : b9 = false := by cases hb9 : b9 with | false => rfl | true => exact absurd (h.o98 hb9) (by simp)
              subst f9
              obtain rfl := h.x6 rfl
              obtain rfl := h.x7 rfl
              have H := Lib.hid h
              clear h hd
              refine opIn_of_list rfl ?_
              gi_wp2
              show I19 Wb (.slice (some ⟨b, off, none⟩) hs.length c1) hs k p q w.heap.size (w2.heap.size + 1) wr.heap.size _ _ _
              have hsz := H.out.fr.size
              exact i19_mk (b0 := b0) (b1 := b1) (b2 := b2) (b3 := b3) (b4 := b4) (b5 := b5) (b6 := true) (b7 := true) (b8 := true) (b9 := false) (b10 := b10) (g := g) (c := c) (bb := W.heap.size) rfl { H.out with fr := H.out.fr.trans (Fr.alloc (fun _ => False) W _) (fun _ h => .inl h), o98 := fun _ => rfl, r1 := fun h1 h2 => ⟨(H.out.r1 h1 h2).1, (H.out.r1 h1 h2).2.of_block (Below.heap_alloc _ _ _ (H.out.r1 h1 h2).2.lt)⟩, r5 := fun h1 h2 => ⟨(H.out.r5 h1 h2).1, (H.out.r5 h1 h2).2.of_block (Below.heap_alloc _ _ _ (H.out.r5 h1 h2).2.lt)⟩, x8 := fun _ _ => rfl, r8 := fun _ _ => ⟨hsz, ⟨_, World.alloc_heap_new W _, rfl, by unfold maxLen; omega, by simp, rfl⟩⟩, ne := fun h1 _ _ => by (cases hb5 : b5 with | false => (have := (H.out.r1 h1 hb5).2.lt; omega) | true => (have := (H.out.r5 hb5 rfl).2.lt; omega)), x9 := fun h => (by cases h) }
            · -- operation 9
              have e0 : b9 = false := by simpa using h0
              subst e0
              obtain rfl := Option.some.inj ho
              have e6' : b5 = true := by simpa using hd ⟨5, Ground.data⟩ (by simp) rfl
              subst e6'
              have e9' : b8 = true := by simpa using hd ⟨8, Ground.data⟩ (by simp) rfl
              subst e9'
              obtain rfl := h.x5 rfl rfl
              obtain rfl := h.x8 rfl rfl
              obtain ⟨hg, hrow⟩ := h.r5 rfl rfl
              obtain ⟨hgb, hrowb⟩ := h.r8 rfl rfl
              have hne := h.ne (h.o51 rfl) rfl rfl
              have H := Lib.hid h
              clear h hd
              refine opIn_of_list rfl ?_
              have HROW := Lib.hid hrow
              have HG := Lib.hid hg
              have HROWB := Lib.hid hrowb
              have HNE := Lib.hid hne
              clear hg hrow hgb hrowb hne
              have hlen : (hs.eraseIdx k).length + 1 = hs.length := by rw [List.length_eraseIdx, if_pos hlt]; omega
              obtain ⟨i0, hi, hz0, hz1, hz2⟩ := info_parts info3
              have hown0 := HROW.out.owns (base := Wb.heap.size) HG.out
              rw [List.length_map] at hown0
              have HOWN := Lib.hid hown0
              clear hown0
              refine wpListIn_append_own_at _ rfl _ _ 22 rfl Wb.heap.size 3 i0 (.int .i64 0) 1 8 Tryz.underlying22 hi hz0 hz1 hz2 rfl (by decide) _ _ _ rfl HOWN.out ⟨bb, 0, none⟩ 2 2 [iv p, iv q] rfl rfl (fun j u hj => by rw [Addr.add_lit, Nat.zero_add]; exact HROWB.out.cellAt j hj) (by simp [Value.oneCell']) (by unfold maxLen; omega) (by omega) H.out.fr.size ?_
              intro v' w1 hown' hgrow _ hat
              obtain ⟨g', cap', rfl⟩ := ownsRow_succ hown'
              have HO := Lib.hid hown'
              have HGR := Lib.hid hgrow
              clear hown' hgrow hat
              gi_wp2
              show I19 Wb (.slice (some ⟨b, off, none⟩) hs.length c1) hs k p q w.heap.size (w2.heap.size + 1) wr.heap.size _ _ _
              obtain ⟨g2, c2, ee, hg2, hr2, _⟩ := Row.of_owns HO.out (by intro h; cases h)
              have q1 : g' = g2 := by injection ee with q1; injection q1 with q1; injection q1
              have q3 : cap' = c2 := by injection ee
              subst q1
              subst q3
              have hf' : Fr (fun _ => False) Wb w1 := H.out.fr.trans (Fr.grown (D := fun i => i = g) HGR.out (fun i e => by cases e; exact .inl rfl)) (fun i h => .inr (by rw [h]; exact HG.out))
              exact i19_mk (b0 := b0) (b1 := b1) (b2 := b2) (b3 := b3) (b4 := b4) (b5 := true) (b6 := b6) (b7 := b7) (b8 := true) (b9 := true) (b10 := b10) (g := g) (c := c) (bb := bb) rfl { H.out with fr := hf', o95 := fun _ => rfl, o98 := fun _ => rfl, x1 := fun _ h => (by cases h), r1 := fun _ h => (by cases h), x5 := fun _ h => (by cases h), r5 := fun _ h => (by cases h), x8 := fun _ h => (by cases h), r8 := fun _ h => (by cases h), ne := fun _ _ h => (by cases h), x9 := fun _ => ⟨g', cap', by { rw [List.length_append]; show Value.slice _ (hs.length + 1) _ = Value.slice _ ((hs.eraseIdx k).length + 2) _; rw [← hlen] }, hg2, by rw [List.map_append]; exact hr2⟩, x10 := fun h => absurd (H.out.x10 h).2 (by decide) }
            · -- operation 10
              have e0 : b10 = false := by simpa using h0
              subst e0
              obtain rfl := Option.some.inj ho
              have e1' : b0 = true := by simpa using hd ⟨0, Ground.phase⟩ (by simp) rfl
              subst e1'
              have e2' : b1 = true := by simpa using hd ⟨1, Ground.phase⟩ (by simp) rfl
              subst e2'
              have e3' : b2 = true := by simpa using hd ⟨2, Ground.phase⟩ (by simp) rfl
              subst e3'
              have e4' : b3 = true := by simpa using hd ⟨3, Ground.phase⟩ (by simp) rfl
              subst e4'
              have e5' : b4 = true := by simpa using hd ⟨4, Ground.phase⟩ (by simp) rfl
              subst e5'
              have e6' : b5 = true := by simpa using hd ⟨5, Ground.phase⟩ (by simp) rfl
              subst e6'
              have e7' : b6 = true := by simpa using hd ⟨6, Ground.phase⟩ (by simp) rfl
              subst e7'
              have e8' : b7 = true := by simpa using hd ⟨7, Ground.phase⟩ (by simp) rfl
              subst e8'
              have e9' : b8 = true := by simpa using hd ⟨8, Ground.phase⟩ (by simp) rfl
              subst e9'
              have e10' : b9 = true := by simpa using hd ⟨9, Ground.phase⟩ (by simp) rfl
              subst e10'
              have H := Lib.hid h
              clear h hd
              refine opIn_of_list rfl ?_
              gi_wp2
              show I19 Wb (.slice (some ⟨b, off, none⟩) hs.length c1) hs k p q w.heap.size (w2.heap.size + 1) wr.heap.size _ _ _
              exact i19_mk (b0 := true) (b1 := true) (b2 := true) (b3 := true) (b4 := true) (b5 := true) (b6 := true) (b7 := true) (b8 := true) (b9 := true) (b10 := true) (g := g) (c := c) (bb := bb) rfl { H.out with x10 := fun _ => ⟨rfl, rfl⟩ }

          case gend =>
            rintro listed a W hrd ⟨b0, b1, b2, b3, b4, b5, b6, b7, b8, b9, b10, v62, v63, v64, v65, v66, v67, v68, v69, v70, v71, v15, g, c, bb, u0, u1, u2, u4, u5, u6, u7, u8, u11, u12, u16, u17, u18, u19, u20, u21, u22, u23, u24, u25, u26, u27, u28, u29, u30, u31, u32, u33, u34, u35, u36, u37, u38, u39, u40, u41, u42, u43, u44, u45, u46, u47, u48, u49, u50, u51, u52, u53, u54, u55, u56, u57, u58, u59, u60, u61, u72, u73, u74, u75, u76, u77, u78, u79, u80, u81, u82, u83, u84, rfl, rfl, h⟩
            have t0 : b0 = true := by
              cases hb : b0 with
              | true => rfl
              | false =>
                have hin : (0 : Nat) ∈ ([] : List Nat) := by
                  rw [← hrd, mem_ready]
                  exact ⟨by simp [hb], _, rfl, by simp [Region.binds]⟩
                exact absurd hin (by simp)
            have t1 : b1 = true := by
              cases hb : b1 with
              | true => rfl
              | false =>
                have hin : (1 : Nat) ∈ ([] : List Nat) := by
                  rw [← hrd, mem_ready]
                  exact ⟨by simp [hb], _, rfl, by simp [Region.binds, t0]⟩
                exact absurd hin (by simp)
            have t2 : b2 = true := by
              cases hb : b2 with
              | true => rfl
              | false =>
                have hin : (2 : Nat) ∈ ([] : List Nat) := by
                  rw [← hrd, mem_ready]
                  exact ⟨by simp [hb], _, rfl, by simp [Region.binds]⟩
                exact absurd hin (by simp)
            have t3 : b3 = true := by
              cases hb : b3 with
              | true => rfl
              | false =>
                have hin : (3 : Nat) ∈ ([] : List Nat) := by
                  rw [← hrd, mem_ready]
                  exact ⟨by simp [hb], _, rfl, by simp [Region.binds]⟩
                exact absurd hin (by simp)
            have t4 : b4 = true := by
              cases hb : b4 with
              | true => rfl
              | false =>
                have hin : (4 : Nat) ∈ ([] : List Nat) := by
                  rw [← hrd, mem_ready]
                  exact ⟨by simp [hb], _, rfl, by simp [Region.binds, t3]⟩
                exact absurd hin (by simp)
            have t5 : b5 = true := by
              cases hb : b5 with
              | true => rfl
              | false =>
                have hin : (5 : Nat) ∈ ([] : List Nat) := by
                  rw [← hrd, mem_ready]
                  exact ⟨by simp [hb], _, rfl, by simp [Region.binds, t1, t2, t4]⟩
                exact absurd hin (by simp)
            have t6 : b6 = true := by
              cases hb : b6 with
              | true => rfl
              | false =>
                have hin : (6 : Nat) ∈ ([] : List Nat) := by
                  rw [← hrd, mem_ready]
                  exact ⟨by simp [hb], _, rfl, by simp [Region.binds]⟩
                exact absurd hin (by simp)
            have t7 : b7 = true := by
              cases hb : b7 with
              | true => rfl
              | false =>
                have hin : (7 : Nat) ∈ ([] : List Nat) := by
                  rw [← hrd, mem_ready]
                  exact ⟨by simp [hb], _, rfl, by simp [Region.binds]⟩
                exact absurd hin (by simp)
            have t8 : b8 = true := by
              cases hb : b8 with
              | true => rfl
              | false =>
                have hin : (8 : Nat) ∈ ([] : List Nat) := by
                  rw [← hrd, mem_ready]
                  exact ⟨by simp [hb], _, rfl, by simp [Region.binds, t6, t7]⟩
                exact absurd hin (by simp)
            have t9 : b9 = true := by
              cases hb : b9 with
              | true => rfl
              | false =>
                have hin : (9 : Nat) ∈ ([] : List Nat) := by
                  rw [← hrd, mem_ready]
                  exact ⟨by simp [hb], _, rfl, by simp [Region.binds, t5, t8]⟩
                exact absurd hin (by simp)
            have t10 : b10 = true := by
              cases hb : b10 with
              | true => rfl
              | false =>
                have hin : (10 : Nat) ∈ ([] : List Nat) := by
                  rw [← hrd, mem_ready]
                  exact ⟨by simp [hb], _, rfl, by simp [Region.binds, t0, t1, t2, t3, t4, t5, t6, t7, t8, t9]⟩
                exact absurd hin (by simp)
            obtain ⟨rfl, _⟩ := h.x10 t10
            obtain ⟨g', c', rfl, hg', hr'⟩ := h.x9 t9
            have hfr := h.fr
            clear h hrd t0 t1 t2 t3 t4 t5 t6 t7 t8 t9 t10
            obtain ⟨l0, hl0⟩ : ∃ l0, hs.eraseIdx k ++ [(p : Int), (q : Int)] = l0 := ⟨_, rfl⟩
            rw [hl0] at hr'
            simp only [hl0]
            obtain ⟨l1, hl1⟩ : ∃ l1, (l0.filter fun n => !(n == 0)) = l1 := ⟨_, rfl⟩
            obtain ⟨l2, hl2⟩ : ∃ l2, isort l1 = l2 := ⟨_, rfl⟩
            have hl2e : ownOf hs k ((p : Int), (q : Int)) = l2 := by unfold ownOf; simp only; rw [hl0, hl1, hl2]
            have hlen0 : l0.length ≤ 100 := by
              rw [← hl0, List.length_append, List.length_eraseIdx]
              simp only [List.length_cons, List.length_nil]
              split <;> omega
            have hlen1 : l1.length ≤ 100 := by rw [← hl1]; exact Nat.le_trans (List.length_filter_le _ _) hlen0
            have hlen2 : l2.length = l1.length := by rw [← hl2]; exact (isort_perm l1).length_eq
            have hdf := delfunc_step g' c' l0 W hr'
            rw [hl1] at hdf
            have HDF := Lib.hid hdf
            have hst : ∀ W6, Row W6 3 g' c' (l1.map iv) → Calls Tryz.prog 20 #[.slice (some ⟨g', 0, none⟩) l1.length c'] W6 fun e w' => e = .returned (.tuple #[]) ∧ Row w' 3 g' c' (l2.map iv) ∧ Fr (fun k => k = g') W6 w' := fun W6 h => by
              have := sort_step g' c' l1 W6 (by omega) h
              rwa [hl2] at this
            have HST := Lib.hid hst
            have HG := Lib.hid hg'
            have HFR := Lib.hid hfr
            have HRR := Lib.hid hr'
            have HL2E := Lib.hid hl2e
            have HLEN := Lib.hid (show l2.length ≤ 100 from by omega)
            have HL12 := Lib.hid hlen2
            have hvo : ∀ i, vo4.ownBlock = some i → i < Wb.heap.size := fun i hi => (ownsRow_lt HI4.out.out.own i hi).2
            have hBoW : w2.heap.size + 1 < Wb.heap.size := (Array.getElem?_eq_some_iff.1 HI4.out.box).1
            have hbne : vo4.ownBlock ≠ some (w2.heap.size + 1) := by
              intro h
              rcases HI4.out.out.own.2 with ⟨h2, _⟩ | ⟨g, cap, cur, h2, _, h3, _⟩
              · rw [h2] at h; simp [Value.ownBlock] at h
              · rw [h2] at h
                have : g = w2.heap.size + 1 := by simpa [Value.ownBlock] using h
                subst this
                rw [HI4.out.box] at h3
                injection h3 with h3
                injection h3 with _ h3
                exact absurd h3 (by decide)
            have hlenE : es4.length ≤ 100000000 := by
              have h1 : es4.length = (outsTo d V hs k ++ (pre.filter (okM V rest)).map (ownOf hs k)).length := by rw [← List.length_map (f := fun e : Ent => e.2.2), HI4.out.key]
              have h2 := outsTo_len d V hs HR.out HIC.out.le k
              have h3 : (((pre.filter (okM V rest)).map (ownOf hs k))).length ≤ pre.length := by rw [List.length_map]; exact List.length_filter_le _ _
              have h4 : pre.length ≤ 300100 := by
                have h5 := mv_len d (x : Int) (by omega) HIC.out.le
                have h6 := congrArg List.length HREST.out
                rw [List.length_append] at h6
                omega
              rw [List.length_append] at h1
              omega
            have HVO := Lib.hid hvo
            have HBNE := Lib.hid hbne
            clear hdf hst hg' hfr hr' hl2e hlen2 hl0 hl1 hl2 hlen0 hlen1 hvo hbne
            obtain ⟨i1, hi1, hy0, hy1, hy2⟩ := info_parts info22
            gi_wp2_with (first
              | (gi_at_call 18; refine ((hWd.inRound l2_).calls HDF.out).mono ?_; rintro e w6 ⟨rfl, hr6, hf6⟩; have HR6 := Lib.hid hr6; have HF6 := Lib.hid hf6; clear hr6 hf6)
              | (gi_at_call 20; refine ((hWd.inRound l2_).calls (HST.out _ HR6.out)).mono ?_; rintro e w7 ⟨rfl, hr7, hf7⟩; have HF7 : Hid (Fr (fun _ => False) Wb w7) := (HFR.out.trans HF6.out (fun i h => .inr (by rw [h]; exact HG.out))).trans hf7 (fun i h => .inr (by rw [h]; exact HG.out)); have cbo7 : w7.cell? ⟨w2.heap.size + 1, 0, none⟩ = some vo4 := cell_of_one ((HF7.out.block _ hBoW (fun h => h)).trans HI4.out.box); have HR7 := Lib.hid hr7; clear hr7 hf7; have HB7 : Hid (w7.heap[w2.heap.size + 1]? = some (.cells #[vo4] 24 (0, 0))) := (HF7.out.block _ hBoW (fun h => h)).trans HI4.out.box; have HOWN7 : Hid ((w7.alloc (.cells #[.slice (some ⟨g', 0, none⟩) l1.length c'] 22)).ownsRow w.heap.size 22 1 vo4 es4.length (es4.map encE)) := (ownsRow_any HI4.out.out.own (fun i hi => HF7.out.block i (HVO.out i hi) (fun h => h))).alloc _; have Hb1' : Hid (∀ w1 : World, (w7.alloc (.cells #[.slice (some ⟨g', 0, none⟩) l1.length c'] 22)).grownBy w1 vo4.ownBlock → w1.heap[w2.heap.size + 1]? = some (.cells #[vo4] 24 (0, 0))) := fun w1 hgr => (hgr.block _ (by have := HF7.out.size; simp; omega) (fun e => HBNE.out e.symm)).trans ((Below.heap_alloc w7 _ _ (by have := HF7.out.size; omega)).trans HB7.out))
              | (gi_at_builtin; refine wpListIn_append_own_at _ rfl _ _ 24 rfl w.heap.size 22 i1 (.slice none 0 0) 1 24 Tryz.underlying24 hi1 hy0 hy1 hy2 rfl (by decide) _ _ _ rfl HOWN7.out ⟨w7.heap.size, 0, none⟩ 1 1 [.slice (some ⟨g', 0, none⟩) l1.length c'] rfl rfl (cell_one_new _ _ _) (by simp [Value.oneCell']) (by unfold maxLen; omega) (by omega) (by have := HF7.out.size; simp; omega) ?_; intro v' w1 hown' hgrow _ hat; obtain ⟨g8, cap8, rfl⟩ := ownsRow_succ hown'; have hb1 := Hb1'.out w1 hgrow; have hc1 := cell_of_one hb1; have hf1 := free_of_one hb1; have HO8 := Lib.hid hown'; have HG8 := Lib.hid hgrow; have HAT := Lib.hid hat; have HB1 := Lib.hid hb1; clear hown' hgrow hat hb1))
            have hs7 := HF7.out.size
            have hg7 : g' < w7.heap.size := HR7.out.lt
            have hgW := HG.out
            have hat8 : some g8 = vo4.ownBlock ∨ g8 = w7.heap.size + 1 := by
              rcases HAT.out with e | e
              · exact .inl e
              · right; simpa [Value.ownBlock] using e
            have hg8 : g8 ≠ w2.heap.size + 1 := by
              rcases hat8 with e | e
              · intro h; exact HBNE.out (by rw [← e, h])
              · omega
            obtain ⟨wf, hwf⟩ : ∃ wf, w1.setCell ⟨w2.heap.size + 1, 0, none⟩ (.slice (some ⟨g8, 0, none⟩) (es4.length + 1) cap8) = wf := ⟨_, rfl⟩
            have hf8 : Fr (fun i => i = w2.heap.size + 1 ∨ vo4.ownBlock = some i) w7 wf := by
              rw [← hwf]
              exact ((Fr.alloc (fun i => i = w2.heap.size + 1 ∨ vo4.ownBlock = some i) w7 _).trans (Fr.grown (D := fun i => i = w2.heap.size + 1 ∨ vo4.ownBlock = some i) HG8.out (fun i e => .inl (.inr e))) (fun i h => .inl h)).trans (Fr.setCell (D := fun i => i = w2.heap.size + 1 ∨ vo4.ownBlock = some i) w1 _ _ (.inl (.inl rfl))) (fun i h => .inl h)
            have hfb : Fr (fun i => i = w2.heap.size + 1 ∨ vo4.ownBlock = some i) Wb wf := (HF7.out.mono (fun i _ h => h.elim)).trans hf8 (fun i h => .inl h)
            have keep : ∀ i, i < Wb.heap.size → i ≠ w2.heap.size + 1 → vo4.ownBlock ≠ some i → wf.heap[i]? = Wb.heap[i]? := fun i h1 h2 h3 => hfb.block i h1 (fun h => h.elim h2 h3)
            have hbox : wf.heap[w2.heap.size + 1]? = some (.cells #[.slice (some ⟨g8, 0, none⟩) (es4.length + 1) cap8] 24 (0, 0)) := by rw [← hwf]; exact one_setCell HB1.out
            have hown8 : wf.ownsRow w.heap.size 22 1 (.slice (some ⟨g8, 0, none⟩) (es4.length + 1) cap8) (es4.length + 1) (es4.map encE ++ [.slice (some ⟨g', 0, none⟩) l1.length c']) := by
              rw [← hwf]
              exact HO8.out.kept (grownBy_setCell' w1 (w2.heap.size + 1) _) (.inr (fun e => hg8 (by simpa [Value.ownBlock] using e)))
            have hvb : ∀ i, vo4.ownBlock = some i → ∃ cur, Wb.heap[i]? = some (.cells cur 22 (0, 0)) := by
              intro i hi
              rcases HI4.out.out.own.2 with ⟨h2, _⟩ | ⟨g, cap, cur, h2, _, h3, _⟩
              · rw [h2] at hi; simp [Value.ownBlock] at hi
              · rw [h2] at hi
                have : g = i := by simpa [Value.ownBlock] using hi
                exact ⟨cur, by rw [← this]; exact h3⟩
            have hok1 : okM V rest ((p : Int), (q : Int)) = true := by rw [HOK.out, HZ.out]; rfl
            have hlenN : (es4 ++ [(g', c', l2)]).length = es4.length + 1 := by simp
            show Goes _ _ _ _ _
            refine ⟨fun i => (∃ o, (i, o) ∈ cs2) ∨ i = w2.heap.size + 1 ∨ (Value.slice (some ⟨g8, 0, none⟩) (es4.length + 1) cap8).ownBlock = some i ∨ ∃ e ∈ es4 ++ [(g', c', l2)], e.1 = i, ⟨.slice (some ⟨g8, 0, none⟩) (es4.length + 1) cap8, es4 ++ [(g', c', l2)], ⟨fun i => Iff.rfl, ?_, ?_, ⟨?_, ?_, ?_⟩, ?_, HI4.out.lo⟩⟩, ?_, ?_⟩
            · intro pp hp
              obtain ⟨h1, h2, h3, h4⟩ := HI4.out.pin pp hp
              have hlt1 := (Array.getElem?_eq_some_iff.1 h1).1
              refine ⟨?_, h2, h3, ?_⟩
              · rw [hwf]; exact (keep pp.1 hlt1 h3 h4).trans h1
              · intro h
                have : g8 = pp.1 := by simpa [Value.ownBlock] using h
                rcases hat8 with e | e
                · exact h4 (by rw [← e, this])
                · omega
            · rw [hwf]; exact hbox
            · rw [hwf, hlenN, List.map_append]
              have : [((g', c', l2) : Ent)].map encE = [.slice (some ⟨g', 0, none⟩) l1.length c'] := by simp [encE, HL12.out]
              rw [this]
              exact hown8
            · rw [hwf]
              intro e he
              rcases List.mem_append.1 he with he | he
              · have hfit := HI4.out.out.fits e he
                refine ⟨hfit.1, hfit.2.1.of_block (keep e.1 hfit.2.1.lt (hfit.ne HI4.out.box (by decide)) (fun h => ?_)), hfit.2.2⟩
                obtain ⟨cur, hcur⟩ := hvb _ h
                exact hfit.ne hcur (by decide) rfl
              · have : e = (g', c', l2) := by simpa using he
                subst this
                refine ⟨by have := hszb; have := HI4.out.lo; show w.heap.size ≤ g'; omega, HR7.out.of_block (hf8.block g' hg7 (fun h => ?_)), by have := HLEN.out; show l2.length ≤ 1000000; omega⟩
                rcases h with h | h
                · omega
                · have := HVO.out _ h; omega
            · rw [List.map_append]
              refine List.nodup_append.2 ⟨HI4.out.out.nodup, by simp, ?_⟩
              intro i hi j hj
              obtain ⟨e, he, rfl⟩ := List.mem_map.1 hi
              have h1 := (HI4.out.out.fits e he).2.1.lt
              have h2 : j = g' := by simpa using hj
              omega
            · rw [List.map_append, HI4.out.key]
              simp [List.filter_append, hok1, HL2E.out]
            · rw [hwf]
              exact hfb.mono (fun i _ h => (HI4.out.dom i).2 (h.elim (fun h => .inr (.inl h)) (fun h => .inr (.inr (.inl h)))))
            · intro i hi
              rcases hi with hi | hi | hi | ⟨e, he, hi⟩
              · exact .inl ((HI4.out.dom i).2 (.inl hi))
              · exact .inl ((HI4.out.dom i).2 (.inr (.inl hi)))
              · have : g8 = i := by simpa [Value.ownBlock] using hi
                rcases hat8 with e | e
                · exact .inl ((HI4.out.dom i).2 (.inr (.inr (.inl (by rw [← e, this])))))
                · right; omega
              · rcases List.mem_append.1 he with he | he
                · exact .inl ((HI4.out.dom i).2 (.inr (.inr (.inr ⟨e, he, hi⟩))))
                · have : e = (g', c', l2) := by simpa using he
                  subst this
                  right
                  simp only at hi
                  omega

        · -- the move leads elsewhere
          have hz1 : (bits .xor .i64 (bits .xor .i64 rest vp) vq != 0) = true := by simpa using hz
          have HZ := Lib.hid hz
          clear hz
          gi_wp2
          refine wpIn_still_tail (hWd.inRound l2_) 11 hmix (by kernel_rfl) ?_
          simp only [List.take_succ_cons, List.take_zero, List.drop_succ_cons, List.drop_zero]
          change wpStill _ _ (World.drew Wb) _ _ _
          repeat still_step
          refine wpStill_nil ?_
          change wpListIn _ _ _ _ _ _ _ (World.drew Wb)
          gi_wp2
          have hI := HI4.out.move (W' := Wb.drew) (fun _ _ => rfl)
          have hk0 : okM V rest ((p : Int), (q : Int)) = false := by rw [HOK.out]; simpa using HZ.out
          exact ⟨D4, ⟨vo4, es4, ⟨hI.dom, hI.pin, hI.box, hI.out, by rw [hI.key]; simp [List.filter_append, hk0], hI.lo⟩⟩, Fr.drew _ _, fun i h => .inl h⟩

      case done =>
        rintro D5 xs Wd rfl ⟨vo5, es5, hI5⟩ hfr hsub hnd hdef
        have HI5 := Lib.hid hI5
        have HFR := Lib.hid hfr
        have HDEF := Lib.hid hdef
        clear hI5 hfr hsub hnd hdef
        gi_wp2
        have hs5 := HS5.out
        have hfr := HFR.out
        have hbw := H5.out.below HI5.out hfr (by omega)
        have hBB : Below w.heap.size w Wd := HBW.out.trans ((HB5.out.mono HBW.out.size).trans hbw)
        refine ⟨⟨k + 1, { target := .collected w5.heap.size, args := #[] } :: ds, fun i => (∃ o, (i, o) ∈ cs) ∨ i = w2.heap.size + 1 ∨ vo5.ownBlock = some i ∨ ∃ e ∈ es5, e.1 = i, _, _, _, _, _, _, _, _, _, _, _, _, _, _, _, _, _, _, _, _, _, _, _, _, _, _, _, _, _, _, _, _, _, _, _, _, _, _, _, _, _, _, _, _, _, _, _, _, _, _, _, _, _, _, _, _, _, _, _, _, _, _, _, _, _, _, _, _, _, _, _, _, _, by omega, ⟨vo5, es5, ⟨fun i => Iff.rfl, fun pp hp => HI5.out.pin pp (by rw [HCS2.out]; exact List.mem_append_left _ hp), HI5.out.box, HI5.out.out, ?_, HI5.out.lo⟩⟩, hBB, ?_, ?_, rfl⟩, ?_⟩
        · rw [HI5.out.key, outsTo_succ]
          congr 1
          unfold outsAt
          rw [List.getD_eq_getElem?_getD, HX.out]
          congr 1
          have e1 : at0 V (x : Int) = vx := by unfold at0; rw [Int.toNat_natCast, List.getD_eq_getElem?_getD]; exact HVX.out
          rw [HALL.out, e1, show xr all vx = rest from hrs]
        · intro y hy
          rcases List.mem_cons.1 hy with rfl | hy
          · exact ⟨w5.heap.size, rfl, by have := HBW.out.size; omega, HDEF.out⟩
          · obtain ⟨r, e1, e2, e3⟩ := HMK.out y hy
            have hr := (Array.getElem?_eq_some_iff.1 e3).1
            have e4 := (HB5.out.block r hr).trans e3
            exact ⟨r, e1, e2, (hfr.block r (by omega) (H5.out.mark e4)).trans e4⟩
        · refine List.pairwise_cons.2 ⟨fun c hc r e1 e2 => ?_, HDI.out⟩
          obtain ⟨y, hy, rfl⟩ := List.mem_map.1 hc
          obtain ⟨r', f1, _, f3⟩ := HMK.out y hy
          have := (Array.getElem?_eq_some_iff.1 f3).1
          rw [f1] at e2
          cases e1
          cases e2
          omega
        · simp [LoopPM, intOf]; omega

      case stop =>
        rintro D5 cx pre Wd h
        exact h.elim
    · -- all heaps are done
      have hke : k = hs.length := by omega
      have cbo := cell_of_one HI.out.box
      have hlen : es.length ≤ 100000000 := by
        have h1 : es.length = (outsTo d V hs k).length := by rw [← List.length_map (f := fun e : Ent => e.2.2), HI.out.key]
        have h2 := outsTo_len d V hs HR.out HIC.out.le k
        omega
      have hso := Lib.hid (sortOut w.heap.size wr vo es HI.out.out hlen)
      have hbne : vo.ownBlock ≠ some (w2.heap.size + 1) := by
        intro h
        rcases HI.out.out.own.2 with ⟨h2, _⟩ | ⟨g, cap, cur, h2, _, h3, _⟩
        · rw [h2] at h; simp [Value.ownBlock] at h
        · rw [h2] at h
          have : g = w2.heap.size + 1 := by simpa [Value.ownBlock] using h
          subst this
          rw [HI.out.box] at h3
          injection h3 with h3
          injection h3 with _ h3
          exact absurd h3 (by decide)
      have hcmp : ∀ (w6 : World) (es6 : List Ent), OutS w.heap.size w6 vo es6 → es6.length = es.length → Calls Tryz.prog 23 #[vo, .func (.func 24) #[] #[]] w6 fun e w' => ∃ v' es', e = .returned v' ∧ OutS w.heap.size w' v' es' ∧ es'.map (fun e => e.2.2) = dedup (es6.map (fun e => e.2.2)) ∧ Fr (fun k => vo.ownBlock = some k) w6 w' := fun w6 es6 h hl => compactOut w.heap.size w6 vo es6 h (by omega)
      have HCMP := Lib.hid hcmp
      have HLEN := Lib.hid hlen
      have HBNE := Lib.hid hbne
      have HKE := Lib.hid hke
      clear hcmp hlen hbne hke
      gi_wp2_with (first
        | (gi_at_call 21; refine (hWd.calls hso.out).mono ?_; rintro e w6 ⟨rfl, es6, ho6, hl6, hk6, hf6⟩; have cbo6 : w6.cell? ⟨w2.heap.size + 1, 0, none⟩ = some vo := (hf6.cell (p := ⟨w2.heap.size + 1, 0, none⟩) (Array.getElem?_eq_some_iff.1 HI.out.box).1 HBNE.out).trans cbo; have HO6 := Lib.hid ho6; have HL6 := Lib.hid hl6; have HK6 := Lib.hid hk6; have HF6 := Lib.hid hf6; clear ho6 hl6 hk6 hf6)
        | (gi_at_call 23; refine (hWd.calls (HCMP.out _ _ HO6.out HL6.out)).mono ?_; rintro e w7 ⟨v7, es7, rfl, ho7, hk7, hf7⟩; have HO7 := Lib.hid ho7; have HK7 := Lib.hid hk7; have HF7 := Lib.hid hf7; clear ho7 hk7 hf7))
      have hf : Fr (fun i => vo.ownBlock = some i) wr w7 := HF6.out.trans HF7.out (fun i h => .inl h)
      have hlo : ∀ i, vo.ownBlock = some i → w.heap.size ≤ i := fun i h => (ownsRow_lt HI.out.out.own i h).1
      have hmk : ∀ y ∈ ds, ∃ r, y.target = .collected r ∧ w.heap.size ≤ r ∧ w7.heap[r]? = some (.deferred (some [])) := by
        intro y hy
        obtain ⟨r, e1, e2, e3⟩ := HMK.out y hy
        have hr := (Array.getElem?_eq_some_iff.1 e3).1
        exact ⟨r, e1, e2, (hf.block r hr (fun h => HI.out.mark e3 ((HI.out.dom r).2 (.inr (.inr (.inl h)))))).trans e3⟩
      refine leaves_marks (v := .tuple #[v7, .int .i64 0]) (D := fun i => ∃ y ∈ ds, y.target = .collected i) ds w7 (fun y hy => ?_) HDI.out (fun w' hw' => ⟨?_, v7, es7, rfl, ?_, ?_, ?_⟩)
      · obtain ⟨r, e1, e2, e3⟩ := hmk y hy
        exact ⟨r, e1, ⟨y, hy, e1⟩, e3⟩
      · simp [results, Tryz.f5, go_sem]
      · have hnd : ∀ i (o : Obj), w7.heap[i]? = some o → isCells o → ¬ ∃ y ∈ ds, y.target = .collected i := by
          rintro i o ho ⟨c, e, fr, rfl⟩ ⟨y, hy, h⟩
          obtain ⟨r, e1, _, e3⟩ := hmk y hy
          rw [e1] at h
          cases h
          rw [ho] at e3; cases e3
        have hO := HO7.out
        refine ⟨ownsRow_any hO.own (fun g hg => ?_), fun e he => ?_, hO.nodup⟩
        · obtain ⟨_, h2⟩ := hO.own
          rcases h2 with ⟨rfl, _⟩ | ⟨g2, cap, cur, rfl, _, h3, _⟩
          · simp [Value.ownBlock] at hg
          · have : g2 = g := by simpa [Value.ownBlock] using hg
            subst this
            exact hw'.block _ (Array.getElem?_eq_some_iff.1 h3).1 (hnd _ _ h3 ⟨_, _, _, rfl⟩)
        · obtain ⟨cur, h3, _⟩ := (hO.fits e he).2.1
          exact (hO.fits e he).fr hw' (hnd _ _ h3 ⟨_, _, _, rfl⟩)
      · rw [HK7.out, HK6.out, HI.out.key, HKE.out]
        rfl
      · have h1 : Below w.heap.size wr w7 := hf.below HBW.out.size hlo
        have h2 : Below w.heap.size w7 w' := hw'.below (Nat.le_trans HBW.out.size h1.size) (fun i ⟨y, hy, h⟩ => by
          obtain ⟨r, e1, e2, _⟩ := hmk y hy
          rw [e1] at h
          cases h
          exact e2)
        exact (HBW.out.trans h1).trans h2

end Go.Proofs.YtkfbdhlfajdpgaaGreatDoor.HSteps
