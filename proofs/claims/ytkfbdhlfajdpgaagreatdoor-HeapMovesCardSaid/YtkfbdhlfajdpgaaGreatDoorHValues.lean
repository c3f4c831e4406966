/- The iterator values: the walk of its closure. -/
import Derived.Test.YtkfbdhlfajdpgaaGreatDoorHDigits
import Derived.Test.YtkfbdhlfajdpgaaGreatDoorHMarks
import Derived.RangeFuncNested
import Derived.Maps.OwnIn
import Derived.OneCell
import Derived.RangeFuncBox
import Derived.Test.YtkfbdhlfajdpgaaGreatDoorHDrawn
namespace Go.Proofs.YtkfbdhlfajdpgaaGreatDoor.HValues
set_option linter.unusedVariables false
set_option linter.unusedSimpArgs false
open Go Go.RowKit Go.Shelf Go.Proofs.YtkfbdhlfajdpgaaGreatDoor.HIter Go.Proofs.YtkfbdhlfajdpgaaGreatDoor.HSpec Go.Proofs.YtkfbdhlfajdpgaaGreatDoor.HMoves Go.Proofs.YtkfbdhlfajdpgaaGreatDoor.HSmall Go.Proofs.YtkfbdhlfajdpgaaGreatDoor.HDigits Go.Proofs.YtkfbdhlfajdpgaaGreatDoor.HDrawn
attribute [local go_sem] Oper.semAt_some

theorem ownsRow_block {w w' : World} {base : Nat} {e : TypeId} {size : Nat} {g n c : Nat} {xs : List Value} (h : w.ownsRow base e size (.slice (some ⟨g, 0, none⟩) n c) n xs) (hb : w'.heap[g]? = w.heap[g]?) : w'.ownsRow base e size (.slice (some ⟨g, 0, none⟩) n c) n xs := by
  obtain ⟨h1, h2⟩ := h
  refine ⟨h1, ?_⟩
  rcases h2 with h2 | ⟨g', cap, cur, a, b, c', d⟩
  · exact .inl h2
  · cases a
    exact .inr ⟨g, c, cur, rfl, b, hb.trans c', d⟩

/-- The code that a string is. -/
structure IsCode (s : ByteArray) (d : List Int) : Prop where
  two : s.size = d.length + 2
  le : d.length ≤ 100
  pos : 0 < d.length
  byte : ∀ (j : Nat) (h : j < (s.extract 2 s.size).size), (((s.extract 2 s.size)[j]'h).toNat : Int) = 48 + d[j]?.getD 0
  rng : ∀ j : Nat, 0 ≤ d[j]?.getD 0 ∧ d[j]?.getD 0 ≤ 7

/-- What has been listed when k values have come. -/
def els (d : List Int) (k : Nat) : List (Int × Int) := (List.range k).map fun (i : Nat) => ((i : Int), (vals d i).getD i 0)
theorem els_succ (d : List Int) (k : Nat) : els d (k + 1) = els d k ++ [((k : Int), (vals d k).getD k 0)] := by simp [els, List.range_succ]
theorem els_length (d : List Int) (k : Nat) : (els d k).length = k := by simp [els]

/-- The variables of the closure, and the marks of its range loops, at the head of its loop. -/
structure St (l Bc : Nat) (d : List Int) (N : Nat) (J : (Nat → Prop) → List (Int × Int) → World → Prop) (D : Nat → Prop) (W : World) (k bd cd Bk g c : Nat) (D1 : Nat → Prop) (ds : List Deferred) (w : World) : Prop where
  j : J D1 (els d k) w
  fr : Fr D W w
  sub : ∀ i, D1 i → D i ∨ W.heap.size ≤ i
  box : w.heap[Bk]? = some (.cells #[.slice (some ⟨g, 0, none⟩) (k + 1) c] 22 (0, 0))
  row : w.ownsRow W.heap.size 3 1 (.slice (some ⟨g, 0, none⟩) (k + 1) c) (k + 1) ((vals d k).map (Value.int .i64))
  dig : w.ownsRow W.heap.size 3 1 (.slice (some ⟨bd, 0, none⟩) d.length cd) d.length (d.map (Value.int .i64))
  ne : Bk ≠ g ∧ bd ≠ g ∧ bd ≠ Bk
  nD : ¬ D1 Bk ∧ ¬ D1 g ∧ ¬ D1 bd
  lo : W.heap.size ≤ Bk ∧ W.heap.size ≤ g ∧ W.heap.size ≤ bd
  marks : ∀ x ∈ ds, ∃ r, x.target = .collected r ∧ W.heap.size ≤ r ∧ ¬ D1 r ∧ r ≠ Bk ∧ r ≠ g ∧ r ≠ bd ∧ w.heap[r]? = some (.deferred (some []))
  dist : (ds.map (·.target)).Pairwise (fun a b => ∀ r, a = .collected r → b ≠ .collected r)

theorem St.lts {l Bc : Nat} {d : List Int} {N : Nat} {J : (Nat → Prop) → List (Int × Int) → World → Prop} {D : Nat → Prop} {W : World} {k bd cd Bk g c : Nat} {D1 : Nat → Prop} {ds : List Deferred} {w : World} (h : St l Bc d N J D W k bd cd Bk g c D1 ds w) :
    Bk < w.heap.size ∧ g < w.heap.size ∧ bd < w.heap.size :=
  ⟨(Array.getElem?_eq_some_iff.1 h.box).1, (h.row.lt g rfl).2, (h.dig.lt bd rfl).2⟩

/-- The marks while the moves are gone through. -/
def InI (M Bk g : Nat) (ob og : Obj) (f : Int × Int → Int) (D : Nat → Prop) (s : List (Int × Int)) (w : World) : Prop :=
  (∀ i, D i ↔ i = M ∨ i = Bk ∨ i = g) ∧ w.heap[M]? = some (.cells (mk (s.map f)) 84 (0, 0)) ∧ w.heap[Bk]? = some ob ∧ w.heap[g]? = some og
theorem InI.stable (M Bk g : Nat) (ob og : Obj) (f : Int × Int → Int) : Stable (InI M Bk g ob og f) := fun D s A B ⟨h1, h2, h3, h4⟩ _ hs =>
  ⟨h1, (hs _ ((h1 _).2 (.inl rfl))).trans h2, (hs _ ((h1 _).2 (.inr (.inl rfl)))).trans h3, (hs _ ((h1 _).2 (.inr (.inr rfl)))).trans h4⟩
theorem InI.lies (M Bk g : Nat) (ob og : Obj) (f : Int × Int → Int) : Lies (InI M Bk g ob og f) := fun D s A ⟨h1, h2, h3, h4⟩ k hk => by
  rcases (h1 k).1 hk with rfl | rfl | rfl
  · exact (Array.getElem?_eq_some_iff.1 h2).1
  · exact (Array.getElem?_eq_some_iff.1 h3).1
  · exact (Array.getElem?_eq_some_iff.1 h4).1

def LoopI (l Bc : Nat) (d : List Int) (N : Nat) (J : (Nat → Prop) → List (Int × Int) → World → Prop) (D : Nat → Prop) (W : World) (a : Act) (w : World) : Prop :=
  ∃ (k bd cd Bk g c : Nat) (D1 : Nat → Prop) (ds : List Deferred) (u2 u6 u7 u8 u9 u10 u11 u12 u13 u14 u15 u16 u17 u18 u19 u20 u21 u22 u23 u24 u25 u26 u27 u28 u29 u30 u31 u32 u33 u34 u35 u36 u37 u38 u39 u40 : Value), St l Bc d N J D W k bd cd Bk g c D1 ds w ∧ a = { tmps := #[.func (.yield l) #[] #[], .pointer (some ⟨Bc, 0, none⟩), u2, .slice (some ⟨bd, 0, none⟩) d.length cd, .pointer (some ⟨Bk, 0, none⟩), .int .i64 (k : Int), u6, u7, u8, u9, u10, u11, u12, u13, u14, u15, u16, u17, u18, u19, u20, u21, u22, u23, u24, u25, u26, u27, u28, u29, u30, u31, u32, u33, u34, u35, u36, u37, u38, u39, u40], defers := ds }
def LoopM (N : Nat) (a : Act) (_ : World) : Nat := N + 2 - (intOf (a.tmps.getD 5 undef)).toNat

set_option maxRecDepth 100000 in
set_option maxHeartbeats 4000000 in
theorem values1_in (F : Fence) (n : Nat) (hWd : Wide F) (hF : ∀ f, F.fn f) (hro : F.round = none) (hn : F.depth = none) (l Bc : Nat) (s : ByteArray) (d : List Int) (N : Nat) (hN : N ≤ 3000) (hcode : IsCode s d)
    (J Jx : (Nat → Prop) → List (Int × Int) → World → Prop) (hJS : Stable J) (hJL : Lies J) (hXS : Stable Jx) (hXL : Lies Jx) (hJb : ∀ D s W, J D s W → s.length ≤ N)
    (hY : Rounds F (n - 1) Tryz.prog l (fun x : Int × Int => #[.int .i64 x.1, .int .i64 x.2]) (fun pre x => x = ((pre.length : Int), (vals d pre.length).getD pre.length 0)) J Jx)
    (D : Nat → Prop) (W : World) (hc : W.cell? ⟨Bc, 0, none⟩ = some (.string s)) (_hB : ¬ D Bc ∧ Bc < W.heap.size) (h0 : J D [] W) :
    CallsIn F n Tryz.prog 56 #[.func (.yield l) #[] #[], .pointer (some ⟨Bc, 0, none⟩)] W fun e W' => (∃ v, e = .returned v) ∧ ((∃ xs, False ∧ Goes J D xs W W') ∨ (∃ pre, Goes Jx D pre W W')) := by
  have hFf := hF 56
  refine callsIn_of_wp_marks Tryz.func56 rfl hFf ?_ hro
  simp only [Tryz.ntmps56, List.size_toArray, List.length_cons, List.length_nil, Nat.reduceAdd, Nat.reduceSub, Array.replicate_succ, Array.replicate_zero, List.push_toArray, List.append_toArray, List.nil_append, List.cons_append]
  have hdig := digits_any s (s.extract 2 s.size) d W (by have := hcode.two; omega) (by have := hcode.two; have := hcode.le; omega) rfl (by have := hcode.two; rw [ByteArray.size_extract]; omega) hcode.byte hcode.rng
  have Hdig := Lib.hid hdig
  clear hdig
  gi_wp2_with (gi_at_call 15; refine (hWd.calls Hdig.out).mono ?_; rintro e w1 ⟨v, rfl, hv1, hv2⟩)
  have hpos := hcode.pos
  obtain ⟨gd, cd, rfl⟩ : ∃ gd cd, v = .slice (some ⟨gd, 0, none⟩) d.length cd := by
    obtain ⟨m, hm⟩ : ∃ m, d.length = m + 1 := ⟨d.length - 1, by omega⟩
    rw [hm] at hv1 ⊢
    exact ownsRow_succ hv1
  have HV1 := Lib.hid hv1
  clear hv1
  gi_wp2
  -- THE LOOP
  have hgd := HV1.out.lt gd rfl
  have hs1 := hv2.size
  have hD0 : ∀ i, D i → i < W.heap.size := hJL D [] W h0
  refine wpIn_loop (LoopI l Bc d N J D W) (LoopM N) ?start ?round
  case start =>
    have hb2 : Below W.heap.size W ((w1.alloc (Obj.cells #[Value.int IntKind.i64 0] 3)).alloc (Obj.cells #[Value.slice (some { block := w1.heap.size, off := 0 }) 1 1] 22)) := (hv2.alloc hs1 _).alloc (by simp; omega) _
    refine ⟨0, gd, cd, w1.heap.size + 1, w1.heap.size, 1, D, [], undef, undef, undef, undef, .string s, .slice (some ⟨gd, 0, none⟩) d.length cd, .slice (some ⟨w1.heap.size, 0, none⟩) 1 1, undef, undef, undef, undef, undef, undef, undef, undef, undef, undef, undef, undef, undef, undef, undef, undef, undef, undef, undef, undef, undef, undef, undef, undef, undef, undef, undef, undef, undef, ⟨?_, Fr.of_below hb2, fun i h => .inl h, ?_, ?_, (HV1.out.alloc _).alloc _, ?_, ?_, ?_, by simp, by simp⟩, rfl⟩
    · exact hJS D [] W _ h0 hb2.size (fun i hi => hb2.block i (hD0 i hi))
    · have := World.alloc_heap_new (w1.alloc (Obj.cells #[Value.int IntKind.i64 0] 3)) (Obj.cells #[Value.slice (some { block := w1.heap.size, off := 0 }) 1 1] 22)
      rwa [World.size_alloc] at this
    · exact (World.ownsRow_lit w1 #[.int .i64 0] 1 hs1 (by decide) rfl).alloc _
    · omega
    · exact ⟨fun h => by have := hD0 _ h; omega, fun h => by have := hD0 _ h; omega, fun h => by have := hD0 _ h; omega⟩
    · omega
  case round =>
    clear HV1 hgd hs1 hv2 w1 gd cd Hdig
    rintro a wr ⟨k, bd, cd, Bk, g, c, D1, ds, u2, u6, u7, u8, u9, u10, u11, u12, u13, u14, u15, u16, u17, u18, u19, u20, u21, u22, u23, u24, u25, u26, u27, u28, u29, u30, u31, u32, u33, u34, u35, u36, u37, u38, u39, u40, hS, rfl⟩
    have hkN : k ≤ N := by have := hJb D1 _ wr hS.j; rw [els_length] at this; exact this
    have hbox : wr.cell? ⟨Bk, 0, none⟩ = some (.slice (some ⟨g, 0, none⟩) (k + 1) c) := by simp [World.cell?, hS.box]
    obtain ⟨X, hX⟩ : ∃ X, (vals d k).getD k 0 = X := ⟨_, rfl⟩
    have hlen := vals_length d k
    have hcg : wr.cell? ⟨g, k, none⟩ = some (.int .i64 X) := by
      rw [hS.row.cellAt k (by omega), List.getElem?_map, ← hX, List.getD_eq_getElem?_getD, List.getElem?_eq_getElem (by omega)]
      rfl
    have Y := hY D1 (els d k) ((k : Int), X) wr hS.j (by show _ = _; rw [els_length, hX])
    obtain ⟨fn, tmps, assign, body, hy, hR⟩ := Y
    dsimp only at hy
    have HX := Lib.hid hX
    have Hlen := Lib.hid hlen
    have HS := Lib.hid hS
    clear hX hlen hS
    gi_wp2
    refine hR.mono ?_
    rintro e W3 (⟨rfl, hG⟩ | ⟨rfl, hG⟩)
    · obtain ⟨D2, g1, g2, g3⟩ := hG
      clear hy hR hbox hcg
      have hlt := HS.out.lts
      have hB3 := (g2.block Bk hlt.1 HS.out.nD.1).trans HS.out.box
      have hR3 := ownsRow_block HS.out.row (g2.block g hlt.2.1 HS.out.nD.2.1)
      have hD3 := ownsRow_block HS.out.dig (g2.block bd hlt.2.2 HS.out.nD.2.2)
      have HB3 := Lib.hid hB3
      have HR3 := Lib.hid hR3
      have HD3 := Lib.hid hD3
      clear hB3 hR3 hD3
      gi_wp2_with (gi_at_call 14; refine (hWd.calls (moves_any _ _ _ _ _)).mono ?_; rintro e w' ⟨rfl, rfl⟩)
      rw [mk_nil]
      obtain ⟨og, hog⟩ : ∃ og, W3.heap[g]? = some og := ⟨_, Array.getElem?_eq_getElem (HR3.out.lt g rfl).2⟩
      obtain ⟨w5, hw5⟩ : ∃ w5, ((W3.alloc (Obj.cells (mk []) 84)).alloc (Obj.cells #[Value.slice (some { block := bd, off := 0 }) d.length cd] 22)).alloc (Obj.cells #[Value.int IntKind.i64 (↑k + 1)] 3) = w5 := ⟨_, rfl⟩
      have hs5 : w5.heap.size = W3.heap.size + 3 := by rw [← hw5]; simp
      have hb5 : Below W3.heap.size W3 w5 := by rw [← hw5]; exact (((Below.refl _ W3).alloc (Nat.le_refl _) _).alloc (by simp) _).alloc (by simp; omega) _
      have hM5 : w5.heap[W3.heap.size]? = some (.cells (mk []) 84 (0, 0)) := by
        rw [← hw5]
        exact (Below.heap_alloc _ _ _ (by simp; omega)).trans ((Below.heap_alloc _ _ _ (by simp)).trans (World.alloc_heap_new W3 _))
      have hcd5 : w5.cell? ⟨W3.heap.size + 1, 0, none⟩ = some (.slice (some ⟨bd, 0, none⟩) d.length cd) := by
        have h1 := World.alloc_heap_new (W3.alloc (Obj.cells (mk []) 84)) (Obj.cells #[Value.slice (some { block := bd, off := 0 }) d.length cd] 22)
        rw [World.size_alloc] at h1
        have h2 : w5.heap[W3.heap.size + 1]? = some (.cells #[Value.slice (some { block := bd, off := 0 }) d.length cd] 22 (0, 0)) := by rw [← hw5]; exact (Below.heap_alloc _ _ _ (by simp)).trans h1
        simp [World.cell?, h2]
      have hcn5 : w5.cell? ⟨W3.heap.size + 1 + 1, 0, none⟩ = some (.int .i64 ((k : Int) + 1)) := by
        have h1 := World.alloc_heap_new ((W3.alloc (Obj.cells (mk []) 84)).alloc (Obj.cells #[Value.slice (some { block := bd, off := 0 }) d.length cd] 22)) (Obj.cells #[Value.int IntKind.i64 (↑k + 1)] 3)
        simp only [World.size_alloc] at h1
        rw [hw5] at h1
        simp [World.cell?, h1]
      rw [hw5]
      clear hw5
      have hs3 := g2.size
      have hgo := (hb5.block g (HR3.out.lt g rfl).2).trans hog
      have hbo := (hb5.block Bk (by omega)).trans HB3.out
      have HGO := Lib.hid hgo
      have HBO := Lib.hid hbo
      have HOG := Lib.hid hog
      have HM5 := Lib.hid hM5
      have HCD := Lib.hid hcd5
      have HCN := Lib.hid hcn5
      clear hgo hbo hog hM5 hcd5 hcn5
      have hne := HS.out.ne
      refine wpIn_range hro hn (gf := 38) (lb := #[.pointer (some ⟨W3.heap.size + 1, 0, none⟩), .pointer (some ⟨W3.heap.size + 1 + 1, 0, none⟩)]) rfl (hF _) (enters_of Tryz.func38 (by kernel_rfl) rfl)
        (moves_seq F (n - 1) hF hro hn (W3.heap.size + 1) (W3.heap.size + 1 + 1) bd 0 cd d ((k : Int) + 1) (by omega) (by omega) (by have := hcode.le; omega)) (fun _ => rfl)
        (InI W3.heap.size Bk g (.cells #[.slice (some ⟨g, 0, none⟩) (k + 1) c] 22 (0, 0)) og (optv (vals d k))) (fun _ _ _ _ => False) (InI.stable _ _ _ _ _ _) (InI.lies _ _ _ _ _ _) (fun _ _ _ _ _ h _ _ => h) (fun _ _ _ _ h => h.elim) (fun b e => by cases e)
        (fun i => i = W3.heap.size ∨ i = Bk ∨ i = g) ⟨fun _ => Iff.rfl, HM5.out, HBO.out, HGO.out⟩ ?own (fun x => { tmps := #[.func (.yield l) #[] #[], .pointer (some ⟨Bc, 0, none⟩), u2, .slice (some ⟨bd, 0, none⟩) d.length cd, .pointer (some ⟨Bk, 0, none⟩), .int .i64 (k : Int), .pointer (some ⟨W3.heap.size, 0, none⟩), .int .i64 x.1, .int .i64 x.2, u9, u10, u11, .func (.yield l) #[] #[], .int .i64 (k : Int), .slice (some ⟨g, 0, none⟩) (k + 1) c, .int .i64 (k : Int), .pointer (some ⟨g, k, none⟩), .int .i64 X, .bool true, u19, u20, .slice (some ⟨bd, 0, none⟩) d.length cd, .int .i64 (k : Int), .int .i64 ((k : Int) + 1), .func (.func 38) #[] #[.pointer (some ⟨W3.heap.size + 1, 0, none⟩), .pointer (some ⟨W3.heap.size + 1 + 1, 0, none⟩)], .int .i64 x.1, .int .i64 x.2, u27, u28, u29, u30, u31, u32, u33, u34, u35, u36, u37, u38, u39, u40], defers := [] }) ?assign ?body ?done ?stop
      case own =>
        intro Wx Dx hbx hdx
        have hsx := hbx.size
        have hlb := (HD3.out.lt bd rfl).2
        refine ⟨(hbx.cell (p := ⟨W3.heap.size + 1, 0, none⟩) (by simp only; omega)).trans HCD.out, (hbx.cell (p := ⟨W3.heap.size + 1 + 1, 0, none⟩) (by simp only; omega)).trans HCN.out, fun j hj => ?_, ?_, ?_, ?_, by omega, by omega, by omega⟩
        · have h3 := HD3.out.cellAt j (by omega)
          rw [Nat.zero_add, hbx.cell (p := ⟨bd, j, none⟩) (by simp only; omega), hb5.cell (p := ⟨bd, j, none⟩) hlb, h3, List.getElem?_map, List.getElem?_eq_getElem hj]
          rfl
        · intro h; rcases hdx _ h with h | h <;> omega
        · intro h; rcases hdx _ h with h | h <;> omega
        · intro h; rcases hdx _ h with h | h <;> omega
      case assign =>
        intro l2 x Wa K hK
        gi_wp2
        exact hK
      case body =>
        rintro l2 D4 pre ⟨p, q⟩ Wb hszb ⟨hD4, hM, hBk, hg⟩ ⟨rest, hrest⟩
        have hmem : (p, q) ∈ mv d ((k : Int) + 1) := by rw [hrest]; simp
        have hx := mem_mv hmem
        simp only at hx
        obtain ⟨hx1, hx2, hx3⟩ := hx
        have hgood := vals_good d k (by omega)
        have hRb := ownsRow_block HR3.out (hg.trans HOG.out.symm)
        have hlen := Hlen.out
        have cellof : ∀ i : Int, 0 ≤ i → i < (k : Int) + 1 → Wb.cell? ⟨g, i.toNat, none⟩ = some (.int .i64 (at0 (vals d k) i)) := fun i h0 h1 => by
          rw [hRb.cellAt i.toNat (by omega), List.getElem?_map, List.getElem?_eq_getElem (by omega)]
          unfold at0
          rw [List.getD_eq_getElem?_getD, List.getElem?_eq_getElem (by omega)]
          rfl
        have cp := cellof p hx1 (by omega)
        have cq := cellof q hx2 (by omega)
        have cBk : Wb.cell? ⟨Bk, 0, none⟩ = some (.slice (some ⟨g, 0, none⟩) (k + 1) c) := by simp [World.cell?, hBk]
        have hob := optv_bound (d := d) hgood (by omega) (p := (p, q)) (by rw [hlen]; exact_mod_cast hmem)
        rw [hlen] at hob
        have Hop : Hid (optv (vals d k) (p, q) = bits .xor .i64 (at0 (vals d k) p) (at0 (vals d k) q)) := rfl
        obtain ⟨va, hva⟩ : ∃ va, at0 (vals d k) p = va := ⟨_, rfl⟩
        obtain ⟨vb, hvb⟩ : ∃ vb, at0 (vals d k) q = vb := ⟨_, rfl⟩
        rw [hva] at cp Hop
        rw [hvb] at cq Hop
        obtain ⟨v, hv⟩ : ∃ v, bits .xor .i64 va vb = v := ⟨_, rfl⟩
        rw [hv] at Hop
        rw [Hop.out] at hob
        obtain ⟨v, rfl⟩ := Int.eq_ofNat_of_zero_le hob.1
        have hv1 : v < 8192 := by omega
        have cM : Wb.cell? ⟨W3.heap.size, v, none⟩ = some (.bool ((pre.map (optv (vals d k))).contains (v : Int))) := by
          simp only [World.cell?, hM]
          exact mk_get _ v hv1
        have fM : Wb.frozen? ⟨W3.heap.size, v, none⟩ = false := by simp [World.frozen?, hM]
        have hpk : p < (k : Int) + 1 := by omega
        have hqk : q < (k : Int) + 1 := by omega
        have HgB := Lib.hid hg
        have HBkB := Lib.hid hBk
        have HMB := Lib.hid hM
        clear hva hvb hob cellof hRb hgood hlen hrest hmem hg hBk hM
        gi_wp2
        have hmix : (Tryz.prog).follows .mixedOrders = true := by kernel_rfl
        refine wpIn_still_tail (hWd.inRound l2) 8 hmix (by kernel_rfl) ?_
        simp only [List.take_succ_cons, List.take_zero, List.drop_succ_cons, List.drop_zero]
        change wpStill _ _ (World.drew Wb) _ _ _
        repeat still_step
        refine wpStill_nil ?_
        change wpListIn _ _ _ _ _ _ _ (World.drew Wb)
        gi_wp2
        refine ⟨D4, ⟨hD4, ?_, ?_, ?_⟩, Fr.trans (Fr.drew D4 Wb) (Fr.setCell Wb.drew _ _ (.inl ((hD4 _).2 (.inl rfl)))) (fun i h => .inl h), fun i h => .inl h⟩
        · rw [List.map_append, List.map_cons, List.map_nil, Hop.out, ← mk_set _ v hv1]
          show (Wb.heap.modify W3.heap.size _)[W3.heap.size]? = _
          rw [Array.getElem?_modify, if_pos rfl, HMB.out]
          simp
        · exact (Below.heap_setCell Wb.drew _ _ _ (by simp only; omega)).trans HBkB.out
        · exact (Below.heap_setCell Wb.drew _ _ _ (by simp only; omega)).trans HgB.out
      case done =>
        rintro D5 xs Wd rfl ⟨hD5, hM, hBk, hg⟩ hfr _ _ hdef
        have hlen := Hlen.out
        have hgood := vals_good d k (by omega)
        have eo : (mv d ((k : Int) + 1)).map (optv (vals d k)) = opts d (vals d k) := by unfold opts; rw [hlen]; rfl
        rw [eo] at hM
        obtain ⟨mx, hmx⟩ : ∃ mx, mexN (opts d (vals d k)) = mx := ⟨_, rfl⟩
        have hspec := mexN_spec (opts d (vals d k))
        have hmle : mx ≤ k + 1 := by
          rw [← hmx]
          refine mexN_le _ _ (fun x hx => ?_)
          obtain ⟨y, hy, rfl⟩ := List.mem_map.1 hx
          have := (optv_bound hgood (by omega) hy).2
          rw [hlen] at this; exact_mod_cast this
        rw [hmx] at hspec
        have hcall := missing_any W3.heap.size (fun i => (opts d (vals d k)).contains (i : Int)) Wd.drew mx (by omega) (by simpa using hspec.1) (fun j hj => by simpa using hspec.2 j hj) (fun j hj => by
          rw [Nat.zero_add]
          show Wd.cell? _ = _
          simp only [World.cell?, hM]
          exact mk_get _ j hj)
        have cBk : Wd.cell? ⟨Bk, 0, none⟩ = some (.slice (some ⟨g, 0, none⟩) (k + 1) c) := by simp [World.cell?, hBk]
        have hrow0 := ownsRow_block HR3.out (hg.trans HOG.out.symm)
        have hdrow0 := ownsRow_block HD3.out ((hfr.block bd (by have := (HD3.out.lt bd rfl).2; omega) (by have := (HD3.out.lt bd rfl).2; omega)).trans (hb5.block bd (HD3.out.lt bd rfl).2))
        have hltb : Bk < Wd.heap.size := (Array.getElem?_eq_some_iff.1 hBk).1
        have hsd := hfr.size
        have HGd := Lib.hid hg
        have HBd := Lib.hid hBk
        have Hdef := Lib.hid hdef
        have Hcall := Lib.hid hcall
        have Hspec := Lib.hid hspec
        have Hmx := Lib.hid hmx
        have Hrow := Lib.hid (show Wd.drew.ownsRow W.heap.size 3 1 (.slice (some ⟨g, 0, none⟩) (k + 1) c) (k + 1) ((vals d k).map (Value.int .i64)) from hrow0)
        have Hdrow := Lib.hid hdrow0
        clear hM hlen hgood eo hspec hmx hcall hrow0 hdrow0 hg hBk hdef
        gi_wp2
        have hmix : (Tryz.prog).follows .mixedOrders = true := by kernel_rfl
        obtain ⟨i0, hi, hz0, hz1, hz2⟩ := info_parts info3
        refine wpIn_five hWd (v0 := .slice (some ⟨g, 0, none⟩) (k + 1) c) (v1 := .int .i64 (mx : Int)) (v2 := .slice (some ⟨Wd.heap.size, 0, none⟩) 1 1) (w' := Wd.drew.alloc (.cells #[.int .i64 (mx : Int)] 3)) (f := 57) (args := #[.pointer (some ⟨W3.heap.size, 0, none⟩)]) hmix (by kernel_rfl) rfl rfl rfl (by decide) rfl rfl rfl
          (fun c h => by cases h) (fun c h => by cases h) (fun c h => by cases h) (fun c b h => by cases h) (fun c b h => by cases h) (fun c b h => by cases h) (by simp [Oper.looksAt, Op.operands, Call.operands]) (by simp [Oper.looksAt, Op.operands, Call.operands]) (by simp [Oper.looksAt, Op.operands, Call.operands])
          ?r0 ?r0' ?r1 Hcall.out ?r2 ?_
        case r0 => go_simp
        case r0' => go_simp
        case r1 => go_simp
        case r2 => go_simp
        have hb1' : ∀ w1 : World, (Wd.drew.alloc (.cells #[.int .i64 (mx : Int)] 3)).grownBy w1 (some g) → w1.heap[Bk]? = some (.cells #[.slice (some ⟨g, 0, none⟩) (k + 1) c] 22 (0, 0)) := fun w1 hgr =>
          (hgr.block Bk (by simp; omega) (by intro e; cases e; exact hne.1 rfl)).trans ((Below.heap_alloc Wd.drew _ _ hltb).trans HBd.out)
        have Hb1' := Lib.hid hb1'
        clear hb1'
        gi_wp2_with (gi_at_builtin; refine wpListIn_append_own_at _ rfl _ _ 22 rfl W.heap.size 3 i0 (.int .i64 0) 1 8 Tryz.underlying22 hi hz0 hz1 hz2 rfl (by decide) _ _ _ rfl (Hrow.out.alloc _) ⟨Wd.heap.size, 0, none⟩ 1 1 [.int .i64 (mx : Int)] rfl rfl (cell_one_new _ _ _) (by simp [Value.oneCell']) (by unfold maxLen; omega) (by omega) (by have := HS.out.fr.size; have := hlt.1; simp; omega) ?_; intro v' w1 hown' hgrow _ hat; obtain ⟨g', cap', rfl⟩ := ownsRow_succ hown'; have hb1 := Hb1'.out w1 hgrow; have hc1 := cell_of_one hb1; have hf1 := free_of_one hb1)
        have hgd : g' ≠ bd := by
          rcases hat with e | e
          · cases e; exact fun h => hne.2.1 h.symm
          · simp [Value.ownBlock] at e
            have := (Hdrow.out.lt bd rfl).2
            omega
        have hgBk : Bk ≠ g' := by
          rcases hat with e | e
          · cases e; exact hne.1
          · simp [Value.ownBlock] at e
            omega
        have hgW : W.heap.size ≤ g' := (hown'.lt g' rfl).1
        -- what has turned since the round came back
        have hE : Fr (fun i => i = Bk ∨ i = g) W3 (w1.setCell ⟨Bk, 0, none⟩ (.slice (some ⟨g', 0, none⟩) (k + 1 + 1) cap')) := by
          have f1 : Fr (fun i => i = Bk ∨ i = g) W3 w5 := Fr.of_below hb5
          have f2 : Fr (fun i => i = Bk ∨ i = g) W3 Wd := f1.trans hfr (fun i h => by rcases h with rfl | rfl | rfl; exact .inr (Nat.le_refl _); exact .inl (.inl rfl); exact .inl (.inr rfl))
          have f3 := f2.trans (Fr.trans (Fr.drew (fun i => i = Bk ∨ i = g) Wd) (Fr.alloc (fun i => i = Bk ∨ i = g) Wd.drew (.cells #[.int .i64 (mx : Int)] 3)) (fun i h => .inl h)) (fun i h => .inl h)
          have f4 := f3.trans (Fr.grown (D := fun i => i = Bk ∨ i = g) hgrow (fun i e => by cases e; exact .inl (.inr rfl))) (fun i h => .inl h)
          exact f4.trans (Fr.setCell (D := fun i => i = Bk ∨ i = g) w1 _ _ (.inl (.inl rfl))) (fun i h => .inl h)
        have hD2 : ¬ D2 Bk ∧ ¬ D2 g ∧ ¬ D2 bd := by
          have h1 := HS.out.nD
          exact ⟨fun h => (g3 _ h).elim h1.1 (fun h => by omega), fun h => (g3 _ h).elim h1.2.1 (fun h => by omega), fun h => (g3 _ h).elim h1.2.2 (fun h => by omega)⟩
        have hL2 := hJL _ _ _ g1
        refine ⟨⟨k + 1, bd, cd, Bk, g', cap', D2, { target := .collected w5.heap.size, args := #[] } :: ds, _, _, _, _, _, _, _, _, _, _, _, _, _, _, _, _, _, _, _, _, _, _, _, _, _, _, _, _, _, _, _, _, _, _, _, _, ⟨?_, ?_, ?_, ?_, ?_, ?_, ?_, ?_, ?_, ?_, ?_⟩, by rw [hs5]; rfl⟩, ?_⟩
        · rw [els_succ, HX.out]
          exact hJS _ _ W3 _ g1 hE.size (fun i hi => hE.block i (hL2 i hi) (by rintro (rfl | rfl); exact hD2.1 hi; exact hD2.2.1 hi))
        · exact (HS.out.fr.trans g2 HS.out.sub).trans hE (fun i h => by have := HS.out.lo; have := HS.out.fr.size; rcases h with rfl | rfl <;> omega)
        · exact fun i hi => (g3 i hi).elim (HS.out.sub i) (fun h => .inr (Nat.le_trans HS.out.fr.size h))
        · exact one_setCell hb1
        · rw [show vals d (k + 1) = vals d k ++ [(mx : Int)] from by rw [vals, vstep, Hmx.out], List.map_append]
          exact hown'.kept (grownBy_setCell' w1 Bk _) (.inr (fun e => by cases e; exact hgBk rfl))
        · exact ownsRow_block HD3.out (hE.block bd (HD3.out.lt bd rfl).2 (by rintro (h | h); exact hne.2.2 h; exact hne.2.1 h))
        · exact ⟨hgBk, hgd.symm, hne.2.2⟩
        · exact ⟨hD2.1, fun h => by rcases hat with e | e; (cases e; exact hD2.2.1 h); (simp [Value.ownBlock] at e; have := hL2 _ h; omega), hD2.2.2⟩
        · have := HS.out.lo; omega
        · intro x hx
          have hs3' := hE.size
          rcases List.mem_cons.1 hx with rfl | hx
          · have := HS.out.lo
            have := HS.out.fr.size
            have hw5l : w5.heap.size < Wd.heap.size := (Array.getElem?_eq_some_iff.1 Hdef.out).1
            refine ⟨w5.heap.size, rfl, by omega, fun h => by have := hL2 _ h; omega, by omega, by rcases hat with e | e; (have e : g' = g := Option.some.inj e; omega); (simp [Value.ownBlock] at e; omega), by have := (HD3.out.lt bd rfl).2; omega, ?_⟩
            refine (Below.heap_setCell w1 _ _ _ (by simp only; omega)).trans ((hgrow.block _ (by simp; omega) (by intro e; have e : g = w5.heap.size := (Option.some.inj e).symm; omega)).trans ((Below.heap_alloc Wd.drew _ _ hw5l).trans Hdef.out))
          · obtain ⟨r, e1, e2, e3, e4, e5, e6, e7⟩ := HS.out.marks x hx
            have hr3 := (Array.getElem?_eq_some_iff.1 e7).1
            refine ⟨r, e1, e2, fun h => (g3 _ h).elim e3 (fun h => by omega), e4, fun h => by rcases hat with e | e; (cases e; exact e5 h); (simp [Value.ownBlock] at e; omega), e6, ?_⟩
            exact (hE.block r (by omega) (by rintro (h | h); exact e4 h; exact e5 h)).trans ((g2.block r hr3 e3).trans e7)
        · refine List.pairwise_cons.2 ⟨fun b hb r e1 e2 => ?_, HS.out.dist⟩
          obtain ⟨x, hx, rfl⟩ := List.mem_map.1 hb
          obtain ⟨r', f1, _, _, _, _, _, f7⟩ := HS.out.marks x hx
          have := (Array.getElem?_eq_some_iff.1 f7).1
          rw [f1] at e2
          cases e1
          cases e2
          omega
        · simp [LoopM, intOf]; omega
      case stop =>
        rintro D5 cx pre Wd h
        exact h.elim
    · clear hy hR hbox hcg
      gi_wp2
      refine leaves_marks (v := .tuple #[]) (D := fun i => ∃ x ∈ ds, x.target = .collected i) ds W3 (fun x hx => ?_) HS.out.dist (fun w' hw' => ⟨?_, ⟨_, rfl⟩, .inr ⟨els d k ++ [((k : Int), X)], ?_⟩⟩)
      · obtain ⟨r, e1, e2, e3, e4, e5, e6, e7⟩ := HS.out.marks x hx
        obtain ⟨D2, g1, g2, g3⟩ := hG
        exact ⟨r, e1, ⟨x, hx, e1⟩, (g2.block r (Array.getElem?_eq_some_iff.1 e7).1 e3).trans e7⟩
      · simp [results, Tryz.f56, go_sem]
      · obtain ⟨D2, g1, g2, g3⟩ := hG
        have hm : ∀ i, (∃ x ∈ ds, x.target = .collected i) → W.heap.size ≤ i ∧ ¬ D2 i := by
          rintro i ⟨x, hx, e⟩
          obtain ⟨r, e1, e2, e3, _, _, _, e7⟩ := HS.out.marks x hx
          rw [e] at e1; cases e1
          have := (Array.getElem?_eq_some_iff.1 e7).1
          exact ⟨e2, fun h => (g3 _ h).elim e3 (fun h => by omega)⟩
        refine ⟨D2, hXS D2 _ W3 w' g1 hw'.size (fun i hi => hw'.block i (hXL D2 _ W3 g1 i hi) (fun h => (hm i h).2 hi)), ?_, fun i hi => (g3 i hi).elim (HS.out.sub i) (fun h => .inr (Nat.le_trans HS.out.fr.size h))⟩
        have hf3 : Fr D W W3 := HS.out.fr.trans g2 HS.out.sub
        exact hf3.trans hw' (fun i h => .inr (hm i h).1)
end Go.Proofs.YtkfbdhlfajdpgaaGreatDoor.HValues
