/- values and list. -/
import Derived.Test.YtkfbdhlfajdpgaaGreatDoorHValues
namespace Go.Proofs.YtkfbdhlfajdpgaaGreatDoor.HList
set_option linter.unusedVariables false
set_option linter.unusedSimpArgs false
open Go Go.RowKit Go.Shelf Go.Proofs.YtkfbdhlfajdpgaaGreatDoor.HIter Go.Proofs.YtkfbdhlfajdpgaaGreatDoor.HSpec Go.Proofs.YtkfbdhlfajdpgaaGreatDoor.HMoves Go.Proofs.YtkfbdhlfajdpgaaGreatDoor.HSmall Go.Proofs.YtkfbdhlfajdpgaaGreatDoor.HDigits Go.Proofs.YtkfbdhlfajdpgaaGreatDoor.HDrawn Go.Proofs.YtkfbdhlfajdpgaaGreatDoor.HValues
attribute [local go_sem] Oper.semAt_some

theorem values_any (s : ByteArray) (w : World) :
    Calls Tryz.prog 37 #[.string s] w fun e w' => e = .returned (.func (.func 56) #[] #[.pointer (some ⟨w.heap.size, 0, none⟩)]) ∧ w.alloc (.cells #[.string s] 9) = w' := by
  go_enter Tryz.func37, Tryz.ntmps37
  go_wp2
  go_ret
  exact ⟨rfl, rfl⟩

theorem values_seq (F : Fence) (n : Nat) (hWd : Wide F) (hF : ∀ f, F.fn f) (hro : F.round = none) (hn : F.depth = none) (Bc : Nat) (s : ByteArray) (d : List Int) (N : Nat) (hN : N ≤ 3000) (hcode : IsCode s d) :
    SeqF F n Tryz.prog 56 #[.pointer (some ⟨Bc, 0, none⟩)] (fun x : Int × Int => #[.int .i64 x.1, .int .i64 x.2]) (fun pre x => x = ((pre.length : Int), (vals d pre.length).getD pre.length 0)) (fun _ => False) (some N)
      (fun D W => W.cell? ⟨Bc, 0, none⟩ = some (.string s) ∧ ¬ D Bc ∧ Bc < W.heap.size) :=
  fun l J Jx D W h1 h2 h3 h4 hb hY hO h0 => values1_in F n hWd hF hro hn l Bc s d N hN hcode J Jx h1 h2 h3 h4 (hb N rfl) hY D W hO.1 hO.2 h0

theorem vals_zero_len (d : List Int) : (vals d 0).length = 1 := vals_length d 0
theorem els_snd (d : List Int) : ∀ k, (els d (k + 1)).map (·.2) = vals d k
  | 0 => by
    have h := vals_length d 0
    obtain ⟨x, hx⟩ : ∃ x, vals d 0 = [x] := by
      cases hv : vals d 0 with
      | nil => rw [hv] at h; simp at h
      | cons x t => rw [hv] at h; cases t with
        | nil => exact ⟨x, rfl⟩
        | cons y t => simp at h
    simp [els, hx]
  | k + 1 => by
    rw [els_succ, List.map_append, els_snd d k]
    have h := vals_length d k
    rw [show vals d (k + 1) = vals d k ++ [(mexN (opts d (vals d k)) : Int)] from rfl]
    rw [List.getD_eq_getElem?_getD, List.getElem?_append_right (by omega)]
    simp [h]

/-- The list while it grows. -/
def LiI (d : List Int) (n B b0 b1 : Nat) (D : Nat → Prop) (s : List (Int × Int)) (w : World) : Prop :=
  ∃ v, (∀ i, D i ↔ i = b0 ∨ i = b1 ∨ v.ownBlock = some i) ∧ (∀ i, v.ownBlock = some i → i ≠ b0 ∧ i ≠ b1) ∧ b0 < b1 ∧ b1 < w.heap.size ∧ w.heap[b0]? = some (.cells #[.int .i64 (n : Int)] 3 (0, 0)) ∧ w.heap[b1]? = some (.cells #[v] 22 (0, 0)) ∧ w.ownsRow B 3 1 v s.length (s.map (fun x => Value.int .i64 x.2)) ∧ s = els d s.length ∧ s.length ≤ n
def LiX (d : List Int) (n B b0 b1 : Nat) (c : Code) (D : Nat → Prop) (s : List (Int × Int)) (w : World) : Prop :=
  c = .exit 0 ∧ ∃ v, (∀ i, D i ↔ i = b0 ∨ i = b1 ∨ v.ownBlock = some i) ∧ (∀ i, v.ownBlock = some i → i ≠ b0 ∧ i ≠ b1) ∧ b0 < b1 ∧ b1 < w.heap.size ∧ w.heap[b0]? = some (.cells #[.int .i64 (n : Int)] 3 (0, 0)) ∧ w.heap[b1]? = some (.cells #[v] 22 (0, 0)) ∧ w.ownsRow B 3 1 v s.length (s.map (fun x => Value.int .i64 x.2)) ∧ s = els d s.length ∧ s.length = n + 1

theorem ownsRow_any {w w' : World} {base : Nat} {e : TypeId} {size n : Nat} {v : Value} {xs : List Value} (h : w.ownsRow base e size v n xs) (hb : ∀ g, v.ownBlock = some g → w'.heap[g]? = w.heap[g]?) : w'.ownsRow base e size v n xs := by
  obtain ⟨h1, h2⟩ := h
  refine ⟨h1, ?_⟩
  rcases h2 with h2 | ⟨g', cap, cur, a, b, c', d⟩
  · exact .inl h2
  · cases a
    exact .inr ⟨g', cap, cur, rfl, b, (hb g' rfl).trans c', d⟩
theorem ownsRow_lt {w : World} {base : Nat} {e : TypeId} {size n : Nat} {v : Value} {xs : List Value} (h : w.ownsRow base e size v n xs) (g : Nat) (hg : v.ownBlock = some g) : base ≤ g ∧ g < w.heap.size := by
  exact h.lt g hg

theorem LiI.stable (d : List Int) (n B b0 b1 : Nat) : Stable (LiI d n B b0 b1) := fun D s A C ⟨v, h1, hne, hlt, hsz, h2, h3, h4, h5, h6⟩ hs hk =>
  ⟨v, h1, hne, hlt, Nat.lt_of_lt_of_le hsz hs, (hk _ ((h1 _).2 (.inl rfl))).trans h2, (hk _ ((h1 _).2 (.inr (.inl rfl)))).trans h3, ownsRow_any h4 (fun g hg => hk _ ((h1 _).2 (.inr (.inr hg)))), h5, h6⟩
theorem LiI.lies (d : List Int) (n B b0 b1 : Nat) : Lies (LiI d n B b0 b1) := fun D s A ⟨v, h1, hne, hlt, hsz, h2, h3, h4, h5, h6⟩ k hk => by
  rcases (h1 k).1 hk with rfl | rfl | h
  · exact Nat.lt_trans hlt hsz
  · exact hsz
  · exact (ownsRow_lt h4 k h).2
theorem LiX.stable (d : List Int) (n B b0 b1 : Nat) (c : Code) : Stable (LiX d n B b0 b1 c) := fun D s A C ⟨h0, v, h1, hne, hlt, hsz, h2, h3, h4, h5, h6⟩ hs hk =>
  ⟨h0, v, h1, hne, hlt, Nat.lt_of_lt_of_le hsz hs, (hk _ ((h1 _).2 (.inl rfl))).trans h2, (hk _ ((h1 _).2 (.inr (.inl rfl)))).trans h3, ownsRow_any h4 (fun g hg => hk _ ((h1 _).2 (.inr (.inr hg)))), h5, h6⟩
theorem LiX.lies (d : List Int) (n B b0 b1 : Nat) (c : Code) : Lies (LiX d n B b0 b1 c) := fun D s A ⟨h0, v, h1, hne, hlt, hsz, h2, h3, h4, h5, h6⟩ k hk => by
  rcases (h1 k).1 hk with rfl | rfl | h
  · exact Nat.lt_trans hlt hsz
  · exact hsz
  · exact (ownsRow_lt h4 k h).2

set_option maxRecDepth 100000 in
set_option maxHeartbeats 4000000 in
theorem list_in (F : Fence) (m : Nat) (hWd : Wide F) (hF : ∀ f, F.fn f) (hro : F.round = none) (hn : F.depth = none) (s : ByteArray) (d : List Int) (n : Nat) (hN : n ≤ 3000) (hcode : IsCode s d) (w : World) :
    CallsIn F m Tryz.prog 12 #[.string s, .int .i64 (n : Int)] w fun e w' => ∃ v, e = .returned v ∧ w'.ownsRow w.heap.size 3 1 v (n + 1) ((vals d n).map (Value.int .i64)) ∧ Below w.heap.size w w' := by
  have hFf := hF 12
  refine callsIn_of_wp_marks Tryz.func12 rfl hFf ?_ hro
  simp only [Tryz.ntmps12, List.size_toArray, List.length_cons, List.length_nil, Nat.reduceAdd, Nat.reduceSub, Array.replicate_succ, Array.replicate_zero, List.push_toArray, List.append_toArray, List.nil_append, List.cons_append]
  gi_wp2_with (gi_at_call 37; refine (hWd.calls (values_any _ _)).mono ?_; rintro e w1 ⟨rfl, rfl⟩)
  obtain ⟨w5, hw5⟩ : ∃ w5, ((w.alloc (Obj.cells #[Value.int IntKind.i64 ↑n] 3)).alloc (Obj.cells #[Value.slice none 0 0] 22)).alloc (Obj.cells #[Value.string s] 9) = w5 := ⟨_, rfl⟩
  have hs5 : w5.heap.size = w.heap.size + 3 := by rw [← hw5]; simp
  have hb5 : Below w.heap.size w w5 := by rw [← hw5]; exact (((Below.refl _ w).alloc (Nat.le_refl _) _).alloc (by simp) _).alloc (by simp; omega) _
  have h0 : w5.heap[w.heap.size]? = some (.cells #[.int .i64 (n : Int)] 3 (0, 0)) := by
    rw [← hw5]
    exact (Below.heap_alloc _ _ _ (by simp; omega)).trans ((Below.heap_alloc _ _ _ (by simp)).trans (World.alloc_heap_new w _))
  have h1 : w5.heap[w.heap.size + 1]? = some (.cells #[Value.slice none 0 0] 22 (0, 0)) := by
    have h1 := World.alloc_heap_new (w.alloc (Obj.cells #[Value.int IntKind.i64 ↑n] 3)) (Obj.cells #[Value.slice none 0 0] 22)
    rw [World.size_alloc] at h1
    rw [← hw5]; exact (Below.heap_alloc _ _ _ (by simp)).trans h1
  have h2 : w5.cell? ⟨w.heap.size + 1 + 1, 0, none⟩ = some (.string s) := by
    have h1 := World.alloc_heap_new ((w.alloc (Obj.cells #[Value.int IntKind.i64 ↑n] 3)).alloc (Obj.cells #[Value.slice none 0 0] 22)) (Obj.cells #[Value.string s] 9)
    simp only [World.size_alloc] at h1
    rw [hw5] at h1
    simp [World.cell?, h1]
  rw [hw5]
  clear hw5
  have H0 := Lib.hid h0
  have H1 := Lib.hid h1
  have H2 := Lib.hid h2
  clear h0 h1 h2
  obtain ⟨i0, hi, hz0, hz1, hz2⟩ := info_parts info3
  have HS5 := Lib.hid hs5
  clear hs5
  refine wpIn_range hro hn (gf := 56) (lb := #[.pointer (some ⟨w.heap.size + 1 + 1, 0, none⟩)]) rfl (hF _) (enters_of Tryz.func56 (by kernel_rfl) rfl)
    (values_seq F (m - 1) hWd hF hro hn (w.heap.size + 1 + 1) s d n hN hcode) (fun _ => rfl)
    (LiI d n w.heap.size w.heap.size (w.heap.size + 1)) (LiX d n w.heap.size w.heap.size (w.heap.size + 1)) (LiI.stable _ _ _ _ _) (LiI.lies _ _ _ _ _) (fun c => LiX.stable _ _ _ _ _ c) (fun c => LiX.lies _ _ _ _ _ c) (fun b e D s W h => by cases e; obtain ⟨v, h⟩ := h; exact h.2.2.2.2.2.2.2.2)
    (fun i => i = w.heap.size ∨ i = w.heap.size + 1) ⟨.slice none 0 0, ?i1, ?i2, ?i3, ?i4, H0.out, H1.out, ?i5, ?i6, ?i7⟩ ?own (fun x => { tmps := #[.string s, .int .i64 (n : Int), undef, .pointer (some ⟨w.heap.size, 0, none⟩), .slice none 0 0, .pointer (some ⟨w.heap.size + 1, 0, none⟩), .int .i64 x.1, .int .i64 x.2, .string s, .func (.func 56) #[] #[.pointer (some ⟨w.heap.size + 1 + 1, 0, none⟩)], .int .i64 x.1, .int .i64 x.2, undef, undef, undef, undef, undef, undef, undef, undef], defers := [] }) ?assign ?body ?done ?stop
  case i1 => intro i; simp [Value.ownBlock]
  case i2 => intro i h; simp [Value.ownBlock] at h
  case i3 => omega
  case i4 => have := HS5.out; omega
  case i5 => exact World.ownsRow_nil _ _ _ _
  case i6 => rfl
  case i7 => simp
  case own =>
    intro Wx Dx hbx hdx
    have hsx := hbx.size
    have hs5 := HS5.out
    refine ⟨(hbx.cell (p := ⟨w.heap.size + 1 + 1, 0, none⟩) (by simp only; omega)).trans H2.out, ?_, by omega⟩
    intro h; rcases hdx _ h with (h | h) | h <;> omega
  case assign =>
    intro l2 x Wa K hK
    gi_wp2
    exact hK
  case body =>
    rintro l2 D4 pre ⟨p, q⟩ Wb hszb ⟨v, hD4, hne, _, hsz, hb0, hb1, hrow, hpre, hlen⟩ hnext
    injection hnext with hp hq
    have c0 : Wb.cell? ⟨w.heap.size, 0, none⟩ = some (.int .i64 (n : Int)) := by simp [World.cell?, hb0]
    have c1 : Wb.cell? ⟨w.heap.size + 1, 0, none⟩ = some v := by simp [World.cell?, hb1]
    have hs5 := HS5.out
    have HB0 := Lib.hid hb0
    have HB1 := Lib.hid hb1
    have HROW := Lib.hid hrow
    have HPRE := Lib.hid hpre
    have HP := Lib.hid hp
    have HQ := Lib.hid hq
    clear hb0 hb1 hrow hpre hq hp
    have hb1' : ∀ w1 : World, (Wb.alloc (.cells #[.int .i64 q] 3)).grownBy w1 v.ownBlock → w1.heap[w.heap.size + 1]? = some (.cells #[v] 22 (0, 0)) := fun w1 hgr =>
      (hgr.block _ (by simp; omega) (by intro e; exact (hne _ e.symm).2 rfl)).trans ((Below.heap_alloc Wb _ _ hsz).trans HB1.out)
    have hb0' : ∀ w1 : World, (Wb.alloc (.cells #[.int .i64 q] 3)).grownBy w1 v.ownBlock → w1.heap[w.heap.size]? = some (.cells #[.int .i64 (n : Int)] 3 (0, 0)) := fun w1 hgr =>
      (hgr.block _ (by simp; omega) (by intro e; exact (hne _ e.symm).1 rfl)).trans ((Below.heap_alloc Wb _ _ (by omega)).trans HB0.out)
    have Hb1' := Lib.hid hb1'
    have Hb0' := Lib.hid hb0'
    clear hb1' hb0'
    have hcase : (p = (n : Int) ∧ (p == (n : Int)) = true) ∨ (p ≠ (n : Int) ∧ (p == (n : Int)) = false) := by
      by_cases h : p = (n : Int)
      · exact .inl ⟨h, by simp [h]⟩
      · exact .inr ⟨h, by simp [h]⟩
    have fin : ∀ (g' cap' : Nat) (w1 : World), w1.ownsRow w.heap.size 3 1 (.slice (some ⟨g', 0, none⟩) (pre.length + 1) cap') (pre.length + 1) (List.map (fun x => Value.int IntKind.i64 x.2) pre ++ [Value.int IntKind.i64 q]) →
        (Wb.alloc (.cells #[.int .i64 q] 3)).grownBy w1 v.ownBlock → (some g' = v.ownBlock ∨ some g' = some (Wb.heap.size + 1)) →
        (∀ D' : Nat → Prop, (∀ i, D' i ↔ i = w.heap.size ∨ i = w.heap.size + 1 ∨ some g' = some i) → Fr D4 Wb (w1.setCell ⟨w.heap.size + 1, 0, none⟩ (.slice (some ⟨g', 0, none⟩) (pre.length + 1) cap')) ∧ (∀ k, D' k → D4 k ∨ Wb.heap.size ≤ k)) ∧
        (∀ i, some g' = some i → i ≠ w.heap.size ∧ i ≠ w.heap.size + 1) ∧
        w.heap.size + 1 < (w1.setCell ⟨w.heap.size + 1, 0, none⟩ (.slice (some ⟨g', 0, none⟩) (pre.length + 1) cap')).heap.size ∧
        (w1.setCell ⟨w.heap.size + 1, 0, none⟩ (.slice (some ⟨g', 0, none⟩) (pre.length + 1) cap')).heap[w.heap.size]? = some (.cells #[.int .i64 (n : Int)] 3 (0, 0)) ∧
        (w1.setCell ⟨w.heap.size + 1, 0, none⟩ (.slice (some ⟨g', 0, none⟩) (pre.length + 1) cap')).heap[w.heap.size + 1]? = some (.cells #[.slice (some ⟨g', 0, none⟩) (pre.length + 1) cap'] 22 (0, 0)) ∧
        (w1.setCell ⟨w.heap.size + 1, 0, none⟩ (.slice (some ⟨g', 0, none⟩) (pre.length + 1) cap')).ownsRow w.heap.size 3 1 (.slice (some ⟨g', 0, none⟩) (pre.length + 1) cap') (pre ++ [(p, q)]).length ((pre ++ [(p, q)]).map (fun x => Value.int .i64 x.2)) ∧
        pre ++ [(p, q)] = els d (pre ++ [(p, q)]).length := by
      intro g' cap' w1 hown hgrow hat
      have hb1 := Hb1'.out w1 hgrow
      have hb0 := Hb0'.out w1 hgrow
      have hszg : (Wb.alloc (.cells #[.int .i64 q] 3)).heap.size ≤ w1.heap.size := hgrow.size
      have hgs : (Wb.alloc (.cells #[.int .i64 q] 3)).heap.size = Wb.heap.size + 1 := by simp
      have hgn : g' ≠ w.heap.size ∧ g' ≠ w.heap.size + 1 := by
        rcases hat with h | h
        · exact hne g' h.symm
        · have := Option.some.inj h; constructor <;> omega
      have f : Fr D4 Wb (w1.setCell ⟨w.heap.size + 1, 0, none⟩ (.slice (some ⟨g', 0, none⟩) (pre.length + 1) cap')) :=
        ((Fr.alloc D4 Wb (.cells #[.int .i64 q] 3)).trans (Fr.grown (D := D4) hgrow (fun i e => .inl ((hD4 i).2 (.inr (.inr e))))) (fun i h => .inl h)).trans (Fr.setCell (D := D4) w1 _ _ (.inl ((hD4 _).2 (.inr (.inl rfl))))) (fun i h => .inl h)
      refine ⟨fun D' hD' => ⟨f, fun k hk => ?_⟩, fun i e => by cases e; exact hgn, ?_, ?_, one_setCell hb1, ?_, ?_⟩
      · rcases (hD' k).1 hk with h | h | h
        · exact .inl ((hD4 k).2 (.inl h))
        · exact .inl ((hD4 k).2 (.inr (.inl h)))
        · rcases hat with e | e
          · exact .inl ((hD4 k).2 (.inr (.inr (e.symm.trans h))))
          · right; have h1 := Option.some.inj h; have h2 := Option.some.inj e; omega
      · have := f.size; omega
      · exact (Below.heap_setCell w1 _ _ _ (by simp only; omega)).trans hb0
      · rw [List.map_append, List.length_append]
        exact hown.kept (grownBy_setCell' w1 (w.heap.size + 1) _) (.inr (fun e => by cases e; exact hgn.2 rfl))
      · rw [List.length_append, List.length_singleton, els_succ, ← HPRE.out, HP.out, HQ.out]
    have Hfin := Lib.hid fin
    clear fin
    rcases hcase with ⟨hpn, hpe⟩ | ⟨hpn, hpe⟩
    all_goals
      have HPN := Lib.hid hpn
      clear hpn
      gi_wp2_with (gi_at_builtin; refine wpListIn_append_own_at _ rfl _ _ 22 rfl w.heap.size 3 i0 (.int .i64 0) 1 8 Tryz.underlying22 hi hz0 hz1 hz2 rfl (by decide) _ _ _ rfl (HROW.out.alloc _) ⟨Wb.heap.size, 0, none⟩ 1 1 [.int .i64 q] rfl rfl (cell_one_new _ _ _) (by simp [Value.oneCell']) (by unfold maxLen; omega) (by omega) (by simp; omega) ?_; intro v' w1 hown' hgrow _ hat; obtain ⟨g', cap', rfl⟩ := ownsRow_succ hown'; have hb1 := Hb1'.out w1 hgrow; have hc1 := cell_of_one hb1; have hf1 := free_of_one hb1; have HF := Lib.hid (Hfin.out g' cap' w1 hown' hgrow (by rw [World.size_alloc] at hat; exact hat)); have hc0 := cell_of_one (Hb0'.out w1 hgrow); clear hat hgrow hown'; have hc2 : (w1.setCell ⟨w.heap.size + 1, 0, none⟩ (.slice (some ⟨g', 0, none⟩) (pre.length + 1) cap')).cell? ⟨w.heap.size, 0, none⟩ = some (.int .i64 (n : Int)) := cell_of_one HF.out.2.2.2.1)
    · obtain ⟨f1, f2, f3, f4, f5, f6, f7⟩ := HF.out
      obtain ⟨f1a, f1b⟩ := f1 (fun i => i = w.heap.size ∨ i = w.heap.size + 1 ∨ some g' = some i) (fun i => Iff.rfl)
      have hpl := HP.out
      have hpn := HPN.out
      exact ⟨_, ⟨rfl, .slice (some ⟨g', 0, none⟩) (pre.length + 1) cap', fun i => Iff.rfl, f2, by omega, f3, f4, f5, f6, f7, by rw [List.length_append, List.length_singleton]; omega⟩, f1a, f1b⟩
    · obtain ⟨f1, f2, f3, f4, f5, f6, f7⟩ := HF.out
      obtain ⟨f1a, f1b⟩ := f1 (fun i => i = w.heap.size ∨ i = w.heap.size + 1 ∨ some g' = some i) (fun i => Iff.rfl)
      have hpl := HP.out
      have hpn := HPN.out
      exact ⟨_, ⟨.slice (some ⟨g', 0, none⟩) (pre.length + 1) cap', fun i => Iff.rfl, f2, by omega, f3, f4, f5, f6, f7, by rw [List.length_append, List.length_singleton]; omega⟩, f1a, f1b⟩
  case done =>
    rintro D5 xs Wd hx
    exact hx.elim
  case stop =>
    rintro D5 cx pre Wd ⟨rfl, v, hD5, hne, _, hsz, hb0, hb1, hrow, hpre, hlen⟩ hfr hsub hnd hdef
    have c1 : Wd.cell? ⟨w.heap.size + 1, 0, none⟩ = some v := by simp [World.cell?, hb1]
    gi_wp2
    have hrow' : (vals d n).map (Value.int .i64) = pre.map (fun x => Value.int IntKind.i64 x.2) := by
      rw [hpre, hlen, ← els_snd d n, List.map_map]
      rfl
    have hs5 := HS5.out
    refine leaves_marks (v := v) (D := fun i => i = w5.heap.size) [{ target := .collected w5.heap.size, args := #[] }] Wd (fun x hx => ?_) (by simp) (fun w' hw' => ⟨?_, v, rfl, ?_, ?_⟩)
    · rw [List.mem_singleton.1 hx]
      exact ⟨w5.heap.size, rfl, rfl, hdef⟩
    · simp [results, Tryz.f12, go_sem]
    · rw [hrow', ← hlen]
      refine ownsRow_any hrow (fun g hg => hw'.block g (ownsRow_lt hrow g hg).2 (fun e => ?_))
      exact hnd ((hD5 _).2 (.inr (.inr (e ▸ hg))))
    · have f : Fr (fun _ => False) w w' := ((Fr.of_below hb5).trans hfr (fun i h => by rcases h with h | h <;> (right; omega))).trans hw' (fun i h => by right; omega)
      exact f.below (Nat.le_refl _) (fun k h => h.elim)
end Go.Proofs.YtkfbdhlfajdpgaaGreatDoor.HList
