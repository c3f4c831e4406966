/- What heap.Moves' library calls do to rows of the call's own. -/
import Derived.Test.YtkfbdhlfajdpgaaGreatDoorHCompact
import Derived.Test.YtkfbdhlfajdpgaaGreatDoorHCompare
import Derived.Test.YtkfbdhlfajdpgaaGreatDoorHRowOps
import Derived.Test.YtkfbdhlfajdpgaaGreatDoorShelf
import Derived.Test.YtkfbdhlfajdpgaaGreatDoorHDigits
namespace Go.Proofs.YtkfbdhlfajdpgaaGreatDoor.HSteps
set_option linter.unusedVariables false
set_option linter.unusedSimpArgs false
open Go Go.RowKit Go.Shelf Go.Lib Go.Sort Go.Proofs Go.Proofs.YtkfbdhlfajdpgaaGreatDoor.HIter Go.Proofs.YtkfbdhlfajdpgaaGreatDoor.HNim Go.Proofs.YtkfbdhlfajdpgaaGreatDoor.HRowOps Go.Proofs.YtkfbdhlfajdpgaaGreatDoor.HCompare Go.Proofs.YtkfbdhlfajdpgaaGreatDoor.HCompact

abbrev iv (x : Int) : Value := Value.int .i64 x

theorem is_zero (x : Int) (w : World) : Calls Tryz.prog 19 #[.int .i64 x] w fun e w' => e = .returned (.bool (x == 0)) ∧ w' = w := by
  go_enter Tryz.func19, Tryz.ntmps19
  go_wp2
  go_ret
  exact ⟨rfl, rfl⟩
theorem is_out (x : Int) (w : World) : Calls Tryz.prog 11 #[.int .i64 x] w fun e w' => e = .returned (.bool (decide (x < 0) || decide (x > 200))) ∧ w' = w := by
  by_cases h : x < 0
  · go_enter Tryz.func11, Tryz.ntmps11
    go_wp2
    go_ret
    exact ⟨by simp [h], rfl⟩
  · go_enter Tryz.func11, Tryz.ntmps11
    go_wp2
    go_ret
    exact ⟨by simp [h]; omega, rfl⟩
theorem enters18 : ∀ args w, (callFunc 19 args).run Tryz.prog w = .ok (.enter 19 args) w := enters_of Tryz.func19 (by kernel_rfl) rfl
theorem enters11 : ∀ args w, (callFunc 11 args).run Tryz.prog w = .ok (.enter 11 args) w := enters_of Tryz.func11 (by kernel_rfl) rfl
theorem enters21 : ∀ args w, (callFunc 22 args).run Tryz.prog w = .ok (.enter 22 args) w := enters_of Tryz.func22 (by kernel_rfl) rfl
theorem enters23 : ∀ args w, (callFunc 24 args).run Tryz.prog w = .ok (.enter 24 args) w := enters_of Tryz.func24 (by kernel_rfl) rfl

/-- The range of heaps. -/
theorem contains_step (b off c : Nat) (hs : List Int) (w : World) (hl : hs.length ≤ 1000000) (hc : ∀ j, j < hs.length → w.cell? ⟨b, off + j, none⟩ = some (iv (hs[j]?.getD 0))) :
    Calls Tryz.prog 10 #[.slice (some ⟨b, off, none⟩) hs.length c, .func (.func 11) #[] #[]] w fun e w' => e = .returned (.bool (hs.any fun x => decide (x < 0) || decide (x > 200))) ∧ ∃ q, w' = w.drewN q := by
  have h := Tryz.slices_ContainsFunc (α := Int) iv (fun x => decide (x < 0) || decide (x > 200)) 11 #[] enters11 b off hs.length c hs w
    (fun W x _ => (is_out x W).mono (fun e w' h => ⟨h.1, 0, h.2⟩)) (Nat.le_refl _) (by omega) (fun j hj => by rw [hc j hj, List.getElem?_eq_getElem hj, getElem!_pos hs j hj]; rfl)
  rw [List.take_length] at h
  exact h

theorem clone_step (b off c : Nat) (hs : List Int) (w : World) (hl : hs.length ≤ 1000000) (hc : ∀ j, j < hs.length → w.cell? ⟨b, off + j, none⟩ = some (iv (hs[j]?.getD 0))) :
    Calls Tryz.prog 17 #[.slice (some ⟨b, off, none⟩) hs.length c] w fun e w' => ∃ g cap, e = .returned (.slice (some ⟨g, 0, none⟩) hs.length cap) ∧ w.heap.size ≤ g ∧ Row w' 3 g cap (hs.map iv) ∧ Below w.heap.size w w' := by
  refine (Tryz.slices_Clone_int b off hs.length c hs w (Nat.le_refl _) (by omega) (fun j hj => by rw [hc j hj, List.getD_eq_getElem?_getD])).mono ?_
  rintro e w' ⟨v, rfl, hv, hne, hb⟩
  rw [List.take_length] at hv
  obtain ⟨g, cap, rfl, h1, h2, h3⟩ := Row.of_owns hv hne
  rw [List.length_map]
  exact ⟨g, cap, rfl, h1, h2, hb⟩

theorem erase_eq (hs : List Int) (i : Nat) (hi : i < hs.length) : hs.take i ++ hs.drop (i + 1) = hs.eraseIdx i := by rw [List.eraseIdx_eq_take_drop_succ]

theorem delete_step (g cap i : Nat) (hs : List Int) (w : World) (hr : Row w 3 g cap (hs.map iv)) (hi : i < hs.length) :
    Calls Tryz.prog 16 #[.slice (some ⟨g, 0, none⟩) hs.length cap, .int .i64 i, .int .i64 ((i : Int) + 1)] w fun e w' => e = .returned (.slice (some ⟨g, 0, none⟩) (hs.eraseIdx i).length cap) ∧ Row w' 3 g cap ((hs.eraseIdx i).map iv) ∧ Fr (fun k => k = g) w w' := by
  have hle := hr.le
  rw [List.length_map] at hle
  have hm := hr.max
  have h := Tryz.slices_Delete_int g 0 cap i (i + 1) hs w hr.holds hle (by unfold maxLen at hm; omega) (by omega) (by omega)
  rw [show ((i + 1 : Nat) : Int) = (i : Int) + 1 by omega] at h
  refine h.mono ?_
  rintro e w' ⟨rfl, q, rfl⟩
  have e1 : hs.length - (i + 1 - i) = (hs.eraseIdx i).length := by rw [List.length_eraseIdx, if_pos hi]; omega
  have e2 : hs.take i ++ hs.drop (i + 1) ++ List.replicate (i + 1 - i) 0 = hs.eraseIdx i ++ [0] := by
    rw [erase_eq hs i hi, show i + 1 - i = 1 by omega]; rfl
  rw [e1, e2]
  have hlen : (hs.eraseIdx i ++ [0]).length = hs.length := by rw [List.length_append, List.length_eraseIdx, if_pos hi]; simp; omega
  refine ⟨rfl, ?_, Fr.put _ _ _ _ _⟩
  have := (hr.ahead q).put (l' := hs.eraseIdx i ++ [0]) hlen
  rw [List.map_append] at this
  exact this.cut

theorem delfunc_step (g cap : Nat) (l : List Int) (w : World) (hr : Row w 3 g cap (l.map iv)) :
    Calls Tryz.prog 18 #[.slice (some ⟨g, 0, none⟩) l.length cap, .func (.func 19) #[] #[]] w fun e w' => e = .returned (.slice (some ⟨g, 0, none⟩) (l.filter fun n => !(n == 0)).length cap) ∧ Row w' 3 g cap ((l.filter fun n => !(n == 0)).map iv) ∧ Fr (fun k => k = g) w w' := by
  have hle := hr.le
  rw [List.length_map] at hle
  have hm := hr.max
  have h := Tryz.slices_DeleteFunc (α := Int) iv (fun _ => rfl) (fun n => n == 0) 19 #[] enters18 0 (fun w => Tryz.zeroValue3 w) g 0 cap l.toArray w
    (fun W x _ => (is_zero x W).mono (fun e w' h => ⟨h.1, 0, h.2⟩)) (fun n os dk x _ => (is_zero x _).mono (fun e w' h => ⟨h.1, 0, h.2⟩)) hr.holds (by unfold maxLen at hm; simp; omega) (by simpa using hle)
  simp only [List.size_toArray] at h
  refine h.mono ?_
  rintro e w' ⟨rfl, q, rfl⟩
  have hf : (l.filter fun n => !(n == 0)).length ≤ l.length := List.length_filter_le _ _
  have hlen : ((l.filter fun n => !(n == 0)) ++ List.replicate (l.length - (l.filter fun n => !(n == 0)).length) 0).length = l.length := by
    rw [List.length_append, List.length_replicate]; omega
  refine ⟨rfl, ?_, Fr.put _ _ _ _ _⟩
  have := (hr.ahead q).put (l' := (l.filter fun n => !(n == 0)) ++ List.replicate (l.length - (l.filter fun n => !(n == 0)).length) 0) hlen
  rw [List.map_append] at this
  exact this.cut

theorem sort_step (g cap : Nat) (l : List Int) (w : World) (hl : l.length ≤ 1000000) (hr : Row w 3 g cap (l.map iv)) :
    Calls Tryz.prog 20 #[.slice (some ⟨g, 0, none⟩) l.length cap] w fun e w' => e = .returned (.tuple #[]) ∧ Row w' 3 g cap ((isort l).map iv) ∧ Fr (fun k => k = g) w w' := by
  refine (Tryz.slices_Sort_int g 0 cap l w hr.holds hr.lt (by omega)).mono ?_
  rintro e w' ⟨rfl, n, os, rfl⟩
  refine ⟨rfl, Row.grow ((hr.ahead n).put (l' := isort l) (isort_perm l).length_eq) os, Fr.puts _ _ _ _ _ _⟩

/-! ### the rows that are put out -/
/-- A row that is put out: its block, its cap, what it holds. -/
abbrev Ent := Nat × Nat × List Int
def encE (e : Ent) : Value := .slice (some ⟨e.1, 0, none⟩) e.2.2.length e.2.1
def Fits (base : Nat) (W : World) (e : Ent) : Prop := base ≤ e.1 ∧ Row W 3 e.1 e.2.1 (e.2.2.map iv) ∧ e.2.2.length ≤ 1000000
structure OutS (base : Nat) (W : World) (v : Value) (es : List Ent) : Prop where
  own : W.ownsRow base 22 1 v es.length (es.map encE)
  fits : ∀ e ∈ es, Fits base W e
  nodup : (es.map (·.1)).Nodup
theorem one_encE : OneCell encE := fun _ => rfl

theorem Fits.ne {base : Nat} {W : World} {e : Ent} {k : Nat} {cur : Array Value} {t : TypeId} (h : Fits base W e) (hb : W.heap[k]? = some (.cells cur t (0, 0))) (ht : t ≠ 3) : e.1 ≠ k := by
  rintro rfl
  obtain ⟨_, ⟨cur', h1, _⟩, _⟩ := h
  rw [hb] at h1
  injection h1 with h1
  injection h1 with _ h1
  exact ht h1
theorem Fits.fr {base : Nat} {W W' : World} {e : Ent} {D : Nat → Prop} (h : Fits base W e) (hf : Fr D W W') (hn : ¬ D e.1) : Fits base W' e := ⟨h.1, h.2.1.fr hf hn, h.2.2⟩

/-- A nil row, or the row of block g. -/
theorem OutS.cases {base : Nat} {W : World} {v : Value} {es : List Ent} (h : OutS base W v es) : (v = .slice none 0 0 ∧ es = []) ∨ ∃ g cap, v = .slice (some ⟨g, 0, none⟩) es.length cap ∧ base ≤ g ∧ Row W 22 g cap (es.map encE) := by
  by_cases hv : v = .slice none 0 0
  · left
    refine ⟨hv, ?_⟩
    subst hv
    obtain ⟨h1, h2⟩ := h.own
    rcases h2 with ⟨_, h2⟩ | ⟨g, cap, cur, h3, _⟩
    · exact List.eq_nil_of_length_eq_zero h2
    · cases h3
  · right
    obtain ⟨g, cap, h1, h2, h3, h4⟩ := Row.of_owns h.own hv
    rw [List.length_map] at h1
    exact ⟨g, cap, h1, h2, h3⟩

/-- The elements that may stand in the row while it is sorted: rows elsewhere. -/
abbrev El (W : World) (g : Nat) := { e : Ent // Row W 3 e.1 e.2.1 (e.2.2.map iv) ∧ e.1 ≠ g ∧ e.2.2.length ≤ 1000000 }
def encL {W : World} {g : Nat} (x : El W g) : Value := encE x.1
def cfL {W : World} {g : Nat} (x y : El W g) : Int := cmpL x.1.2.2 y.1.2.2

theorem ri_of {W : World} {e : TypeId} {g cap : Nat} {l : List Int} (h : Row W e g cap (l.map iv)) : RI W g l := fun j hj => h.cellAt j (by rw [List.getElem?_map, List.getElem?_eq_getElem hj]; rfl)

theorem cmp_lays (W : World) (g off size : Nat) (hg : g < W.heap.size) [Inhabited (El W g)] : CmpLays1 Tryz.prog 22 #[] (encL (W := W) (g := g)) cfL g off size W := by
  intro m os dk hs x y
  obtain ⟨x, hx1, hx2, hx3⟩ := x
  obtain ⟨y, hy1, hy2, hy3⟩ := y
  have hf : Fr (fun k => k = g) W (sortWorld encL W g off m dk os) := Fr.puts _ _ _ _ _ _
  refine (compare_calls x.2.2 y.2.2 x.1 x.2.1 y.1 y.2.1 _ hx3 hy3 (ri_of (hx1.fr hf hx2)) (ri_of (hy1.fr hf hy2))).mono ?_
  rintro e w' ⟨rfl, rfl⟩
  exact ⟨rfl, 0, #[], by rw [grow_empty]; rfl⟩

theorem swoL {W : World} {g : Nat} : SWO (ltOf (cfL (W := W) (g := g))) where
  irrefl x := by simp [ltOf, cfL, cmpL_self]
  trans x y z h1 h2 := by
    exact decide_eq_true (cmpL_trans (of_decide_eq_true h1) (of_decide_eq_true h2))
  ntrans x y z h1 h2 := by
    exact decide_eq_false (leL_trans _ _ _ (of_decide_eq_false h2) (of_decide_eq_false h1))

set_option maxHeartbeats 2000000 in
theorem insertion_none (p : Option Addr) (cap : Nat) (fv : Value) (w : World) :
    Calls Tryz.prog 69 #[.slice p 0 cap, .int .i64 0, .int .i64 0, fv] w fun e w' => e = .returned (.tuple #[]) ∧ w' = w := by
  go_enter Tryz.func69, Tryz.ntmps69
  go_wp2
  refine wp_loop_rounds 1 ?_
  rw [rounds_succ]
  go_wp2
  go_end0
  exact ⟨rfl, rfl⟩
set_option maxHeartbeats 2000000 in
theorem pdq_none (p : Option Addr) (cap : Nat) (lim : Int) (fv : Value) (w : World) :
    Calls Tryz.prog 41 #[.slice p 0 cap, .int .i64 0, .int .i64 0, .int .i64 lim, fv] w fun e w' => e = .returned (.tuple #[]) ∧ w' = w := by
  have hi := fun W => insertion_none p cap fv W
  go_enter Tryz.func41, Tryz.ntmps41
  go_wp2
  refine wp_loop_rounds 1 ?_
  rw [rounds_succ]
  go_wp2_with (go_at_call 69; refine (hi _).mono ?_; rintro e w' ⟨rfl, rfl⟩)
  (try simp only [Exit.inBlock, Exit.then]); refine bodyPost_ret (results_none rfl _ _ _) rfl ?_
  exact ⟨rfl, rfl⟩
set_option maxHeartbeats 2000000 in
theorem sortFunc_none (p : Option Addr) (cap : Nat) (fv : Value) (w : World) :
    Calls Tryz.prog 21 #[.slice p 0 cap, fv] w fun e w' => e = .returned (.tuple #[]) ∧ w' = w := by
  have hp := fun lim W => pdq_none p cap lim fv W
  have hl : ∀ W, Calls Tryz.prog 40 #[.int .u64 0] W fun e w' => e = .returned (.int .i64 (Lib.bitLen 0 : Nat)) ∧ w' = W := fun W => Tryz.bits_Len 0 W (by omega) (by omega)
  go_enter Tryz.func21, Tryz.ntmps21
  go_wp2_with (first | (go_at_call 40; refine (hl _).mono ?_; rintro e w' ⟨rfl, rfl⟩) | (go_at_call 41; refine (hp _ _).mono ?_; rintro e w' ⟨rfl, rfl⟩))
  go_end0
  exact ⟨rfl, rfl⟩

theorem sorted_pairwise {α : Type} [Inhabited α] {lt : α → α → Bool} {d : Array α} (h : SortedIn lt 0 d.size d) : d.toList.Pairwise (fun a b => lt b a = false) := by
  rw [List.pairwise_iff_getElem]
  intro i j hi hj hij
  have hi' : i < d.size := by simpa using hi
  have hj' : j < d.size := by simpa using hj
  have := h i j (Nat.zero_le _) hij hj'
  rw [getElem!_pos d i hi', getElem!_pos d j hj'] at this
  simpa using this
theorem perm_all {α : Type} [Inhabited α] {d d' : Array α} (h : PermIn 0 d.size d d') : d'.size = d.size ∧ d'.toList.Perm d.toList := by
  obtain ⟨h1, _, h3⟩ := h
  refine ⟨h1, ?_⟩
  rw [Array.extract_eq_self_of_le (by omega), Array.extract_eq_self_of_le (by omega)] at h3
  exact h3

set_option maxHeartbeats 2000000 in
/-- slices.SortFunc over the rows that are put out. -/
theorem sortOut (base : Nat) (w : World) (v : Value) (es : List Ent) (h : OutS base w v es) (hn : es.length ≤ 100000000) :
    Calls Tryz.prog 21 #[v, .func (.func 22) #[] #[]] w fun e w' => e = .returned (.tuple #[]) ∧ ∃ es', OutS base w' v es' ∧ es'.length = es.length ∧ es'.map (fun e => e.2.2) = lsort (es.map (fun e => e.2.2)) ∧ Fr (fun k => v.ownBlock = some k) w w' := by
  rcases h.cases with ⟨rfl, rfl⟩ | ⟨g, cap, rfl, hb, hr⟩
  · refine (sortFunc_none none 0 _ w).mono ?_
    rintro e w' ⟨rfl, rfl⟩
    exact ⟨rfl, [], h, rfl, by simp [lsort], Fr.refl _ _⟩
  · by_cases he : es = []
    · subst he
      refine (sortFunc_none (some ⟨g, 0, none⟩) cap _ w).mono ?_
      rintro e w' ⟨rfl, rfl⟩
      exact ⟨rfl, [], h, rfl, by simp [lsort], Fr.refl _ _⟩
    · have hg := hr.lt
      obtain ⟨cur, hcur, _⟩ := id hr
      have hel : ∀ e ∈ es, Row w 3 e.1 e.2.1 (e.2.2.map iv) ∧ e.1 ≠ g ∧ e.2.2.length ≤ 1000000 := fun e hm => ⟨(h.fits e hm).2.1, (h.fits e hm).ne hcur (by decide), (h.fits e hm).2.2⟩
      obtain ⟨ls, hls⟩ : ∃ ls : List (El w g), ls.map (·.1) = es := ⟨es.attach.map (fun x => ⟨x.1, hel x.1 x.2⟩), by rw [List.map_map]; exact List.attach_map_subtype_val es⟩
      obtain ⟨e0, r0, he0⟩ : ∃ e0 r0, es = e0 :: r0 := by cases es with
        | nil => exact absurd rfl he
        | cons a b => exact ⟨a, b, rfl⟩
      haveI : Inhabited (El w g) := ⟨⟨e0, hel e0 (by rw [he0]; simp)⟩⟩
      have hen : es.map encE = ls.map encL := by rw [← hls, List.map_map]; rfl
      have hll : ls.length = es.length := by rw [← hls, List.length_map]
      rw [hen] at hr
      have hc := Tryz.slices_SortFunc (α := El w g) encL (fun _ => rfl) cfL swoL 22 #[] g 0 cap ls.toArray w enters21 (cmp_lays w g 0 _ hg) hr.holds hg (by simp; omega)
      simp only [List.size_toArray, hll] at hc
      refine hc.mono ?_
      rintro e w' ⟨rfl, d', n, os, hp, hsd, rfl⟩
      have hp' : PermIn 0 ls.toArray.size ls.toArray d' := by simpa [hll] using hp
      obtain ⟨hsz, hperm⟩ := perm_all hp'
      have hsz' : d'.size = es.length := by rw [hsz]; simp [hll]
      have hpw := sorted_pairwise (d := d') (lt := ltOf cfL) (by rw [hsz']; exact hsd)
      have hperm' : d'.toList.Perm ls := by simpa using hperm
      have hf : Fr (fun k => k = g) w (sortWorld encL w g 0 n d' os) := Fr.puts _ _ _ _ _ _
      refine ⟨rfl, d'.toList.map (·.1), ⟨?_, ?_, ?_⟩, by simp [hsz'], ?_, hf.mono (fun k _ h => by simp [Value.ownBlock, h])⟩
      · have := (Row.grow ((hr.ahead n).put (l' := d'.toList) (by rw [hperm'.length_eq])) os).owns hb
        rw [List.length_map]
        rw [List.length_map] at this
        have e1 : (d'.toList.map (·.1)).map encE = d'.toList.map encL := by rw [List.map_map]; rfl
        rw [e1]
        have e2 : d'.toList.length = es.length := by simpa using hsz'
        rw [← e2]
        simpa [sortWorld] using this
      · intro e hm
        obtain ⟨x, hx, rfl⟩ := List.mem_map.1 hm
        have : x.1 ∈ es := by rw [← hls]; exact List.mem_map_of_mem (hperm'.mem_iff.1 hx)
        exact (h.fits _ this).fr hf x.2.2.1
      · have := ((hperm'.map (·.1)).map (·.1)).nodup_iff.2 (by rw [hls]; exact h.nodup)
        exact this
      · refine lsort_of ?_ ?_
        · have := (hperm'.map (·.1)).map (fun e => e.2.2)
          rw [hls] at this
          exact this
        · rw [List.pairwise_map, List.pairwise_map]
          refine hpw.imp (fun {a b} hab => ?_)
          exact of_decide_eq_false hab
end Go.Proofs.YtkfbdhlfajdpgaaGreatDoor.HSteps
